/-
  The reference's Join, where it joins.
-/
import Derived.Test.YthmkcckoeodhnaaCRefJoin
namespace Go.Proofs.Ythmkcckoeodhnaa
open Go.RowKit
set_option linter.unusedSimpArgs false
set_option linter.unusedVariables false

set_option maxRecDepth 100000 in
set_option maxHeartbeats 4000000 in
theorem rJoin_ok (a b : Circ) (GA OA GB OB : Option Addr) (gn gc on oc hn hc pn pc : Nat) (w : World) (hA : CAt w a GA OA gn on) (hB : CAt w b GB OB hn pn) (he : joinErr a b = 0) :
    Calls Try.prog 21 #[.agg #[.int .i64 a.inputs, .slice GA gn gc, .slice OA on oc], .agg #[.int .i64 b.inputs, .slice GB hn hc, .slice OB pn pc]] w (JoinPost a b w) := by
  have HA : Hid (CAt w a GA OA gn on) := hA
  have HB : Hid (CAt w b GB OB hn pn) := hB
  have HE : Hid (joinErr a b = 0) := he
  obtain ⟨hra, hrb, hio⟩ := joinErr_parts (a := a) (b := b) (by rw [he]; decide)
  have HRA : Hid (rightC a = true) := hra
  have HRB : Hid (rightC b = true) := hrb
  have hne : ((on : Int) != b.inputs) = false := by rw [← hA.ol, bne_eq_false_iff_eq]; exact hio
  have HIO : Hid ((on : Int) = b.inputs) := by show _ = _; rw [← hA.ol]; exact hio
  have hsum : (gn : Int) + (hn : Int) ≤ 20000 := by
    rw [joinErr, if_pos ⟨hra, hrb, hio⟩] at he
    split at he
    · rename_i h; rw [hA.gl, hB.gl] at h; omega
    · cases he
  obtain ⟨⟨ha0, ha1, hm, ha3⟩, hga, hoa⟩ := rightC_parts hra
  obtain ⟨⟨hb0, hb1, hm', hb3⟩, hgb, hob⟩ := rightC_parts hrb
  rw [hA.gl] at hm hoa
  rw [hA.ol] at ha3
  rw [hB.gl] at hm' hob
  rw [hB.ol] at hb3
  have HGB : Hid (∀ k, k < b.gates.length → gateOk (b.inputs + k) (b.gates.getD k default) = true) := hgb
  have HOA : Hid (a.outs.all (outOk (a.inputs + gn)) = true) := hoa
  have HOB : Hid (b.outs.all (outOk (b.inputs + hn)) = true) := hob
  have LGA : Hid (a.gates.length = gn) := hA.gl
  have LGB : Hid (b.gates.length = hn) := hB.gl
  have LOA : Hid (a.outs.length = on) := hA.ol
  have LOB : Hid (b.outs.length = pn) := hB.ol
  clear hA hB he hra hrb hio hga hgb hoa hob
  go_enter Try.func21, Try.ntmps21
  go_wp2_with fail
  refine (rRight_at a GA OA gn gc on oc _ (HA.out.up (by go_grown))).mono ?_
  rw [HRA.out]
  rintro e w1 ⟨rfl, hb⟩
  have B1 : Below w.heap.size w w1 := (show Below w.heap.size w (((w.alloc (.cells #[.int .i64 a.inputs, .slice GA gn gc, .slice OA on oc] 25)).alloc (.cells #[.int .i64 b.inputs, .slice GB hn hc, .slice OB pn pc] 25)).alloc (.cells #[.int .i64 0, .slice none 0 0, .slice none 0 0] 25)) by go_grown).trans (hb.mono (by simp; omega))
  have RA : Hid (Row w1 w.heap.size 25 [.int .i64 a.inputs, .slice GA gn gc, .slice OA on oc]) := (((Row.new w _ _).alloc _).alloc _).below hb (by simp; omega)
  have RB : Hid (Row w1 (w.heap.size + 1) 25 [.int .i64 b.inputs, .slice GB hn hc, .slice OB pn pc]) := ((row_new1 w _ _ _).alloc _).below hb (by simp)
  have RC : Hid (Row w1 (w.heap.size + 1 + 1) 25 [.int .i64 0, .slice none 0 0, .slice none 0 0]) := (row_new2 w _ _ _ _).below hb (by simp)
  clear hb
  have a0 := RA.out.cell 0
  have a1 := RA.out.cell 1
  have a2 := RA.out.cell 2
  have b0 := RB.out.cell 0
  have b1 := RB.out.cell 1
  have b2 := RB.out.cell 2
  have d0 := RC.out.cell 0
  have d1 := RC.out.cell 1
  have d2 := RC.out.cell 2
  have f0 := RC.out.frozen 0
  have f1 := RC.out.frozen 1
  have f2 := RC.out.frozen 2
  simp only [List.getElem?_cons_zero, List.getElem?_cons_succ] at a0 a1 a2 b0 b1 b2 d0 d1 d2
  go_wp2_with fail
  refine (rRight_at b GB OB hn hc pn pc _ (HB.out.up B1)).mono ?_
  rw [HRB.out]
  rintro e w2 ⟨rfl, hb⟩
  clear a0 a1 a2 b0 b1 b2 d0 d1 d2 f0 f1 f2
  have RA := (show Hid (Row w2 _ _ _) from RA.out.below hb RA.out.lt)
  have RB := (show Hid (Row w2 _ _ _) from RB.out.below hb RB.out.lt)
  have RC := (show Hid (Row w2 _ _ _) from RC.out.below hb RC.out.lt)
  have B1 := B1.trans (hb.mono B1.size)
  have hz : w.heap.size + 1 + 1 < w2.heap.size := RC.out.lt
  clear hb
  have a0 := RA.out.cell 0
  have a1 := RA.out.cell 1
  have a2 := RA.out.cell 2
  have b0 := RB.out.cell 0
  have b1 := RB.out.cell 1
  have b2 := RB.out.cell 2
  have d0 := RC.out.cell 0
  have d1 := RC.out.cell 1
  have d2 := RC.out.cell 2
  have f0 := RC.out.frozen 0
  have f1 := RC.out.frozen 1
  have f2 := RC.out.frozen 2
  simp only [List.getElem?_cons_zero, List.getElem?_cons_succ] at a0 a1 a2 b0 b1 b2 d0 d1 d2
  have HB1 : Hid (Below w.heap.size w w2) := B1
  have hz0 : w.heap.size < w2.heap.size := by omega
  have hz1 : w.heap.size + 1 < w2.heap.size := by omega
  have RA' : Hid (Row w2 _ _ _) := RA.out
  have RB' : Hid (Row w2 _ _ _) := RB.out
  have RC' : Hid (Row w2 _ _ _) := RC.out
  go_wp2_with (at_builtin; refine wpList_app rfl (.tmp 39) (.tmp 41) 23 rfl w2.heap.size 3 (.int .i64 0) 1 8 Try.underlying23 int_info3 rfl (by decide) (by decide) (.slice none 0 0) 0 [] rfl (World.ownsRow_nil _ _ _ _) w2.heap.size OA on oc (ints a.outs) rfl ?rd (ints_one _) ?hb ?hbase ?_)
  case rd => exact (HA.out.up HB1.out).outs
  case hb => omega
  case hbase => simp
  intro vt w3 hown hgrow hat
  obtain ⟨At0, ct0, rfl, _⟩ := Rd.own hown
  have B3 : Hid (Below w2.heap.size w2 w3) := (Below.refl _ _).grown hgrow (Nat.le_refl _) (by simp [Value.ownBlock])
  have OVT0 : Hid (w3.ownsRow w2.heap.size 3 1 (.slice At0 (0 + on) ct0) on (ints (toL a 0))) := by
    show World.ownsRow _ _ _ _ _ _ _
    simpa [toL] using hown
  clear hown hgrow hat a0 a1 a2 b0 b1 b2 d0 d1 d2 f0 f1 f2
  have a0 := (RA'.out.below B3.out RA'.out.lt).cell 0
  have a1 := (RA'.out.below B3.out RA'.out.lt).cell 1
  have b1 := (RB'.out.below B3.out RB'.out.lt).cell 1
  simp only [List.getElem?_cons_zero, List.getElem?_cons_succ] at a0 a1 b1
  go_wp2
  clear a0 a1 b1
  go_loopg [6, 7] hn (fun gg s6 s7 wr => ∃ kk : Nat, kk ≤ hn ∧ hn - kk ≤ gg ∧ s7 = .int .i64 kk ∧ Aside (Below w2.heap.size w2 wr) ∧ Aside (wr.ownsRow w2.heap.size 3 1 s6 (on + kk) (ints (toL a kk))))
  case atStart => exact ⟨0, Nat.zero_le _, by omega, rfl, B3.out, (show World.ownsRow _ _ _ _ _ _ _ from by simpa using OVT0.out)⟩
  case round =>
    clear B3 OVT0 RA RB RC
    obtain ⟨kk, hkk, hgg, rfl, BC, OVT⟩ := hrel
    obtain ⟨At, ct, rfl, _⟩ := Rd.own OVT.out
    have a0 := (RA'.out.below BC.out RA'.out.lt).cell 0
    have a1 := (RA'.out.below BC.out RA'.out.lt).cell 1
    have b1 := (RB'.out.below BC.out RB'.out.lt).cell 1
    simp only [List.getElem?_cons_zero, List.getElem?_cons_succ] at a0 a1 b1
    have hwr : w2.heap.size ≤ wr.heap.size := BC.out.size
    have hwr0 : w.heap.size < wr.heap.size := by omega
    have hwr1 : w.heap.size + 1 < wr.heap.size := by omega
    by_cases hlt : kk < hn
    · have hltz : (kk : Int) < (hn : Int) := by omega
      go_wp2_with (at_builtin; refine wpList_app rfl (.tmp 50) (.tmp 59) 23 rfl w2.heap.size 3 (.int .i64 0) 1 8 Try.underlying23 int_info3 rfl (by decide) (by decide) (.slice At (on + kk) ct) (on + kk) (ints (toL a kk)) rfl ?own (wr.heap.size + 1) (some ⟨wr.heap.size, 0, none⟩) 1 1 [.int .i64 (a.inputs + gn + kk)] rfl ?rd ?one ?hb ?hbase ?_)
      case own => exact OVT.out.alloc _
      case rd => exact Rd.lit wr #[.int .i64 (a.inputs + gn + kk)] 3 (sz := 1) (m := 1) rfl
      case one => intro u hu; simp at hu; subst hu; rfl
      case hb => omega
      case hbase => simp; omega
      intro v' w' hown' hgrow' hat'
      have HB' : Aside (Below w2.heap.size w2 w') := ((BC.out.alloc (by omega) _).grown hgrow' (by simp; omega) (fun k hk => (OVT.out.lt k hk).1))
      have HO' : Aside (w'.ownsRow w2.heap.size 3 1 v' (on + kk + 1) (ints (toL a (kk + 1)))) := by
        show World.ownsRow _ _ _ _ _ _ _
        rw [toL_succ, LGA.out, show ints (toL a kk ++ [a.inputs + gn + kk]) = ints (toL a kk) ++ [.int .i64 (a.inputs + gn + kk)] from by simp [ints]]
        exact hown'
      clear hown' hgrow' hat'
      go_wp2
      go_roundg (hn - (kk + 1))
      case measure => omega
      case rel => exact ⟨kk + 1, by omega, by omega, by go_num, HB'.out, HO'.out⟩
    · have hltz : ¬ (kk : Int) < (hn : Int) := by omega
      obtain rfl : kk = hn := by omega
      go_wp2_with (at_builtin; refine wpList_app rfl (.tmp 65) (.tmp 67) 22 rfl w2.heap.size 46 (.agg #[.int .i64 0, .int .i64 0, .int .i64 0]) 3 24 Try.underlying22 gate_info' rfl (by decide) (by decide) (.slice none 0 0) 0 [] rfl (World.ownsRow_nil _ _ _ _) w.heap.size GA gn gc (gatesCells a.gates) rfl ?rd (gatesCells_one' _) ?hb ?hbase ?_)
      case rd =>
        have B0 := HB1.out.trans (BC.out.mono HB1.out.size)
        exact HA.out.gates.below (show Below w.heap.size w _ by go_grown) (Nat.le_refl _)
      case hb => omega
      case hbase => first | omega | (simp; omega)
      intro vg w4 hown hgrow hat
      obtain ⟨Ag0, cg0, rfl, _⟩ := Rd.own hown
      have hg8l : wr.heap.size < w4.heap.size := by have := hgrow.size; simp at this; omega
      have RG0 : Hid (Row w4 wr.heap.size 25 [.int .i64 a.inputs, .slice none 0 0, .slice none 0 0]) := (Row.new wr _ [.int .i64 a.inputs, .slice none 0 0, .slice none 0 0]).grown hgrow (by simp [Value.ownBlock])
      have B4 : Hid (Below w2.heap.size w2 w4) := (BC.out.alloc hwr _).grown hgrow (by simp; omega) (by simp [Value.ownBlock])
      have OV0 : Hid (w4.ownsRow w2.heap.size 46 3 (.slice Ag0 gn cg0) gn (gatesCells a.gates)) := by
        show World.ownsRow _ _ _ _ _ _ _
        simpa using hown
      have OVT4 : Hid (w4.ownsRow w2.heap.size 3 1 (.slice At (on + kk) ct) (on + kk) (ints (toL a kk))) := World.ownsRow.kept (OVT.out.alloc _) hgrow (by cases At with
        | none => exact .inl rfl
        | some x => exact .inr (by simp [Value.ownBlock]))
      have g1 := RG0.out.cell 1
      have gf := RG0.out.frozen 1
      simp only [List.getElem?_cons_zero, List.getElem?_cons_succ] at g1
      clear hown hgrow hat
      generalize hg8e : wr.heap.size = g8 at RG0 g1 gf hg8l
      have hg8 : w2.heap.size ≤ g8 := by omega
      clear a0 a1 b1
      have b1 := (RB'.out.below B4.out RB'.out.lt).cell 1
      simp only [List.getElem?_cons_zero, List.getElem?_cons_succ] at b1
      go_wp2
      clear b1 g1 gf
      have OV1 : Hid ((w4.setCell ⟨g8, 1, none⟩ (.slice Ag0 gn cg0)).ownsRow w2.heap.size 46 3 (.slice Ag0 gn cg0) gn (gatesCells a.gates)) := own_far OV0.out (own_ne_row OV0.out RG0.out (by decide)) _
      have OVT5 : Hid ((w4.setCell ⟨g8, 1, none⟩ (.slice Ag0 gn cg0)).ownsRow w2.heap.size 3 1 (.slice At (on + kk) ct) (on + kk) (ints (toL a kk))) := own_far OVT4.out (own_ne_row OVT4.out RG0.out (by decide)) _
      have RG1 : Hid (Row (w4.setCell ⟨g8, 1, none⟩ (.slice Ag0 gn cg0)) g8 25 [.int .i64 a.inputs, .slice Ag0 gn cg0, .slice none 0 0]) := RG0.out.set 1 _
      have B5 : Hid (Below w2.heap.size w2 (w4.setCell ⟨g8, 1, none⟩ (.slice Ag0 gn cg0))) := B4.out.setCell hg8 _
      clear OV0 OVT4 RG0 B4 hg8e OVT BC
      obtain ⟨hn, rfl⟩ : ∃ m : Nat, m = kk := ⟨kk, rfl⟩
      go_loopg [9] hn (fun gg s9 wr => ∃ (kk : Nat) (v : Value), kk ≤ hn ∧ hn - kk ≤ gg ∧ s9 = .int .i64 kk ∧ Aside (Below w2.heap.size w2 wr) ∧ Aside (Row wr g8 25 [.int .i64 a.inputs, v, .slice none 0 0]) ∧ Aside (wr.ownsRow w2.heap.size 46 3 v (gn + kk) (gatesCells (a.gates ++ (b.gates.take kk).map (joinGate a b)))) ∧ Aside (wr.ownsRow w2.heap.size 3 1 (.slice At (on + hn) ct) (on + hn) (ints (toL a hn))))
      case atStart => exact ⟨0, .slice Ag0 gn cg0, Nat.zero_le _, by omega, rfl, B5.out, RG1.out, (show World.ownsRow _ _ _ _ _ _ _ from by simpa using OV1.out), OVT5.out⟩
      case round =>
        rename World => wr
        clear OV1 OVT5 RG1 B5
        obtain ⟨kk, v, hkk, hgg, rfl, BC, RG, OV, OVT⟩ := hrel
        obtain ⟨Av, cv, rfl, _⟩ := Rd.own OV.out
        have RA := (show Aside (Row wr _ _ _) from RA'.out.below BC.out RA'.out.lt)
        have RB := (show Aside (Row wr _ _ _) from RB'.out.below BC.out RB'.out.lt)
        have HBW : Aside (Below w.heap.size w wr) := HB1.out.trans (BC.out.mono HB1.out.size)
        have b1 := RB.out.cell 1
        have b2 := RB.out.cell 2
        have g0c := RG.out.cell 0
        have g1c := RG.out.cell 1
        have g2c := RG.out.cell 2
        simp only [List.getElem?_cons_zero, List.getElem?_cons_succ] at b1 b2 g0c g1c g2c
        have hg8r : g8 < wr.heap.size := RG.out.lt
        have hwr : w2.heap.size ≤ wr.heap.size := BC.out.size
        have hwr0 : w.heap.size < wr.heap.size := by omega
        have hwr1 : w.heap.size + 1 < wr.heap.size := by omega
        by_cases hlt : kk < hn
        · have hltz : (kk : Int) < (hn : Int) := by omega
          obtain ⟨ad, rfl, hbl, q0, q1, q2⟩ := (HB.out.up HBW.out).gates.gate hlt
          have HP := gateOk_ops (HGB.out kk (by rw [LGB.out]; exact hlt))
          have HTG : Aside _ := map_take_g (joinGate a b) b.gates kk (by rw [LGB.out]; exact hlt)
          generalize b.gates.getD kk default = g at q0 q1 q2 HP HTG
          generalize hgl : a.gates ++ (b.gates.take kk).map (joinGate a b) = gl at OV
          have HGL : Aside (a.gates ++ (b.gates.take kk).map (joinGate a b) = gl) := hgl
          clear hgl
          rcases HP with hq0 | ⟨hq1, ha', ha''⟩ | ⟨hq2, ha', ha'', hb', hb''⟩
          · have HJ : Aside _ := joinGate0 a b g hq0
            have hop : Aside (operandsF g.op = 0) := hq0
            clear hq0
            go_wp2_with fail
            refine (rOperands_any g.op _).mono ?_
            rw [hop.out]
            rintro e w' ⟨rfl, rfl⟩
            go_wp2_with (at_builtin; refine wpList_app rfl (.tmp 102) (.tmp 104) 22 rfl w2.heap.size 46 (.agg #[.int .i64 0, .int .i64 0, .int .i64 0]) 3 24 Try.underlying22 gate_info' rfl (by decide) (by decide) (.slice Av (gn + kk) cv) (gn + kk) (gatesCells gl) rfl ?own (wr.heap.size + 1 + 1) (some ⟨wr.heap.size + 1, 0, none⟩) 1 1 [.int .i64 g.op, .int .i64 g.a, .int .i64 g.b] rfl ?rd ?one ?hb ?hbase ?_)
            case own => exact (OV.out.alloc _).alloc _
            case rd =>
              have := Rd.lit (wr.alloc (.cells #[.int .i64 g.op, .int .i64 g.a, .int .i64 g.b] 46)) #[.int .i64 g.op, .int .i64 g.a, .int .i64 g.b] 46 (sz := 3) (m := 1) rfl
              simpa using this
            case one => intro u hu; simp at hu; rcases hu with rfl | rfl | rfl <;> rfl
            case hb => omega
            case hbase => simp; omega
            intro v' w' hown' hgrow' hat'
            obtain ⟨Av', cv', rfl, _⟩ := Rd.own hown'
            have hvg := own_ne_row OV.out RG.out (by decide)
            have RG' : Aside (Row w' g8 25 [.int .i64 a.inputs, .slice Av (gn + kk) cv, .slice none 0 0]) := ((RG.out.alloc _).alloc _).grown hgrow' (fun e => hvg e.symm)
            have hvg' : Aside (Value.ownBlock (.slice Av' (gn + kk + 1) cv') ≠ some g8) := own_ne_row hown' RG'.out (by decide)
            have HB' : Aside (Below w2.heap.size w2 w') := (((BC.out.alloc (by omega) _).alloc (by simp; omega) _).grown hgrow' (by simp; omega) (fun k hk => (OV.out.lt k hk).1))
            have HO' : Aside (w'.ownsRow w2.heap.size 46 3 (.slice Av' (gn + kk + 1) cv') (gn + kk + 1) (gatesCells (gl ++ [joinGate a b g]))) := by
              show World.ownsRow _ _ _ _ _ _ _
              rw [gatesCells_append, gatesCells_one, HJ.out]
              exact hown'
            have HT' : Aside (w'.ownsRow w2.heap.size 3 1 (.slice At (on + hn) ct) (on + hn) (ints (toL a hn))) := World.ownsRow.kept ((OVT.out.alloc _).alloc _) hgrow' (own_ne_own OVT.out OV.out (by decide))
            have g1 := RG'.out.cell 1
            have gf := RG'.out.frozen 1
            simp only [List.getElem?_cons_zero, List.getElem?_cons_succ] at g1
            clear hown' hgrow' hat' hvg g0c g1c g2c
            go_wp2
            go_roundg (hn - (kk + 1))
            case measure => omega
            case rel =>
              refine ⟨kk + 1, .slice Av' (gn + kk + 1) cv', by omega, by omega, by go_num, (show Below _ _ _ from HB'.out.setCell hg8 _), ?_, ?_, ?_⟩
              · show Row _ _ _ _
                exact RG'.out.set 1 _
              · show World.ownsRow _ _ _ _ _ _ _
                rw [HTG.out, ← List.append_assoc, HGL.out]
                exact own_far HO'.out hvg'.out _
              · exact own_far HT'.out (own_ne_row HT'.out RG'.out (by decide)) _
          · have HJ : Aside _ := joinGate1 a b g hq1
            have hop : Aside (operandsF g.op = 1) := hq1
            clear hq1
            obtain ⟨an, han⟩ : ∃ an : Nat, g.a = (an : Int) := ⟨g.a.toNat, by omega⟩
            have hax : an < on + hn := by have := HIO.out; omega
            obtain ⟨gt, ct', htv, hgt, hgtl⟩ := OVT.out.form (by omega)
            have va : wr.cell? ⟨gt, an, none⟩ = some (.int .i64 (joinWire a b g.a)) := by
              have h := OVT.out
              rw [htv] at h
              rw [h.cellAt an (by omega), ints_get _ an (by rw [toL_len, LOA.out]; exact hax), toL_at a b hn an (by rw [LOA.out]; exact HIO.out) (by rw [LOA.out]; exact hax), han]
            injection htv with htv1 _ htv3
            subst htv1
            subst htv3
            clear ha' ha''
            generalize joinWire a b g.a = x at HJ va
            rw [han] at q1
            have HAN : Aside (g.a = (an : Int)) := han
            clear han
            have hgtr : gt ≠ wr.heap.size := by omega
            go_wp2_with fail
            refine (rOperands_any g.op _).mono ?_
            rw [hop.out]
            rintro e w' ⟨rfl, rfl⟩
            go_wp2_with (at_builtin; refine wpList_app rfl (.tmp 102) (.tmp 104) 22 rfl w2.heap.size 46 (.agg #[.int .i64 0, .int .i64 0, .int .i64 0]) 3 24 Try.underlying22 gate_info' rfl (by decide) (by decide) (.slice Av (gn + kk) cv) (gn + kk) (gatesCells gl) rfl ?own (wr.heap.size + 1 + 1) (some ⟨wr.heap.size + 1, 0, none⟩) 1 1 [.int .i64 g.op, .int .i64 x, .int .i64 g.b] rfl ?rd ?one ?hb ?hbase ?_)
            case own => exact (OV.out.alloc _).alloc _
            case rd =>
              have := Rd.lit (wr.alloc (.cells #[.int .i64 g.op, .int .i64 x, .int .i64 g.b] 46)) #[.int .i64 g.op, .int .i64 x, .int .i64 g.b] 46 (sz := 3) (m := 1) rfl
              simpa using this
            case one => intro u hu; simp at hu; rcases hu with rfl | rfl | rfl <;> rfl
            case hb => omega
            case hbase => simp; omega
            intro v' w' hown' hgrow' hat'
            obtain ⟨Av', cv', rfl, _⟩ := Rd.own hown'
            have hvg := own_ne_row OV.out RG.out (by decide)
            have RG' : Aside (Row w' g8 25 [.int .i64 a.inputs, .slice Av (gn + kk) cv, .slice none 0 0]) := ((RG.out.alloc _).alloc _).grown hgrow' (fun e => hvg e.symm)
            have hvg' : Aside (Value.ownBlock (.slice Av' (gn + kk + 1) cv') ≠ some g8) := own_ne_row hown' RG'.out (by decide)
            have HB' : Aside (Below w2.heap.size w2 w') := (((BC.out.alloc (by omega) _).alloc (by simp; omega) _).grown hgrow' (by simp; omega) (fun k hk => (OV.out.lt k hk).1))
            have HO' : Aside (w'.ownsRow w2.heap.size 46 3 (.slice Av' (gn + kk + 1) cv') (gn + kk + 1) (gatesCells (gl ++ [joinGate a b g]))) := by
              show World.ownsRow _ _ _ _ _ _ _
              rw [gatesCells_append, gatesCells_one, HJ.out]
              exact hown'
            have HT' : Aside (w'.ownsRow w2.heap.size 3 1 (.slice (some ⟨gt, 0, none⟩) (on + hn) ct) (on + hn) (ints (toL a hn))) := World.ownsRow.kept ((OVT.out.alloc _).alloc _) hgrow' (own_ne_own OVT.out OV.out (by decide))
            have g1 := RG'.out.cell 1
            have gf := RG'.out.frozen 1
            simp only [List.getElem?_cons_zero, List.getElem?_cons_succ] at g1
            clear hown' hgrow' hat' hvg g0c g1c g2c
            go_wp2
            go_roundg (hn - (kk + 1))
            case measure => omega
            case rel =>
              refine ⟨kk + 1, .slice Av' (gn + kk + 1) cv', by omega, by omega, by go_num, (show Below _ _ _ from HB'.out.setCell hg8 _), ?_, ?_, ?_⟩
              · show Row _ _ _ _
                exact RG'.out.set 1 _
              · show World.ownsRow _ _ _ _ _ _ _
                rw [HTG.out, ← List.append_assoc, HGL.out]
                exact own_far HO'.out hvg'.out _
              · exact own_far HT'.out (own_ne_row HT'.out RG'.out (by decide)) _
          · have HJ : Aside _ := joinGate2 a b g hq2
            have hop : Aside (operandsF g.op = 2) := hq2
            clear hq2
            obtain ⟨an, han⟩ : ∃ an : Nat, g.a = (an : Int) := ⟨g.a.toNat, by omega⟩
            have hax : an < on + hn := by have := HIO.out; omega
            obtain ⟨gt, ct', htv, hgt, hgtl⟩ := OVT.out.form (by omega)
            have va : wr.cell? ⟨gt, an, none⟩ = some (.int .i64 (joinWire a b g.a)) := by
              have h := OVT.out
              rw [htv] at h
              rw [h.cellAt an (by omega), ints_get _ an (by rw [toL_len, LOA.out]; exact hax), toL_at a b hn an (by rw [LOA.out]; exact HIO.out) (by rw [LOA.out]; exact hax), han]
            obtain ⟨bn, hbn⟩ : ∃ bn : Nat, g.b = (bn : Int) := ⟨g.b.toNat, by omega⟩
            have hbx : bn < on + hn := by have := HIO.out; omega
            have vb : wr.cell? ⟨gt, bn, none⟩ = some (.int .i64 (joinWire a b g.b)) := by
              have h := OVT.out
              rw [htv] at h
              rw [h.cellAt bn (by omega), ints_get _ bn (by rw [toL_len, LOA.out]; exact hbx), toL_at a b hn bn (by rw [LOA.out]; exact HIO.out) (by rw [LOA.out]; exact hbx), hbn]
            injection htv with htv1 _ htv3
            subst htv1
            subst htv3
            clear ha' ha'' hb' hb''
            generalize joinWire a b g.a = x at HJ va
            rw [han] at q1
            generalize joinWire a b g.b = y at HJ vb
            rw [hbn] at q2
            have HAN : Aside (g.a = (an : Int)) := han
            clear han
            have HBN : Aside (g.b = (bn : Int)) := hbn
            clear hbn
            have hgtr : gt ≠ wr.heap.size := by omega
            go_wp2_with fail
            refine (rOperands_any g.op _).mono ?_
            rw [hop.out]
            rintro e w' ⟨rfl, rfl⟩
            go_wp2_with (at_builtin; refine wpList_app rfl (.tmp 102) (.tmp 104) 22 rfl w2.heap.size 46 (.agg #[.int .i64 0, .int .i64 0, .int .i64 0]) 3 24 Try.underlying22 gate_info' rfl (by decide) (by decide) (.slice Av (gn + kk) cv) (gn + kk) (gatesCells gl) rfl ?own (wr.heap.size + 1 + 1) (some ⟨wr.heap.size + 1, 0, none⟩) 1 1 [.int .i64 g.op, .int .i64 x, .int .i64 y] rfl ?rd ?one ?hb ?hbase ?_)
            case own => exact (OV.out.alloc _).alloc _
            case rd =>
              have := Rd.lit (wr.alloc (.cells #[.int .i64 g.op, .int .i64 x, .int .i64 y] 46)) #[.int .i64 g.op, .int .i64 x, .int .i64 y] 46 (sz := 3) (m := 1) rfl
              simpa using this
            case one => intro u hu; simp at hu; rcases hu with rfl | rfl | rfl <;> rfl
            case hb => omega
            case hbase => simp; omega
            intro v' w' hown' hgrow' hat'
            obtain ⟨Av', cv', rfl, _⟩ := Rd.own hown'
            have hvg := own_ne_row OV.out RG.out (by decide)
            have RG' : Aside (Row w' g8 25 [.int .i64 a.inputs, .slice Av (gn + kk) cv, .slice none 0 0]) := ((RG.out.alloc _).alloc _).grown hgrow' (fun e => hvg e.symm)
            have hvg' : Aside (Value.ownBlock (.slice Av' (gn + kk + 1) cv') ≠ some g8) := own_ne_row hown' RG'.out (by decide)
            have HB' : Aside (Below w2.heap.size w2 w') := (((BC.out.alloc (by omega) _).alloc (by simp; omega) _).grown hgrow' (by simp; omega) (fun k hk => (OV.out.lt k hk).1))
            have HO' : Aside (w'.ownsRow w2.heap.size 46 3 (.slice Av' (gn + kk + 1) cv') (gn + kk + 1) (gatesCells (gl ++ [joinGate a b g]))) := by
              show World.ownsRow _ _ _ _ _ _ _
              rw [gatesCells_append, gatesCells_one, HJ.out]
              exact hown'
            have HT' : Aside (w'.ownsRow w2.heap.size 3 1 (.slice (some ⟨gt, 0, none⟩) (on + hn) ct) (on + hn) (ints (toL a hn))) := World.ownsRow.kept ((OVT.out.alloc _).alloc _) hgrow' (own_ne_own OVT.out OV.out (by decide))
            have g1 := RG'.out.cell 1
            have gf := RG'.out.frozen 1
            simp only [List.getElem?_cons_zero, List.getElem?_cons_succ] at g1
            clear hown' hgrow' hat' hvg g0c g1c g2c
            go_wp2
            go_roundg (hn - (kk + 1))
            case measure => omega
            case rel =>
              refine ⟨kk + 1, .slice Av' (gn + kk + 1) cv', by omega, by omega, by go_num, (show Below _ _ _ from HB'.out.setCell hg8 _), ?_, ?_, ?_⟩
              · show Row _ _ _ _
                exact RG'.out.set 1 _
              · show World.ownsRow _ _ _ _ _ _ _
                rw [HTG.out, ← List.append_assoc, HGL.out]
                exact own_far HO'.out hvg'.out _
              · exact own_far HT'.out (own_ne_row HT'.out RG'.out (by decide)) _
        · have hltz : ¬ (kk : Int) < (hn : Int) := by omega
          obtain rfl : kk = hn := by omega
          have OVA : Aside (wr.ownsRow w2.heap.size 46 3 (.slice Av (gn + kk) cv) (gn + kk) (gatesCells (joinC a b).gates)) := by
            have := OV.out
            rw [List.take_of_length_le (by rw [LGB.out]; exact Nat.le_refl _)] at this
            exact this
          clear OV
          have HKB : Hid (∀ k, (Value.slice At (on + kk) ct).ownBlock = some k → k < wr.heap.size) := fun k hk => (OVT.out.lt k hk).2
          go_wp2
          obtain ⟨B6, hB6⟩ : ∃ n, n = wr.heap.size := ⟨_, rfl⟩
          have HB6 : Hid (B6 = wr.heap.size) := hB6
          have hB6l : w2.heap.size ≤ B6 := by omega
          have hB6g : g8 < B6 := by omega
          clear hB6 b1 b2 g0c g1c g2c
          go_loopg [12] pn (fun gg s12 wx => ∃ (jj : Nat) (vo : Value), jj ≤ pn ∧ pn - jj ≤ gg ∧ s12 = .int .i64 jj ∧ B6 ≤ wx.heap.size ∧ Aside (Below w2.heap.size w2 wx) ∧ Aside (Row wx g8 25 [.int .i64 a.inputs, .slice Av (gn + kk) cv, vo]) ∧ Aside (wx.ownsRow w2.heap.size 46 3 (.slice Av (gn + kk) cv) (gn + kk) (gatesCells (joinC a b).gates)) ∧ Aside (wx.ownsRow w2.heap.size 3 1 (.slice At (on + kk) ct) (on + kk) (ints (toL a kk))) ∧ Aside (wx.ownsRow B6 3 1 vo jj (ints ((b.outs.take jj).map (joinWire a b)))))
          case atStart => exact ⟨0, .slice none 0 0, Nat.zero_le _, by omega, rfl, Nat.le_of_eq HB6.out, BC.out, RG.out, OVA.out, OVT.out, World.ownsRow_nil _ _ _ _⟩
          case round =>
            rename World => wx
            have HKB' : Hid (∀ k, (Value.slice At (on + kk) ct).ownBlock = some k → k < B6) := by rw [HB6.out]; exact HKB.out
            clear BC RG OVA RA RB HBW OVT HKB HB6 hg8r hwr hwr0 hwr1
            obtain ⟨jj, vo, hjj, hgg2, rfl, hB6x, BC, RG, OVA, OVT, OVO⟩ := hrel
            obtain ⟨Ao, co, rfl, _⟩ := Rd.own OVO.out
            have RA := (show Aside (Row wx _ _ _) from RA'.out.below BC.out RA'.out.lt)
            have RB := (show Aside (Row wx _ _ _) from RB'.out.below BC.out RB'.out.lt)
            have RC := (show Aside (Row wx _ _ _) from RC'.out.below BC.out RC'.out.lt)
            have HBW : Aside (Below w.heap.size w wx) := HB1.out.trans (BC.out.mono HB1.out.size)
            have b2 := RB.out.cell 2
            have g0c := RG.out.cell 0
            have g1c := RG.out.cell 1
            have g2c := RG.out.cell 2
            have gf2 := RG.out.frozen 2
            simp only [List.getElem?_cons_zero, List.getElem?_cons_succ] at b2 g0c g1c g2c
            have hg8r : g8 < wx.heap.size := RG.out.lt
            have hwr : w2.heap.size ≤ wx.heap.size := BC.out.size
            have hwr0 : w.heap.size < wx.heap.size := by omega
            have hwr1 : w.heap.size + 1 < wx.heap.size := by omega
            by_cases hlt : jj < pn
            · have hltz : (jj : Int) < (pn : Int) := by omega
              obtain ⟨ad, rfl, hbl, q0⟩ := (HB.out.up HBW.out).outs.int hlt
              obtain ⟨ho1, ho2⟩ := outOk_at HOB.out (k := jj) (by rw [LOB.out]; exact hlt)
              have HT : Aside _ := map_take_i (joinWire a b) b.outs jj (by rw [LOB.out]; exact hlt)
              generalize b.outs.getD jj 0 = o at q0 ho1 ho2 HT
              generalize hol : (b.outs.take jj).map (joinWire a b) = ol at OVO HT
              clear hol
              obtain ⟨an, rfl⟩ : ∃ m : Nat, o = (m : Int) := ⟨o.toNat, by omega⟩
              have hax : an < on + kk := by have := HIO.out; omega
              obtain ⟨gt, ct', htv, hgt, hgtl⟩ := OVT.out.form (by omega)
              have va : wx.cell? ⟨gt, an, none⟩ = some (.int .i64 (joinWire a b an)) := by
                have h := OVT.out
                rw [htv] at h
                rw [h.cellAt an (by omega), ints_get _ an (by rw [toL_len, LOA.out]; exact hax), toL_at a b kk an (by rw [LOA.out]; exact HIO.out) (by rw [LOA.out]; exact hax)]
              injection htv with htv1 _ htv3
              subst htv1
              subst htv3
              generalize joinWire a b an = x at va HT
              have haz : (an : Int) < (on : Int) + (kk : Int) := by omega
              have haz' : (an : Int) < ((on + kk : Nat) : Int) := by omega
              go_wp2
              go_region_law (
                refine step_app rfl (.tmp 115) (.tmp 124) 23 rfl B6 3 (.int .i64 0) 1 8 Try.underlying23 int_info3 rfl (by decide) (by decide) (.slice Ao jj co) jj (ints ol) rfl ?own (wx.heap.size + 1) (some ⟨wx.heap.size, 0, none⟩) 1 1 [.int .i64 x] rfl ?rd ?one ?hb ?hbase ?_
                case own => exact OVO.out.alloc _
                case rd => exact Rd.lit wx #[.int .i64 x] 3 (sz := 1) (m := 1) rfl
                case one => intro u hu; simp at hu; subst hu; rfl
                case hb => omega
                case hbase => simp; omega
                intro v' w' hown' hgrow' hat'
                obtain ⟨Ao', co', rfl, _⟩ := Rd.own hown'
                have hvg := own_ne_row OVO.out RG.out (by decide)
                have RG' : Row w' g8 25 [.int .i64 a.inputs, .slice Av (gn + kk) cv, .slice Ao jj co] := (RG.out.alloc _).drew.grown hgrow' (fun e => hvg e.symm)
                have e2 := RG'.cell 2
                have ef := RG'.frozen 2
                simp only [List.getElem?_cons_zero, List.getElem?_cons_succ] at e2)
              all_goals
                have hgw : World.grownBy (wx.alloc (.cells #[.int .i64 x] 3)) w' (Value.slice Ao jj co).ownBlock := ⟨hgrow'.os, hgrow'.tape, hgrow'.output, hgrow'.size, hgrow'.block⟩
                have HB' : Aside (Below w2.heap.size w2 w') := (BC.out.alloc (by omega) _).grown hgw (by simp; omega) (fun k hk => Nat.le_trans hB6l (OVO.out.lt k hk).1)
                have HO' : Aside (w'.ownsRow B6 3 1 (.slice Ao' (jj + 1) co') (jj + 1) (ints (ol ++ [x]))) := by
                  show World.ownsRow _ _ _ _ _ _ _
                  rw [show ints (ol ++ [x]) = ints ol ++ [.int .i64 x] from by simp [ints]]
                  exact hown'
                have HA' : Aside (w'.ownsRow w2.heap.size 46 3 (.slice Av (gn + kk) cv) (gn + kk) (gatesCells (joinC a b).gates)) := World.ownsRow.kept (OVA.out.alloc _) hgw (own_ne_own OVA.out OVO.out (by decide))
                have HT' : Aside (w'.ownsRow w2.heap.size 3 1 (.slice (some ⟨gt, 0, none⟩) (on + kk) ct) (on + kk) (ints (toL a kk))) := World.ownsRow.kept (OVT.out.alloc _) hgw (.inr (fun e => by
                  have h1 := HKB'.out gt rfl
                  have h2 := (OVO.out.lt gt e.symm).1
                  omega))
                have hsz' : B6 ≤ w'.heap.size := by have := hgw.size; simp at this; omega
                have HRG : Aside (Row w' g8 25 [.int .i64 a.inputs, .slice Av (gn + kk) cv, .slice Ao jj co]) := RG'
                clear RG' hown' hgrow' hat' hvg hgw g0c g1c g2c gf2
                go_wp2
                go_roundg (pn - (jj + 1))
                case measure => omega
                case rel =>
                  refine ⟨jj + 1, .slice Ao' (jj + 1) co', by omega, by omega, by go_num, (by simpa using hsz'), (show Below _ _ _ from HB'.out.setCell hg8 _), ?_, ?_, ?_, ?_⟩
                  · show Row _ _ _ _
                    exact HRG.out.set 2 _
                  · show World.ownsRow _ _ _ _ _ _ _
                    exact own_far HA'.out (own_ne_row HA'.out HRG.out (by decide)) _
                  · show World.ownsRow _ _ _ _ _ _ _
                    exact own_far HT'.out (own_ne_row HT'.out HRG.out (by decide)) _
                  · show World.ownsRow _ _ _ _ _ _ _
                    rw [HT.out]
                    exact own_far HO'.out (own_ne_row HO'.out HRG.out (by decide)) _
            · have hltz : ¬ (jj : Int) < (pn : Int) := by omega
              obtain rfl : jj = pn := by omega
              have d0 := RC.out.cell 0
              have d1 := RC.out.cell 1
              have d2 := RC.out.cell 2
              have f0 := RC.out.frozen 0
              have f1 := RC.out.frozen 1
              have f2 := RC.out.frozen 2
              simp only [List.getElem?_cons_zero, List.getElem?_cons_succ] at d0 d1 d2
              have OVO' : Aside (wx.ownsRow B6 3 1 (.slice Ao jj co) jj (ints (joinC a b).outs)) := by
                have := OVO.out
                rw [List.take_of_length_le (by rw [LOB.out]; exact Nat.le_refl _)] at this
                exact this
              clear OVO
              have HK : Aside (JoinPost a b w (.returned (.tuple #[.agg #[.int .i64 a.inputs, .slice Av (gn + kk) cv, .slice Ao jj co], .int .i64 0])) (((wx.setCell ⟨w.heap.size + 1 + 1, 0, none⟩ (.int .i64 a.inputs)).setCell ⟨w.heap.size + 1 + 1, 1, none⟩ (.slice Av (gn + kk) cv)).setCell ⟨w.heap.size + 1 + 1, 2, none⟩ (.slice Ao jj co))) := by
                have hj : joinR a b = joinC a b := by rw [joinR, if_pos HE.out]
                have n1 : (Value.slice Av (gn + kk) cv).ownBlock ≠ some (w.heap.size + 1 + 1) := fun h => by have := (OVA.out.lt _ h).1; omega
                have n2 : (Value.slice Ao jj co).ownBlock ≠ some (w.heap.size + 1 + 1) := fun h => by have := (OVO'.out.lt _ h).1; omega
                refine ⟨Av, Ao, gn + kk, cv, jj, co, ?_, ?_, ?_⟩
                · rw [hj, HE.out]; rfl
                · rw [hj]
                  refine ⟨Rd.of_own (own_far (own_far (own_far OVA.out n1 _) n1 _) n1 _), Rd.of_own (own_far (own_far (own_far OVO'.out n2 _) n2 _) n2 _), by unfold maxLen; omega, by unfold maxLen; omega⟩
                · have BW0 := HBW.out
                  exact ((BW0.setCell (by show w.heap.size ≤ w.heap.size + 1 + 1; omega) _).setCell (by show w.heap.size ≤ w.heap.size + 1 + 1; omega) _).setCell (by show w.heap.size ≤ w.heap.size + 1 + 1; omega) _
              go_wp2
              exact bodyPost_ret (v := .tuple #[.agg #[.int .i64 a.inputs, .slice Av (gn + kk) cv, .slice Ao jj co], .int .i64 0]) (by simp [results, Try.results21, go_sem, d0, d1, d2]) rfl HK.out

set_option maxRecDepth 100000 in
/-- The reference's Join, whatever comes of it. -/
theorem rJoin_any (a b : Circ) (GA OA GB OB : Option Addr) (gn gc on oc hn hc pn pc : Nat) (w : World) (hA : CAt w a GA OA gn on) (hB : CAt w b GB OB hn pn) :
    Calls Try.prog 21 #[.agg #[.int .i64 a.inputs, .slice GA gn gc, .slice OA on oc], .agg #[.int .i64 b.inputs, .slice GB hn hc, .slice OB pn pc]] w (JoinPost a b w) := by
  rcases joinErr_cases a b with h | h | h
  · exact rJoin_ok a b GA OA GB OB gn gc on oc hn hc pn pc w hA hB h
  · exact rJoin_err2 a b GA OA GB OB gn gc on oc hn hc pn pc w hA hB h
  · exact rJoin_err6 a b GA OA GB OB gn gc on oc hn hc pn pc w hA hB h
end Go.Proofs.Ythmkcckoeodhnaa
