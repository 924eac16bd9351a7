/-
  circuit.Join where there are too many gates, and where it joins.
-/
import Derived.Test.YthmkcckoeodhnaaCJoin
namespace Go.Proofs.Ythmkcckoeodhnaa
open Go.RowKit
set_option linter.unusedSimpArgs false
set_option linter.unusedVariables false

set_option maxRecDepth 100000 in
set_option maxHeartbeats 1000000 in
theorem join_err6 (a b : Circ) (GA OA GB OB : Option Addr) (gn gc on oc hn hc pn pc : Nat) (w : World) (hA : CAt w a GA OA gn on) (hB : CAt w b GB OB hn pn) (he : joinErr a b = 6) :
    Calls Try.prog 20 #[.agg #[.int .i64 a.inputs, .slice GA gn gc, .slice OA on oc], .agg #[.int .i64 b.inputs, .slice GB hn hc, .slice OB pn pc]] w (JoinPost a b w) := by
  have HA : Hid (CAt w a GA OA gn on) := hA
  have HB : Hid (CAt w b GB OB hn pn) := hB
  have HE : Hid (joinErr a b = 6) := he
  obtain ⟨hra, hrb, hio⟩ := joinErr_parts (a := a) (b := b) (by rw [he]; decide)
  have HRA : Hid (rightC a = true) := hra
  have HRB : Hid (rightC b = true) := hrb
  have hne : ((on : Int) != b.inputs) = false := by rw [← hA.ol, bne_eq_false_iff_eq]; exact hio
  have hsum : 20000 < (gn : Int) + (hn : Int) := by
    rw [joinErr, if_pos ⟨hra, hrb, hio⟩] at he
    split at he
    · cases he
    · rename_i h; rw [hA.gl, hB.gl] at h; omega
  have hm := (rightC_parts hra).1.2.2.1
  have hm' := (rightC_parts hrb).1.2.2.1
  rw [hA.gl] at hm
  rw [hB.gl] at hm'
  clear hA hB he hra hrb hio
  go_enter Try.func20, Try.ntmps20
  go_wp2_with fail
  refine (right_at a GA OA gn gc on oc _ (HA.out.up (by go_grown))).mono ?_
  rw [HRA.out]
  rintro e w1 ⟨rfl, hb⟩
  have B1 : Below w.heap.size w w1 := (show Below w.heap.size w (((w.alloc (.cells #[.int .i64 a.inputs, .slice GA gn gc, .slice OA on oc] 25)).alloc (.cells #[.int .i64 b.inputs, .slice GB hn hc, .slice OB pn pc] 25)).alloc (.cells #[.int .i64 0, .slice none 0 0, .slice none 0 0] 25)) by go_grown).trans (hb.mono (by simp; omega))
  have RA : Hid (Row w1 w.heap.size 25 [.int .i64 a.inputs, .slice GA gn gc, .slice OA on oc]) := (((Row.new w _ _).alloc _).alloc _).below hb (by simp; omega)
  have RB : Hid (Row w1 (w.heap.size + 1) 25 [.int .i64 b.inputs, .slice GB hn hc, .slice OB pn pc]) := ((row_new1 w _ _ _).alloc _).below hb (by simp)
  have RC : Hid (Row w1 (w.heap.size + 1 + 1) 25 [.int .i64 0, .slice none 0 0, .slice none 0 0]) := (row_new2 w _ _ _ _).below hb (by simp)
  clear hb
  have a0 := RA.out.cell 0
  have a1 := RA.out.cell 1
  have a2 := RA.out.cell 2
  have b0 := RB.out.cell 0
  have b1 := RB.out.cell 1
  have b2 := RB.out.cell 2
  have d0 := RC.out.cell 0
  have d1 := RC.out.cell 1
  have d2 := RC.out.cell 2
  have f0 := RC.out.frozen 0
  have f1 := RC.out.frozen 1
  have f2 := RC.out.frozen 2
  simp only [List.getElem?_cons_zero, List.getElem?_cons_succ] at a0 a1 a2 b0 b1 b2 d0 d1 d2
  go_wp2_with fail
  refine (right_at b GB OB hn hc pn pc _ (HB.out.up B1)).mono ?_
  rw [HRB.out]
  rintro e w2 ⟨rfl, hb⟩
  clear a0 a1 a2 b0 b1 b2 d0 d1 d2 f0 f1 f2
  have RA := (show Hid (Row w2 _ _ _) from RA.out.below hb RA.out.lt)
  have RB := (show Hid (Row w2 _ _ _) from RB.out.below hb RB.out.lt)
  have RC := (show Hid (Row w2 _ _ _) from RC.out.below hb RC.out.lt)
  have B1 := B1.trans (hb.mono B1.size)
  have hz : w.heap.size + 1 + 1 < w2.heap.size := RC.out.lt
  clear hb
  have a0 := RA.out.cell 0
  have a1 := RA.out.cell 1
  have a2 := RA.out.cell 2
  have b0 := RB.out.cell 0
  have b1 := RB.out.cell 1
  have b2 := RB.out.cell 2
  have d0 := RC.out.cell 0
  have d1 := RC.out.cell 1
  have d2 := RC.out.cell 2
  have f0 := RC.out.frozen 0
  have f1 := RC.out.frozen 1
  have f2 := RC.out.frozen 2
  simp only [List.getElem?_cons_zero, List.getElem?_cons_succ] at a0 a1 a2 b0 b1 b2 d0 d1 d2
  go_wp2
  exact bodyPost_ret (v := .tuple #[.agg #[.int .i64 0, .slice none 0 0, .slice none 0 0], .int .i64 6]) (by simp [results, Try.results20, go_sem, d0, d1, d2]) rfl (joinPost_err HE.out (by decide) (by go_grown))

set_option maxRecDepth 100000 in
set_option maxHeartbeats 4000000 in
theorem join_ok (a b : Circ) (GA OA GB OB : Option Addr) (gn gc on oc hn hc pn pc : Nat) (w : World) (hA : CAt w a GA OA gn on) (hB : CAt w b GB OB hn pn) (he : joinErr a b = 0) :
    Calls Try.prog 20 #[.agg #[.int .i64 a.inputs, .slice GA gn gc, .slice OA on oc], .agg #[.int .i64 b.inputs, .slice GB hn hc, .slice OB pn pc]] w (JoinPost a b w) := by
  have HA : Hid (CAt w a GA OA gn on) := hA
  have HB : Hid (CAt w b GB OB hn pn) := hB
  have HE : Hid (joinErr a b = 0) := he
  obtain ⟨hra, hrb, hio⟩ := joinErr_parts (a := a) (b := b) (by rw [he]; decide)
  have HRA : Hid (rightC a = true) := hra
  have HRB : Hid (rightC b = true) := hrb
  have hne : ((on : Int) != b.inputs) = false := by rw [← hA.ol, bne_eq_false_iff_eq]; exact hio
  have HIO : Hid ((on : Int) = b.inputs) := by show _ = _; rw [← hA.ol]; exact hio
  have hsum : (gn : Int) + (hn : Int) ≤ 20000 := by
    rw [joinErr, if_pos ⟨hra, hrb, hio⟩] at he
    split at he
    · rename_i h; rw [hA.gl, hB.gl] at h; omega
    · cases he
  obtain ⟨⟨ha0, ha1, hm, ha3⟩, hga, hoa⟩ := rightC_parts hra
  obtain ⟨⟨hb0, hb1, hm', hb3⟩, hgb, hob⟩ := rightC_parts hrb
  rw [hA.gl] at hm hoa
  rw [hA.ol] at ha3
  rw [hB.gl] at hm' hob
  rw [hB.ol] at hb3
  have HGB : Hid (∀ k, k < b.gates.length → gateOk (b.inputs + k) (b.gates.getD k default) = true) := hgb
  have HOA : Hid (a.outs.all (outOk (a.inputs + gn)) = true) := hoa
  have HOB : Hid (b.outs.all (outOk (b.inputs + hn)) = true) := hob
  have LGA : Hid (a.gates.length = gn) := hA.gl
  have LGB : Hid (b.gates.length = hn) := hB.gl
  have LOA : Hid (a.outs.length = on) := hA.ol
  have LOB : Hid (b.outs.length = pn) := hB.ol
  clear hA hB he hra hrb hio hga hgb hoa hob
  go_enter Try.func20, Try.ntmps20
  go_wp2_with fail
  refine (right_at a GA OA gn gc on oc _ (HA.out.up (by go_grown))).mono ?_
  rw [HRA.out]
  rintro e w1 ⟨rfl, hb⟩
  have B1 : Below w.heap.size w w1 := (show Below w.heap.size w (((w.alloc (.cells #[.int .i64 a.inputs, .slice GA gn gc, .slice OA on oc] 25)).alloc (.cells #[.int .i64 b.inputs, .slice GB hn hc, .slice OB pn pc] 25)).alloc (.cells #[.int .i64 0, .slice none 0 0, .slice none 0 0] 25)) by go_grown).trans (hb.mono (by simp; omega))
  have RA : Hid (Row w1 w.heap.size 25 [.int .i64 a.inputs, .slice GA gn gc, .slice OA on oc]) := (((Row.new w _ _).alloc _).alloc _).below hb (by simp; omega)
  have RB : Hid (Row w1 (w.heap.size + 1) 25 [.int .i64 b.inputs, .slice GB hn hc, .slice OB pn pc]) := ((row_new1 w _ _ _).alloc _).below hb (by simp)
  have RC : Hid (Row w1 (w.heap.size + 1 + 1) 25 [.int .i64 0, .slice none 0 0, .slice none 0 0]) := (row_new2 w _ _ _ _).below hb (by simp)
  clear hb
  have a0 := RA.out.cell 0
  have a1 := RA.out.cell 1
  have a2 := RA.out.cell 2
  have b0 := RB.out.cell 0
  have b1 := RB.out.cell 1
  have b2 := RB.out.cell 2
  have d0 := RC.out.cell 0
  have d1 := RC.out.cell 1
  have d2 := RC.out.cell 2
  have f0 := RC.out.frozen 0
  have f1 := RC.out.frozen 1
  have f2 := RC.out.frozen 2
  simp only [List.getElem?_cons_zero, List.getElem?_cons_succ] at a0 a1 a2 b0 b1 b2 d0 d1 d2
  go_wp2_with fail
  refine (right_at b GB OB hn hc pn pc _ (HB.out.up B1)).mono ?_
  rw [HRB.out]
  rintro e w2 ⟨rfl, hb⟩
  clear a0 a1 a2 b0 b1 b2 d0 d1 d2 f0 f1 f2
  have RA := (show Hid (Row w2 _ _ _) from RA.out.below hb RA.out.lt)
  have RB := (show Hid (Row w2 _ _ _) from RB.out.below hb RB.out.lt)
  have RC := (show Hid (Row w2 _ _ _) from RC.out.below hb RC.out.lt)
  have B1 := B1.trans (hb.mono B1.size)
  have hz : w.heap.size + 1 + 1 < w2.heap.size := RC.out.lt
  clear hb
  have a0 := RA.out.cell 0
  have a1 := RA.out.cell 1
  have a2 := RA.out.cell 2
  have b0 := RB.out.cell 0
  have b1 := RB.out.cell 1
  have b2 := RB.out.cell 2
  have d0 := RC.out.cell 0
  have d1 := RC.out.cell 1
  have d2 := RC.out.cell 2
  have f0 := RC.out.frozen 0
  have f1 := RC.out.frozen 1
  have f2 := RC.out.frozen 2
  simp only [List.getElem?_cons_zero, List.getElem?_cons_succ] at a0 a1 a2 b0 b1 b2 d0 d1 d2
  have HB1 : Hid (Below w.heap.size w w2) := B1
  have hz0 : w.heap.size < w2.heap.size := by omega
  have hz1 : w.heap.size + 1 < w2.heap.size := by omega
  go_upto_region 6 with fail
  go_cut [7] (fun s7 wx => ∃ g7 v, s7 = .pointer (some ⟨g7, 0, none⟩) ∧ Aside (Below w2.heap.size w2 wx) ∧ Aside (Row wx g7 25 [.int .i64 a.inputs, v, .slice none 0 0]) ∧ Aside (wx.ownsRow w2.heap.size 46 3 v gn (gatesCells a.gates)) ∧ w2.heap.size ≤ g7)
  case first =>
    go_region_with (
      go_at_call 33
      refine (clone_gates GA gn gc a.gates _ ((HA.out.up (by go_grown)).gates) (by omega)).mono ?_
      rintro e w3 ⟨A3, c3, rfl, hown, hb⟩
      have ra3 : Row w3 w.heap.size 25 [.int .i64 a.inputs, .slice GA gn gc, .slice OA on oc] := by first | exact RA.out.drew.below hb (by simp; omega) | exact (RA.out.alloc _).drew.below hb (by simp; omega)
      have z3 : w.heap.size < w3.heap.size := ra3.lt
      have a0' := ra3.cell 0
      have a1' := ra3.cell 1
      simp only [List.getElem?_cons_zero, List.getElem?_cons_succ] at a0' a1'
      try have r3 : Row w3 w2.heap.size 25 [.int .i64 0, .slice none 0 0, .slice none 0 0] := (Row.new w2 _ [.int .i64 0, .slice none 0 0, .slice none 0 0]).drew.below hb (by simp)
      try have q0 := r3.cell 0
      try have q1 := r3.cell 1
      try have q2 := r3.cell 2
      try have p0 := r3.frozen 0
      try have p1 := r3.frozen 1
      try have p2 := r3.frozen 2
      try simp only [List.getElem?_cons_zero, List.getElem?_cons_succ] at q0 q1 q2
      )
    all_goals (go_wp2_with fail; go_meet)
    all_goals first
      | exact ⟨w3.heap.size, .slice A3 gn c3, rfl, ((Below.refl w2.heap.size w2).drew.trans hb).alloc hb.size _, Row.new _ _ [.int .i64 a.inputs, .slice A3 gn c3, .slice none 0 0], hown.alloc _, hb.size⟩
      | (have hne3 : (Value.slice A3 gn c3).ownBlock ≠ some w2.heap.size := fun hk => by have := (hown.lt _ hk).1; simp at this; omega
         exact ⟨w2.heap.size, .slice A3 gn c3, rfl, (show Below w2.heap.size w2 _ from ((((((Below.refl w2.heap.size w2).alloc (Nat.le_refl _) _).drew.trans (hb.mono (by simp))).setCell (Nat.le_refl _) _).setCell (Nat.le_refl _) _).setCell (Nat.le_refl _) _)), ((r3.set 0 _).set 1 _).set 2 _, own_far (own_far (own_far (own_base hown (by simp)) hne3 _) hne3 _) hne3 _, Nat.le_refl _⟩)
  case rest =>
    have RA' := RA
    have RB' := RB
    have RC' := RC
    obtain ⟨g7, v0, rfl, BC, RG, OV, hg7⟩ := hcut
    clear a0 a1 a2 b0 b1 b2 d0 d1 d2 f0 f1 f2
    have RA := (show Aside (Row wc _ _ _) from RA.out.below BC.out RA.out.lt)
    have RB := (show Aside (Row wc _ _ _) from RB.out.below BC.out RB.out.lt)
    have RC := (show Aside (Row wc _ _ _) from RC.out.below BC.out RC.out.lt)
    have HBC : Aside (Below w.heap.size w wc) := HB1.out.trans (BC.out.mono HB1.out.size)
    have b1 := RB.out.cell 1
    simp only [List.getElem?_cons_zero, List.getElem?_cons_succ] at b1
    go_wp2
    clear b1
    go_loopg [49] hn (fun gg s49 wr => ∃ (kk : Nat) (v : Value), kk ≤ hn ∧ hn - kk ≤ gg ∧ s49 = .int .i64 kk ∧ Aside (Below w2.heap.size w2 wr) ∧ Aside (Row wr g7 25 [.int .i64 a.inputs, v, .slice none 0 0]) ∧ Aside (wr.ownsRow w2.heap.size 46 3 v (gn + kk) (gatesCells (a.gates ++ (b.gates.take kk).map (joinGate a b)))))
    case atStart => exact ⟨0, v0, Nat.zero_le _, by omega, rfl, BC.out, RG.out, (show World.ownsRow _ _ _ _ _ _ _ from by simpa using OV.out)⟩
    case round =>
      clear BC RG OV RA RB RC HBC
      obtain ⟨kk, v, hkk, hgg, rfl, BC, RG, OV⟩ := hrel
      obtain ⟨Av, cv, rfl, _⟩ := Rd.own OV.out
      have RA := (show Aside (Row wr _ _ _) from RA'.out.below BC.out RA'.out.lt)
      have RB := (show Aside (Row wr _ _ _) from RB'.out.below BC.out RB'.out.lt)
      have HBW : Aside (Below w.heap.size w wr) := HB1.out.trans (BC.out.mono HB1.out.size)
      have a0 := RA.out.cell 0
      have a1 := RA.out.cell 1
      have a2 := RA.out.cell 2
      have b0 := RB.out.cell 0
      have b2 := RB.out.cell 2
      have g0c := RG.out.cell 0
      have g1c := RG.out.cell 1
      have g2c := RG.out.cell 2
      simp only [List.getElem?_cons_zero, List.getElem?_cons_succ] at a0 a1 a2 b0 b2 g0c g1c g2c
      have hg7r : g7 < wr.heap.size := RG.out.lt
      have hwr : w2.heap.size ≤ wr.heap.size := BC.out.size
      by_cases hlt : kk < hn
      · have hltz : (kk : Int) < (hn : Int) := by omega
        obtain ⟨ad, rfl, hbl, q0, q1, q2⟩ := (HB.out.up HBW.out).gates.gate hlt
        have HP := gateOk_ops (HGB.out kk (by rw [LGB.out]; exact hlt))
        have HT : Aside _ := map_take_g (joinGate a b) b.gates kk (by rw [LGB.out]; exact hlt)
        generalize b.gates.getD kk default = g at q0 q1 q2 HP HT
        generalize hgl : a.gates ++ (b.gates.take kk).map (joinGate a b) = gl at OV
        have HGL : Aside (a.gates ++ (b.gates.take kk).map (joinGate a b) = gl) := hgl
        clear hgl
        rcases HP with hn0 | ⟨hn1, ha', ha''⟩ | ⟨hn2, ha', ha'', hb', hb''⟩
        · have HJ : Aside _ := joinGate0 a b g hn0
          have hop : Aside (operandsF g.op = 0) := hn0
          clear hn0
          go_wp2_with fail
          refine (operands_any g.op _).mono ?_
          rw [hop.out]
          rintro e w' ⟨rfl, rfl⟩
          go_wp2_with (at_builtin; refine wpList_app rfl (.tmp 71) (.tmp 73) 22 rfl w2.heap.size 46 (.agg #[.int .i64 0, .int .i64 0, .int .i64 0]) 3 24 Try.underlying22 gate_info rfl (by decide) (by decide) (.slice Av (gn + kk) cv) (gn + kk) (gatesCells gl) rfl ?own (wr.heap.size + 1 + 1) (some ⟨wr.heap.size + 1, 0, none⟩) 1 1 [.int .i64 g.op, .int .i64 g.a, .int .i64 g.b] rfl ?rd ?one ?hb ?hbase ?_)
          case own => exact (OV.out.alloc _).alloc _
          case rd =>
            have := Rd.lit (wr.alloc (.cells #[.int .i64 g.op, .int .i64 g.a, .int .i64 g.b] 46)) #[.int .i64 g.op, .int .i64 g.a, .int .i64 g.b] 46 (sz := 3) (m := 1) rfl
            simpa using this
          case one => intro u hu; simp at hu; rcases hu with rfl | rfl | rfl <;> rfl
          case hb => omega
          case hbase => simp; omega
          intro v' w' hown' hgrow' hat'
          obtain ⟨Av', cv', rfl, _⟩ := Rd.own hown'
          have hvg := own_ne_row OV.out RG.out (by decide)
          have RG' : Aside (Row w' g7 25 [.int .i64 a.inputs, .slice Av (gn + kk) cv, .slice none 0 0]) := ((RG.out.alloc _).alloc _).grown hgrow' (fun e => hvg e.symm)
          have hvg' : Aside (Value.ownBlock (.slice Av' (gn + kk + 1) cv') ≠ some g7) := own_ne_row hown' RG'.out (by decide)
          have HB' : Aside (Below w2.heap.size w2 w') := (((BC.out.alloc (by omega) _).alloc (by simp; omega) _).grown hgrow' (by simp; omega) (fun k hk => (OV.out.lt k hk).1))
          have HO' : Aside (w'.ownsRow w2.heap.size 46 3 (.slice Av' (gn + kk + 1) cv') (gn + kk + 1) (gatesCells (gl ++ [joinGate a b g]))) := by
            show World.ownsRow _ _ _ _ _ _ _
            rw [gatesCells_append, gatesCells_one, HJ.out]
            exact hown'
          have g1 := RG'.out.cell 1
          have gf := RG'.out.frozen 1
          simp only [List.getElem?_cons_zero, List.getElem?_cons_succ] at g1
          clear hown' hgrow' hat' hvg g0c g1c g2c
          go_wp2
          go_roundg (hn - (kk + 1))
          case measure => omega
          case rel =>
            refine ⟨kk + 1, .slice Av' (gn + kk + 1) cv', by omega, by omega, by go_num, (show Below _ _ _ from HB'.out.setCell hg7 _), ?_, ?_⟩
            · show Row _ _ _ _
              exact RG'.out.set 1 _
            · show World.ownsRow _ _ _ _ _ _ _
              rw [HT.out, ← List.append_assoc, HGL.out]
              exact own_far HO'.out hvg'.out _
        · have HJ : Aside _ := joinGate1 a b g hn1
          have hop : Aside (operandsF g.op = 1) := hn1
          clear hn1
          go_wp2_with fail
          refine (operands_any g.op _).mono ?_
          rw [hop.out]
          rintro e w' ⟨rfl, rfl⟩
          have BW0 := HBW.out
          go_wp2_with fail
          refine (joinw_any a b g.a (w.heap.size + 1) w.heap.size GA OA gn gc on oc _ (by simp (disch := (simp; omega)) only [World.cell?_alloc_lt]; exact b0) (by simp (disch := (simp; omega)) only [World.cell?_alloc_lt]; exact a0) (by simp (disch := (simp; omega)) only [World.cell?_alloc_lt]; exact a1) (by simp (disch := (simp; omega)) only [World.cell?_alloc_lt]; exact a2) (HA.out.up (by go_grown)).outs LGA.out HIO.out (by omega) (by omega) ha0 ha1 hm ha3).mono ?_
          rintro e w' ⟨rfl, rfl⟩
          generalize joinWire a b g.a = x at HJ
          clear BW0
          go_wp2_with (at_builtin; refine wpList_app rfl (.tmp 71) (.tmp 73) 22 rfl w2.heap.size 46 (.agg #[.int .i64 0, .int .i64 0, .int .i64 0]) 3 24 Try.underlying22 gate_info rfl (by decide) (by decide) (.slice Av (gn + kk) cv) (gn + kk) (gatesCells gl) rfl ?own (wr.heap.size + 1 + 1) (some ⟨wr.heap.size + 1, 0, none⟩) 1 1 [.int .i64 g.op, .int .i64 x, .int .i64 g.b] rfl ?rd ?one ?hb ?hbase ?_)
          case own => exact (OV.out.alloc _).alloc _
          case rd =>
            have := Rd.lit (wr.alloc (.cells #[.int .i64 g.op, .int .i64 x, .int .i64 g.b] 46)) #[.int .i64 g.op, .int .i64 x, .int .i64 g.b] 46 (sz := 3) (m := 1) rfl
            simpa using this
          case one => intro u hu; simp at hu; rcases hu with rfl | rfl | rfl <;> rfl
          case hb => omega
          case hbase => simp; omega
          intro v' w' hown' hgrow' hat'
          obtain ⟨Av', cv', rfl, _⟩ := Rd.own hown'
          have hvg := own_ne_row OV.out RG.out (by decide)
          have RG' : Aside (Row w' g7 25 [.int .i64 a.inputs, .slice Av (gn + kk) cv, .slice none 0 0]) := ((RG.out.alloc _).alloc _).grown hgrow' (fun e => hvg e.symm)
          have hvg' : Aside (Value.ownBlock (.slice Av' (gn + kk + 1) cv') ≠ some g7) := own_ne_row hown' RG'.out (by decide)
          have HB' : Aside (Below w2.heap.size w2 w') := (((BC.out.alloc (by omega) _).alloc (by simp; omega) _).grown hgrow' (by simp; omega) (fun k hk => (OV.out.lt k hk).1))
          have HO' : Aside (w'.ownsRow w2.heap.size 46 3 (.slice Av' (gn + kk + 1) cv') (gn + kk + 1) (gatesCells (gl ++ [joinGate a b g]))) := by
            show World.ownsRow _ _ _ _ _ _ _
            rw [gatesCells_append, gatesCells_one, HJ.out]
            exact hown'
          have g1 := RG'.out.cell 1
          have gf := RG'.out.frozen 1
          simp only [List.getElem?_cons_zero, List.getElem?_cons_succ] at g1
          clear hown' hgrow' hat' hvg g0c g1c g2c
          go_wp2
          go_roundg (hn - (kk + 1))
          case measure => omega
          case rel =>
            refine ⟨kk + 1, .slice Av' (gn + kk + 1) cv', by omega, by omega, by go_num, (show Below _ _ _ from HB'.out.setCell hg7 _), ?_, ?_⟩
            · show Row _ _ _ _
              exact RG'.out.set 1 _
            · show World.ownsRow _ _ _ _ _ _ _
              rw [HT.out, ← List.append_assoc, HGL.out]
              exact own_far HO'.out hvg'.out _
        · have HJ : Aside _ := joinGate2 a b g hn2
          have hop : Aside (operandsF g.op = 2) := hn2
          clear hn2
          go_wp2_with fail
          refine (operands_any g.op _).mono ?_
          rw [hop.out]
          rintro e w' ⟨rfl, rfl⟩
          have BW0 := HBW.out
          go_wp2_with fail
          refine (joinw_any a b g.a (w.heap.size + 1) w.heap.size GA OA gn gc on oc _ (by simp (disch := (simp; omega)) only [World.cell?_alloc_lt]; exact b0) (by simp (disch := (simp; omega)) only [World.cell?_alloc_lt]; exact a0) (by simp (disch := (simp; omega)) only [World.cell?_alloc_lt]; exact a1) (by simp (disch := (simp; omega)) only [World.cell?_alloc_lt]; exact a2) (HA.out.up (by go_grown)).outs LGA.out HIO.out (by omega) (by omega) ha0 ha1 hm ha3).mono ?_
          rintro e w' ⟨rfl, rfl⟩
          generalize joinWire a b g.a = x at HJ
          go_wp2_with fail
          refine (joinw_any a b g.b (w.heap.size + 1) w.heap.size GA OA gn gc on oc _ (by simp (disch := (simp; omega)) only [World.cell?_alloc_lt]; exact b0) (by simp (disch := (simp; omega)) only [World.cell?_alloc_lt]; exact a0) (by simp (disch := (simp; omega)) only [World.cell?_alloc_lt]; exact a1) (by simp (disch := (simp; omega)) only [World.cell?_alloc_lt]; exact a2) (HA.out.up (by go_grown)).outs LGA.out HIO.out (by omega) (by omega) ha0 ha1 hm ha3).mono ?_
          rintro e w' ⟨rfl, rfl⟩
          generalize joinWire a b g.b = y at HJ
          clear BW0
          go_wp2_with (at_builtin; refine wpList_app rfl (.tmp 71) (.tmp 73) 22 rfl w2.heap.size 46 (.agg #[.int .i64 0, .int .i64 0, .int .i64 0]) 3 24 Try.underlying22 gate_info rfl (by decide) (by decide) (.slice Av (gn + kk) cv) (gn + kk) (gatesCells gl) rfl ?own (wr.heap.size + 1 + 1) (some ⟨wr.heap.size + 1, 0, none⟩) 1 1 [.int .i64 g.op, .int .i64 x, .int .i64 y] rfl ?rd ?one ?hb ?hbase ?_)
          case own => exact (OV.out.alloc _).alloc _
          case rd =>
            have := Rd.lit (wr.alloc (.cells #[.int .i64 g.op, .int .i64 x, .int .i64 y] 46)) #[.int .i64 g.op, .int .i64 x, .int .i64 y] 46 (sz := 3) (m := 1) rfl
            simpa using this
          case one => intro u hu; simp at hu; rcases hu with rfl | rfl | rfl <;> rfl
          case hb => omega
          case hbase => simp; omega
          intro v' w' hown' hgrow' hat'
          obtain ⟨Av', cv', rfl, _⟩ := Rd.own hown'
          have hvg := own_ne_row OV.out RG.out (by decide)
          have RG' : Aside (Row w' g7 25 [.int .i64 a.inputs, .slice Av (gn + kk) cv, .slice none 0 0]) := ((RG.out.alloc _).alloc _).grown hgrow' (fun e => hvg e.symm)
          have hvg' : Aside (Value.ownBlock (.slice Av' (gn + kk + 1) cv') ≠ some g7) := own_ne_row hown' RG'.out (by decide)
          have HB' : Aside (Below w2.heap.size w2 w') := (((BC.out.alloc (by omega) _).alloc (by simp; omega) _).grown hgrow' (by simp; omega) (fun k hk => (OV.out.lt k hk).1))
          have HO' : Aside (w'.ownsRow w2.heap.size 46 3 (.slice Av' (gn + kk + 1) cv') (gn + kk + 1) (gatesCells (gl ++ [joinGate a b g]))) := by
            show World.ownsRow _ _ _ _ _ _ _
            rw [gatesCells_append, gatesCells_one, HJ.out]
            exact hown'
          have g1 := RG'.out.cell 1
          have gf := RG'.out.frozen 1
          simp only [List.getElem?_cons_zero, List.getElem?_cons_succ] at g1
          clear hown' hgrow' hat' hvg g0c g1c g2c
          go_wp2
          go_roundg (hn - (kk + 1))
          case measure => omega
          case rel =>
            refine ⟨kk + 1, .slice Av' (gn + kk + 1) cv', by omega, by omega, by go_num, (show Below _ _ _ from HB'.out.setCell hg7 _), ?_, ?_⟩
            · show Row _ _ _ _
              exact RG'.out.set 1 _
            · show World.ownsRow _ _ _ _ _ _ _
              rw [HT.out, ← List.append_assoc, HGL.out]
              exact own_far HO'.out hvg'.out _
      · have hltz : ¬ (kk : Int) < (hn : Int) := by omega
        obtain rfl : kk = hn := by omega
        have OVA : Aside (wr.ownsRow w2.heap.size 46 3 (.slice Av (gn + kk) cv) (gn + kk) (gatesCells (joinC a b).gates)) := by
          have := OV.out
          rw [List.take_of_length_le (by rw [LGB.out]; exact Nat.le_refl _)] at this
          exact this
        clear OV
        have RA0 := RA
        have RB0 := RB
        go_wp2
        clear a0 a1 a2 b0 b2 g0c g1c g2c
        go_loopg [80] pn (fun gg s80 wx => ∃ (jj : Nat) (vo : Value), jj ≤ pn ∧ pn - jj ≤ gg ∧ s80 = .int .i64 jj ∧ Aside (Below w2.heap.size w2 wx) ∧ Aside (Row wx g7 25 [.int .i64 a.inputs, .slice Av (gn + kk) cv, vo]) ∧ Aside (wx.ownsRow w2.heap.size 46 3 (.slice Av (gn + kk) cv) (gn + kk) (gatesCells (joinC a b).gates)) ∧ Aside (wx.ownsRow w2.heap.size 3 1 vo jj (ints ((b.outs.take jj).map (joinWire a b)))))
        case atStart => exact ⟨0, .slice none 0 0, Nat.zero_le _, by omega, rfl, BC.out, RG.out, OVA.out, World.ownsRow_nil _ _ _ _⟩
        case round =>
          rename World => wx
          clear BC RG OVA RA RB HBW RA0 RB0
          obtain ⟨jj, vo, hjj, hgg2, rfl, BC, RG, OVA, OVO⟩ := hrel
          obtain ⟨Ao, co, rfl, _⟩ := Rd.own OVO.out
          have RA := (show Aside (Row wx _ _ _) from RA'.out.below BC.out RA'.out.lt)
          have RB := (show Aside (Row wx _ _ _) from RB'.out.below BC.out RB'.out.lt)
          have RC := (show Aside (Row wx _ _ _) from RC'.out.below BC.out RC'.out.lt)
          have HBW : Aside (Below w.heap.size w wx) := HB1.out.trans (BC.out.mono HB1.out.size)
          have a0 := RA.out.cell 0
          have a1 := RA.out.cell 1
          have a2 := RA.out.cell 2
          have b0 := RB.out.cell 0
          have g0c := RG.out.cell 0
          have g1c := RG.out.cell 1
          have g2c := RG.out.cell 2
          have gf2 := RG.out.frozen 2
          simp only [List.getElem?_cons_zero, List.getElem?_cons_succ] at a0 a1 a2 b0 g0c g1c g2c
          have hg7r : g7 < wx.heap.size := RG.out.lt
          have hwr : w2.heap.size ≤ wx.heap.size := BC.out.size
          by_cases hlt : jj < pn
          · have hltz : (jj : Int) < (pn : Int) := by omega
            obtain ⟨ad, rfl, hbl, q0⟩ := (HB.out.up HBW.out).outs.int hlt
            obtain ⟨ho1, ho2⟩ := outOk_at HOB.out (k := jj) (by rw [LOB.out]; exact hlt)
            have HT : Aside _ := map_take_i (joinWire a b) b.outs jj (by rw [LOB.out]; exact hlt)
            generalize b.outs.getD jj 0 = o at q0 ho1 ho2 HT
            generalize hol : (b.outs.take jj).map (joinWire a b) = ol at OVO HT
            go_wp2
            go_region_law (first
              | (go_simp; go_at_call 32
                 have BW0 := HBW.out
                 refine (joinw_any a b o (w.heap.size + 1) w.heap.size GA OA gn gc on oc _ (by exact b0) (by exact a0) (by exact a1) (by exact a2) (HA.out.up (by go_grown)).outs LGA.out HIO.out (by omega) (by omega) ha0 ha1 hm ha3).mono ?_
                 rintro e w' ⟨rfl, rfl⟩)
              | (refine step_app rfl (.tmp 85) (.tmp 89) 23 rfl w2.heap.size 3 (.int .i64 0) 1 8 Try.underlying23 int_info2 rfl (by decide) (by decide) (.slice Ao jj co) jj (ints ol) rfl ?own (wx.heap.size + 1) (some ⟨wx.heap.size, 0, none⟩) 1 1 [.int .i64 (joinWire a b o)] rfl ?rd ?one ?hb ?hbase ?_
                 case own => exact OVO.out.alloc _
                 case rd => exact Rd.lit wx #[.int .i64 (joinWire a b o)] 3 (sz := 1) (m := 1) rfl
                 case one => intro u hu; simp at hu; subst hu; rfl
                 case hb => omega
                 case hbase => simp; omega
                 intro v' w' hown' hgrow' hat'
                 obtain ⟨Ao', co', rfl, _⟩ := Rd.own hown'
                 have hvg := own_ne_row OVO.out RG.out (by decide)
                 have RG' : Row w' g7 25 [.int .i64 a.inputs, .slice Av (gn + kk) cv, .slice Ao jj co] := (RG.out.alloc _).drew.grown hgrow' (fun e => hvg e.symm)
                 have e2 := RG'.cell 2
                 have ef := RG'.frozen 2
                 simp only [List.getElem?_cons_zero, List.getElem?_cons_succ] at e2))
            all_goals
              have HB' : Aside (Below w2.heap.size w2 w') := ((BC.out.alloc (by omega) _).drew.grown hgrow' (by simp; omega) (fun k hk => (OVO.out.lt k hk).1))
              have HO' : Aside (w'.ownsRow w2.heap.size 3 1 (.slice Ao' (jj + 1) co') (jj + 1) (ints (ol ++ [joinWire a b o]))) := by
                show World.ownsRow _ _ _ _ _ _ _
                rw [show ints (ol ++ [joinWire a b o]) = ints ol ++ [.int .i64 (joinWire a b o)] from by simp [ints]]
                exact hown'
              have HA' : Aside (w'.ownsRow w2.heap.size 46 3 (.slice Av (gn + kk) cv) (gn + kk) (gatesCells (joinC a b).gates)) := World.ownsRow.kept (OVA.out.alloc _) (show World.grownBy (wx.alloc _) w' _ from ⟨hgrow'.os, hgrow'.tape, hgrow'.output, hgrow'.size, hgrow'.block⟩) (own_ne_own OVA.out OVO.out (by decide))
              have HRG : Aside (Row w' g7 25 [.int .i64 a.inputs, .slice Av (gn + kk) cv, .slice Ao jj co]) := RG'
              clear RG' hown' hgrow' hat' hvg g0c g1c g2c gf2
              go_wp2
              go_roundg (pn - (jj + 1))
              case measure => omega
              case rel =>
                refine ⟨jj + 1, .slice Ao' (jj + 1) co', by omega, by omega, by go_num, (show Below _ _ _ from HB'.out.setCell hg7 _), ?_, ?_, ?_⟩
                · show Row _ _ _ _
                  exact HRG.out.set 2 _
                · show World.ownsRow _ _ _ _ _ _ _
                  exact own_far HA'.out (own_ne_row HA'.out HRG.out (by decide)) _
                · show World.ownsRow _ _ _ _ _ _ _
                  rw [HT.out]
                  exact own_far HO'.out (own_ne_row HO'.out HRG.out (by decide)) _
          · have hltz : ¬ (jj : Int) < (pn : Int) := by omega
            obtain rfl : jj = pn := by omega
            have d0 := RC.out.cell 0
            have d1 := RC.out.cell 1
            have d2 := RC.out.cell 2
            have f0 := RC.out.frozen 0
            have f1 := RC.out.frozen 1
            have f2 := RC.out.frozen 2
            simp only [List.getElem?_cons_zero, List.getElem?_cons_succ] at d0 d1 d2
            have OVO' : Aside (wx.ownsRow w2.heap.size 3 1 (.slice Ao jj co) jj (ints (joinC a b).outs)) := by
              have := OVO.out
              rw [List.take_of_length_le (by rw [LOB.out]; exact Nat.le_refl _)] at this
              exact this
            clear OVO
            have HK : Aside (JoinPost a b w (.returned (.tuple #[.agg #[.int .i64 a.inputs, .slice Av (gn + kk) cv, .slice Ao jj co], .int .i64 0])) (((wx.setCell ⟨w.heap.size + 1 + 1, 0, none⟩ (.int .i64 a.inputs)).setCell ⟨w.heap.size + 1 + 1, 1, none⟩ (.slice Av (gn + kk) cv)).setCell ⟨w.heap.size + 1 + 1, 2, none⟩ (.slice Ao jj co))) := by
              have hj : joinR a b = joinC a b := by rw [joinR, if_pos HE.out]
              have n1 : (Value.slice Av (gn + kk) cv).ownBlock ≠ some (w.heap.size + 1 + 1) := fun h => by have := (OVA.out.lt _ h).1; omega
              have n2 : (Value.slice Ao jj co).ownBlock ≠ some (w.heap.size + 1 + 1) := fun h => by have := (OVO'.out.lt _ h).1; omega
              refine ⟨Av, Ao, gn + kk, cv, jj, co, ?_, ?_, ?_⟩
              · rw [hj, HE.out]; rfl
              · rw [hj]
                refine ⟨Rd.of_own (own_far (own_far (own_far OVA.out n1 _) n1 _) n1 _), Rd.of_own (own_far (own_far (own_far OVO'.out n2 _) n2 _) n2 _), by unfold maxLen; omega, by unfold maxLen; omega⟩
              · have BW0 := HBW.out
                exact ((BW0.setCell (by show w.heap.size ≤ w.heap.size + 1 + 1; omega) _).setCell (by show w.heap.size ≤ w.heap.size + 1 + 1; omega) _).setCell (by show w.heap.size ≤ w.heap.size + 1 + 1; omega) _
            go_wp2
            exact bodyPost_ret (v := .tuple #[.agg #[.int .i64 a.inputs, .slice Av (gn + kk) cv, .slice Ao jj co], .int .i64 0]) (by simp [results, Try.results20, go_sem, d0, d1, d2]) rfl HK.out

set_option maxRecDepth 100000 in
/-- circuit.Join, whatever comes of it. -/
theorem join_any (a b : Circ) (GA OA GB OB : Option Addr) (gn gc on oc hn hc pn pc : Nat) (w : World) (hA : CAt w a GA OA gn on) (hB : CAt w b GB OB hn pn) :
    Calls Try.prog 20 #[.agg #[.int .i64 a.inputs, .slice GA gn gc, .slice OA on oc], .agg #[.int .i64 b.inputs, .slice GB hn hc, .slice OB pn pc]] w (JoinPost a b w) := by
  rcases joinErr_cases a b with h | h | h
  · exact join_ok a b GA OA GB OB gn gc on oc hn hc pn pc w hA hB h
  · exact join_err2 a b GA OA GB OB gn gc on oc hn hc pn pc w hA hB h
  · exact join_err6 a b GA OA GB OB gn gc on oc hn hc pn pc w hA hB h
end Go.Proofs.Ythmkcckoeodhnaa
