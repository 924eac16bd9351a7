/-
  The laws: Fold, Share, Trim and All agree with the reference; walked.
-/
import Derived.Test.YtamijjpnklbgnaaZAwake
namespace Go.Proofs.Ytamijjpnklbgnaa
open Go.RowKit
set_option linter.unusedSimpArgs false
set_option linter.unusedVariables false
set_option maxRecDepth 100000 in
set_option maxHeartbeats 8000000 in
theorem lawSteps_any (c : Circ) (GA OA : Option Addr) (gn gc on oc : Nat) (w : World) (hc : CAt w c GA OA gn on) :
    Calls Try.prog 3 #[.agg #[.int .i64 c.inputs, .slice GA gn gc, .slice OA on oc]] w fun e w' => e = .returned (.bool true) ∧ Below w.heap.size w w' := by
  have HC0 : Hid (CAt w c GA OA gn on) := hc
  have HF1 : gn ≤ maxLen := hc.g63
  have HF2 : on ≤ maxLen := hc.o63
  obtain ⟨qf, hqf⟩ : ∃ q, fewB c gn on = q := ⟨_, rfl⟩
  have HFEW : Hid (∀ _ : Unit, fewB c gn on = qf) := fun _ => hqf
  clear hc hqf
  go_enter Try.func3, Try.ntmps3
  go_upto_region 1 with fail
  have RC : Hid (Row (World.alloc w (.cells #[.int .i64 c.inputs, .slice GA gn gc, .slice OA on oc] 25)) (w.heap.size) 25 [.int .i64 c.inputs, .slice GA gn gc, .slice OA on oc]) := by
    have h0 := Row.new w 25 [.int .i64 c.inputs, .slice GA gn gc, .slice OA on oc]
    try simp only [World.size_alloc] at h0
    exact h0
  have hgr9 : Below w.heap.size w (World.alloc w (.cells #[.int .i64 c.inputs, .slice GA gn gc, .slice OA on oc] 25)) := by go_grown
  have B_w : Hid (Below w.heap.size w (World.alloc w (.cells #[.int .i64 c.inputs, .slice GA gn gc, .slice OA on oc] 25))) := hgr9
  clear hgr9
  revert RC B_w
  generalize (World.alloc w (.cells #[.int .i64 c.inputs, .slice GA gn gc, .slice OA on oc] 25)) = wa
  intro RC B_w
  have kR : Hid (Row wa (w.heap.size) 25 [.int .i64 c.inputs, .slice GA gn gc, .slice OA on oc]) := RC.out
  have k0 := kR.out.cell 0
  have k1 := kR.out.cell 1
  have k2 := kR.out.cell 2
  have kl := kR.out.lt
  simp only [List.getElem?_cons_zero, List.getElem?_cons_succ] at k0 k1 k2
  clear kR
  go_wp2_with fail
  have HC := fewZ_any c GA OA gn gc on oc wa HF1 HF2
  rw [HFEW.out ()] at HC
  refine HC.mono ?_
  clear HC
  rintro e w1 ⟨rfl, hb⟩
  have B_w : Hid (Below w.heap.size w w1) := below_on2 B_w.out hb
  have B_wa : Hid (Below wa.heap.size wa w1) := hb
  clear k0 k1 k2 kl
  clear hb
  cases qf
  · go_wp2_with fail
    refine (awake_any w1).mono ?_
    rintro e y1 ⟨rfl, hb⟩
    have B_w : Hid (Below w.heap.size w y1) := below_on2 B_w.out hb
    have B_wa : Hid (Below wa.heap.size wa y1) := below_on2 B_wa.out hb
    have B_w1 : Hid (Below w1.heap.size w1 y1) := hb
    clear hb
    go_wp2_with fail
    go_ret
    exact ⟨rfl, B_w.out⟩
  have hu : undef = Value.tuple #[] := rfl
  have kR : Hid (Row w1 (w.heap.size) 25 [.int .i64 c.inputs, .slice GA gn gc, .slice OA on oc]) := (rowCells RC.out B_wa.out)
  have k0 := kR.out.cell 0
  have k1 := kR.out.cell 1
  have k2 := kR.out.cell 2
  have kl := kR.out.lt
  simp only [List.getElem?_cons_zero, List.getElem?_cons_succ] at k0 k1 k2
  clear kR
  go_wp2_with fail
  refine wp_region_L (fun w' => Row w' (w.heap.size) 25 [.int .i64 c.inputs, .slice GA gn gc, .slice OA on oc]) [] (by kernel_rfl) (by exact Row.drew (rowCells RC.out B_wa.out)) (fun hHeld => ?_)
  have B_w : Hid (Below w.heap.size w (World.drew w1)) := B_w.out.drew
  have B_wa : Hid (Below wa.heap.size wa (World.drew w1)) := B_wa.out.drew
  have B_w1 : Hid (Below w1.heap.size w1 (World.drew w1)) := (Below.refl _ _).drew
  clear k0 k1 k2 kl
  revert hHeld B_w B_wa B_w1
  generalize World.drew w1 = w1q
  intro hHeld B_w B_wa B_w1
  refine restL_take (i := 0) (v := ?va1) [] rfl (by kernel_rfl) (by kernel_rfl) (by kernel_rfl) (by kernel_rfl) (fun _ _ _ h => h) (Or.inl ⟨by rfl, ?ya1⟩) hHeld ?ra1
  case ya1 =>
    intro w' hSw
    have s0 := hSw
    clear hSw
    have hT0 : Hid (Row w' (w.heap.size) 25 [.int .i64 c.inputs, .slice GA gn gc, .slice OA on oc]) := s0
    have z0_0 := hT0.out.cell 0
    have z0_1 := hT0.out.cell 1
    have z0_2 := hT0.out.cell 2
    have z0_l := hT0.out.lt
    simp only [List.getElem?_cons_zero, List.getElem?_cons_succ] at z0_0 z0_1 z0_2
    clear s0
    go_simp
    try (with_reducible rfl)
  go_simp
  refine restL_take (i := 2) (v := ?va2) [] rfl (by kernel_rfl) (by kernel_rfl) (by kernel_rfl) (by kernel_rfl) (fun _ _ _ h => h) (Or.inl ⟨by rfl, ?ya2⟩) hHeld ?ra2
  case ya2 =>
    intro w' hSw
    have s0 := hSw
    clear hSw
    have hT0 : Hid (Row w' (w.heap.size) 25 [.int .i64 c.inputs, .slice GA gn gc, .slice OA on oc]) := s0
    have z0_0 := hT0.out.cell 0
    have z0_1 := hT0.out.cell 1
    have z0_2 := hT0.out.cell 2
    have z0_l := hT0.out.lt
    simp only [List.getElem?_cons_zero, List.getElem?_cons_succ] at z0_0 z0_1 z0_2
    clear s0
    go_simp
    try (with_reducible rfl)
  go_simp
  refine restL_one (i := 1) (by kernel_rfl) rfl (fun K hK => ?_)
  go_simp
  go_at_call 12
  have HC := fold_any c GA OA gn gc on oc w1q (HC0.out.up B_w.out)
  refine HC.mono ?_
  clear HC
  rintro e y1 ⟨FaA, FaB, Fan, Fac, Fam, Fad, he, hca, -, -, hb⟩
  have he2 : e = .returned (.agg #[.int .i64 (foldC c).inputs, .slice FaA Fan Fac, .slice FaB Fam Fad]) := he
  subst he2
  have HFa : Hid (CAt y1 (foldC c) FaA FaB Fan Fam) := hca
  clear he hca hHeld
  have B_w : Hid (Below w.heap.size w y1) := below_on2 B_w.out hb
  have B_wa : Hid (Below wa.heap.size wa y1) := below_on2 B_wa.out hb
  have B_w1 : Hid (Below w1.heap.size w1 y1) := below_on2 B_w1.out hb
  have B_w1q : Hid (Below w1q.heap.size w1q y1) := hb
  clear hb
  refine hK.out _ _ (fun _ => ?keep) (fun hHeld => ?_)
  case keep => exact (rowCells RC.out B_wa.out)
  have hHeld := hHeld rfl
  clear hK K
  try go_simp
  refine restL_one (i := 3) (by kernel_rfl) rfl (fun K hK => ?_)
  go_simp
  go_at_call 13
  have HC := rFold_any c GA OA gn gc on oc y1 (HC0.out.up B_w.out)
  refine HC.mono ?_
  clear HC
  rintro e y2 ⟨FbA, FbB, Fbn, Fbc, Fbm, Fbd, he, hca, -, -, hb⟩
  have he2 : e = .returned (.agg #[.int .i64 (foldC c).inputs, .slice FbA Fbn Fbc, .slice FbB Fbm Fbd]) := he
  subst he2
  have HFb : Hid (CAt y2 (foldC c) FbA FbB Fbn Fbm) := hca
  clear he hca hHeld
  have B_w : Hid (Below w.heap.size w y2) := below_on2 B_w.out hb
  have B_wa : Hid (Below wa.heap.size wa y2) := below_on2 B_wa.out hb
  have B_w1 : Hid (Below w1.heap.size w1 y2) := below_on2 B_w1.out hb
  have B_w1q : Hid (Below w1q.heap.size w1q y2) := below_on2 B_w1q.out hb
  have B_y1 : Hid (Below y1.heap.size y1 y2) := hb
  clear hb
  refine hK.out _ _ (fun _ => ?keep) (fun hHeld => ?_)
  case keep => exact (rowCells RC.out B_wa.out)
  have hHeld := hHeld rfl
  clear hK K
  try go_simp
  refine restL_one (i := 4) (by kernel_rfl) rfl (fun K hK => ?_)
  go_simp
  go_at_call 11
  have HC := rSameZ_at (foldC c) (foldC c) FaA FaB FbA FbB Fan Fac Fam Fad Fbn Fbc Fbm Fbd y2 (HFa.out.up B_y1.out) HFb.out
  rw [(sameC_iff _ _).2 rfl] at HC
  refine HC.mono ?_
  clear HC
  rintro e y3 ⟨rfl, hb⟩
  clear hHeld
  have B_w : Hid (Below w.heap.size w y3) := below_on2 B_w.out hb
  have B_wa : Hid (Below wa.heap.size wa y3) := below_on2 B_wa.out hb
  have B_w1 : Hid (Below w1.heap.size w1 y3) := below_on2 B_w1.out hb
  have B_w1q : Hid (Below w1q.heap.size w1q y3) := below_on2 B_w1q.out hb
  have B_y1 : Hid (Below y1.heap.size y1 y3) := below_on2 B_y1.out hb
  have B_y2 : Hid (Below y2.heap.size y2 y3) := hb
  clear hb
  refine hK.out _ _ (fun _ => ?keep) (fun hHeld => ?_)
  case keep => exact (rowCells RC.out B_wa.out)
  have hHeld := hHeld rfl
  clear hK K
  try go_simp
  refine restL_pure (i := 5) (v := ?va3) rfl (by kernel_rfl) (by kernel_rfl) (by kernel_rfl) (fun _ _ _ h => h) (Or.inl ⟨by rfl, ?ya3⟩) ?ra3
  case ya3 => intro w' hSw; clear hSw; go_simp; try (with_reducible rfl)
  go_simp
  refine restL_take (i := 6) (v := ?va4) [] rfl (by kernel_rfl) (by kernel_rfl) (by kernel_rfl) (by kernel_rfl) (fun _ _ _ h => h) (Or.inl ⟨by first | rfl | (go_simp; done), ?ya4⟩) hHeld ?ra4
  case ya4 =>
    intro w' hSw
    have s0 := hSw
    clear hSw
    have hT0 : Hid (Row w' (w.heap.size) 25 [.int .i64 c.inputs, .slice GA gn gc, .slice OA on oc]) := s0
    have z0_0 := hT0.out.cell 0
    have z0_1 := hT0.out.cell 1
    have z0_2 := hT0.out.cell 2
    have z0_l := hT0.out.lt
    simp only [List.getElem?_cons_zero, List.getElem?_cons_succ] at z0_0 z0_1 z0_2
    clear s0
    go_simp
    try (with_reducible rfl)
  go_simp
  refine restL_take (i := 8) (v := ?va5) [] rfl (by kernel_rfl) (by kernel_rfl) (by kernel_rfl) (by kernel_rfl) (fun _ _ _ h => h) (Or.inl ⟨by first | rfl | (go_simp; done), ?ya5⟩) hHeld ?ra5
  case ya5 =>
    intro w' hSw
    have s0 := hSw
    clear hSw
    have hT0 : Hid (Row w' (w.heap.size) 25 [.int .i64 c.inputs, .slice GA gn gc, .slice OA on oc]) := s0
    have z0_0 := hT0.out.cell 0
    have z0_1 := hT0.out.cell 1
    have z0_2 := hT0.out.cell 2
    have z0_l := hT0.out.lt
    simp only [List.getElem?_cons_zero, List.getElem?_cons_succ] at z0_0 z0_1 z0_2
    clear s0
    go_simp
    try (with_reducible rfl)
  go_simp
  refine restL_one (i := 7) (by kernel_rfl) rfl (fun K hK => ?_)
  go_simp
  go_at_call 14
  have HC := share_any c GA OA gn gc on oc y3 (HC0.out.up B_w.out)
  refine HC.mono ?_
  clear HC
  rintro e y4 ⟨SaA, SaB, San, Sac, Sam, Sad, he, hca, -, -, hb⟩
  have he2 : e = .returned (.agg #[.int .i64 (shareC c).inputs, .slice SaA San Sac, .slice SaB Sam Sad]) := he
  subst he2
  have HSa : Hid (CAt y4 (shareC c) SaA SaB San Sam) := hca
  clear he hca hHeld
  have B_w : Hid (Below w.heap.size w y4) := below_on2 B_w.out hb
  have B_wa : Hid (Below wa.heap.size wa y4) := below_on2 B_wa.out hb
  have B_w1 : Hid (Below w1.heap.size w1 y4) := below_on2 B_w1.out hb
  have B_w1q : Hid (Below w1q.heap.size w1q y4) := below_on2 B_w1q.out hb
  have B_y1 : Hid (Below y1.heap.size y1 y4) := below_on2 B_y1.out hb
  have B_y2 : Hid (Below y2.heap.size y2 y4) := below_on2 B_y2.out hb
  have B_y3 : Hid (Below y3.heap.size y3 y4) := hb
  clear hb
  refine hK.out _ _ (fun _ => ?keep) (fun hHeld => ?_)
  case keep => exact (rowCells RC.out B_wa.out)
  have hHeld := hHeld rfl
  clear hK K
  try go_simp
  refine restL_one (i := 9) (by kernel_rfl) rfl (fun K hK => ?_)
  go_simp
  go_at_call 15
  have HC := rShare_any c GA OA gn gc on oc y4 (HC0.out.up B_w.out)
  refine HC.mono ?_
  clear HC
  rintro e y5 ⟨SbA, SbB, Sbn, Sbc, Sbm, Sbd, he, hca, -, -, hb⟩
  have he2 : e = .returned (.agg #[.int .i64 (shareC c).inputs, .slice SbA Sbn Sbc, .slice SbB Sbm Sbd]) := he
  subst he2
  have HSb : Hid (CAt y5 (shareC c) SbA SbB Sbn Sbm) := hca
  clear he hca hHeld
  have B_w : Hid (Below w.heap.size w y5) := below_on2 B_w.out hb
  have B_wa : Hid (Below wa.heap.size wa y5) := below_on2 B_wa.out hb
  have B_w1 : Hid (Below w1.heap.size w1 y5) := below_on2 B_w1.out hb
  have B_w1q : Hid (Below w1q.heap.size w1q y5) := below_on2 B_w1q.out hb
  have B_y1 : Hid (Below y1.heap.size y1 y5) := below_on2 B_y1.out hb
  have B_y2 : Hid (Below y2.heap.size y2 y5) := below_on2 B_y2.out hb
  have B_y3 : Hid (Below y3.heap.size y3 y5) := below_on2 B_y3.out hb
  have B_y4 : Hid (Below y4.heap.size y4 y5) := hb
  clear hb
  refine hK.out _ _ (fun _ => ?keep) (fun hHeld => ?_)
  case keep => exact (rowCells RC.out B_wa.out)
  have hHeld := hHeld rfl
  clear hK K
  try go_simp
  refine restL_one (i := 10) (by kernel_rfl) rfl (fun K hK => ?_)
  go_simp
  go_at_call 11
  have HC := rSameZ_at (shareC c) (shareC c) SaA SaB SbA SbB San Sac Sam Sad Sbn Sbc Sbm Sbd y5 (HSa.out.up B_y4.out) HSb.out
  rw [(sameC_iff _ _).2 rfl] at HC
  refine HC.mono ?_
  clear HC
  rintro e y6 ⟨rfl, hb⟩
  clear hHeld
  have B_w : Hid (Below w.heap.size w y6) := below_on2 B_w.out hb
  have B_wa : Hid (Below wa.heap.size wa y6) := below_on2 B_wa.out hb
  have B_w1 : Hid (Below w1.heap.size w1 y6) := below_on2 B_w1.out hb
  have B_w1q : Hid (Below w1q.heap.size w1q y6) := below_on2 B_w1q.out hb
  have B_y1 : Hid (Below y1.heap.size y1 y6) := below_on2 B_y1.out hb
  have B_y2 : Hid (Below y2.heap.size y2 y6) := below_on2 B_y2.out hb
  have B_y3 : Hid (Below y3.heap.size y3 y6) := below_on2 B_y3.out hb
  have B_y4 : Hid (Below y4.heap.size y4 y6) := below_on2 B_y4.out hb
  have B_y5 : Hid (Below y5.heap.size y5 y6) := hb
  clear hb
  refine hK.out _ _ (fun _ => ?keep) (fun hHeld => ?_)
  case keep => exact (rowCells RC.out B_wa.out)
  have hHeld := hHeld rfl
  clear hK K
  try go_simp
  refine restL_pure (i := 11) (v := ?va6) rfl (by kernel_rfl) (by kernel_rfl) (by kernel_rfl) (fun _ _ _ h => h) (Or.inl ⟨by rfl, ?ya6⟩) ?ra6
  case ya6 => intro w' hSw; clear hSw; go_simp; try (with_reducible rfl)
  go_simp
  refine restL_pure (i := 12) (v := ?va7) rfl (by kernel_rfl) (by kernel_rfl) (by kernel_rfl) (fun _ _ _ h => h) (Or.inl ⟨by rfl, ?ya7⟩) ?ra7
  case ya7 => intro w' hSw; clear hSw; go_simp; try (with_reducible rfl)
  go_simp
  refine restL_take (i := 13) (v := ?va8) [] rfl (by kernel_rfl) (by kernel_rfl) (by kernel_rfl) (by kernel_rfl) (fun _ _ _ h => h) (Or.inl ⟨by first | rfl | (go_simp; done), ?ya8⟩) hHeld ?ra8
  case ya8 =>
    intro w' hSw
    have s0 := hSw
    clear hSw
    have hT0 : Hid (Row w' (w.heap.size) 25 [.int .i64 c.inputs, .slice GA gn gc, .slice OA on oc]) := s0
    have z0_0 := hT0.out.cell 0
    have z0_1 := hT0.out.cell 1
    have z0_2 := hT0.out.cell 2
    have z0_l := hT0.out.lt
    simp only [List.getElem?_cons_zero, List.getElem?_cons_succ] at z0_0 z0_1 z0_2
    clear s0
    go_simp
    try (with_reducible rfl)
  go_simp
  refine restL_take (i := 15) (v := ?va9) [] rfl (by kernel_rfl) (by kernel_rfl) (by kernel_rfl) (by kernel_rfl) (fun _ _ _ h => h) (Or.inl ⟨by first | rfl | (go_simp; done), ?ya9⟩) hHeld ?ra9
  case ya9 =>
    intro w' hSw
    have s0 := hSw
    clear hSw
    have hT0 : Hid (Row w' (w.heap.size) 25 [.int .i64 c.inputs, .slice GA gn gc, .slice OA on oc]) := s0
    have z0_0 := hT0.out.cell 0
    have z0_1 := hT0.out.cell 1
    have z0_2 := hT0.out.cell 2
    have z0_l := hT0.out.lt
    simp only [List.getElem?_cons_zero, List.getElem?_cons_succ] at z0_0 z0_1 z0_2
    clear s0
    go_simp
    try (with_reducible rfl)
  go_simp
  refine restL_one (i := 14) (by kernel_rfl) rfl (fun K hK => ?_)
  go_simp
  go_at_call 16
  have HC := trim_any c GA OA gn gc on oc y6 (HC0.out.up B_w.out)
  refine HC.mono ?_
  clear HC
  rintro e y7 ⟨TaA, TaB, Tan, Tac, Tam, Tad, he, hca, -, -, hb⟩
  have he2 : e = .returned (.agg #[.int .i64 (trimC c).inputs, .slice TaA Tan Tac, .slice TaB Tam Tad]) := he
  subst he2
  have HTa : Hid (CAt y7 (trimC c) TaA TaB Tan Tam) := hca
  clear he hca hHeld
  have B_w : Hid (Below w.heap.size w y7) := below_on2 B_w.out hb
  have B_wa : Hid (Below wa.heap.size wa y7) := below_on2 B_wa.out hb
  have B_w1 : Hid (Below w1.heap.size w1 y7) := below_on2 B_w1.out hb
  have B_w1q : Hid (Below w1q.heap.size w1q y7) := below_on2 B_w1q.out hb
  have B_y1 : Hid (Below y1.heap.size y1 y7) := below_on2 B_y1.out hb
  have B_y2 : Hid (Below y2.heap.size y2 y7) := below_on2 B_y2.out hb
  have B_y3 : Hid (Below y3.heap.size y3 y7) := below_on2 B_y3.out hb
  have B_y4 : Hid (Below y4.heap.size y4 y7) := below_on2 B_y4.out hb
  have B_y5 : Hid (Below y5.heap.size y5 y7) := below_on2 B_y5.out hb
  have B_y6 : Hid (Below y6.heap.size y6 y7) := hb
  clear hb
  refine hK.out _ _ (fun _ => ?keep) (fun hHeld => ?_)
  case keep => exact (rowCells RC.out B_wa.out)
  have hHeld := hHeld rfl
  clear hK K
  try go_simp
  refine restL_one (i := 16) (by kernel_rfl) rfl (fun K hK => ?_)
  go_simp
  go_at_call 17
  have HC := rTrim_any c GA OA gn gc on oc y7 (HC0.out.up B_w.out)
  refine HC.mono ?_
  clear HC
  rintro e y8 ⟨TbA, TbB, Tbn, Tbc, Tbm, Tbd, he, hca, -, -, hb⟩
  have he2 : e = .returned (.agg #[.int .i64 (trimC c).inputs, .slice TbA Tbn Tbc, .slice TbB Tbm Tbd]) := he
  subst he2
  have HTb : Hid (CAt y8 (trimC c) TbA TbB Tbn Tbm) := hca
  clear he hca hHeld
  have B_w : Hid (Below w.heap.size w y8) := below_on2 B_w.out hb
  have B_wa : Hid (Below wa.heap.size wa y8) := below_on2 B_wa.out hb
  have B_w1 : Hid (Below w1.heap.size w1 y8) := below_on2 B_w1.out hb
  have B_w1q : Hid (Below w1q.heap.size w1q y8) := below_on2 B_w1q.out hb
  have B_y1 : Hid (Below y1.heap.size y1 y8) := below_on2 B_y1.out hb
  have B_y2 : Hid (Below y2.heap.size y2 y8) := below_on2 B_y2.out hb
  have B_y3 : Hid (Below y3.heap.size y3 y8) := below_on2 B_y3.out hb
  have B_y4 : Hid (Below y4.heap.size y4 y8) := below_on2 B_y4.out hb
  have B_y5 : Hid (Below y5.heap.size y5 y8) := below_on2 B_y5.out hb
  have B_y6 : Hid (Below y6.heap.size y6 y8) := below_on2 B_y6.out hb
  have B_y7 : Hid (Below y7.heap.size y7 y8) := hb
  clear hb
  refine hK.out _ _ (fun _ => ?keep) (fun hHeld => ?_)
  case keep => exact (rowCells RC.out B_wa.out)
  have hHeld := hHeld rfl
  clear hK K
  try go_simp
  refine restL_one (i := 17) (by kernel_rfl) rfl (fun K hK => ?_)
  go_simp
  go_at_call 11
  have HC := rSameZ_at (trimC c) (trimC c) TaA TaB TbA TbB Tan Tac Tam Tad Tbn Tbc Tbm Tbd y8 (HTa.out.up B_y7.out) HTb.out
  rw [(sameC_iff _ _).2 rfl] at HC
  refine HC.mono ?_
  clear HC
  rintro e y9 ⟨rfl, hb⟩
  clear hHeld
  have B_w : Hid (Below w.heap.size w y9) := below_on2 B_w.out hb
  have B_wa : Hid (Below wa.heap.size wa y9) := below_on2 B_wa.out hb
  have B_w1 : Hid (Below w1.heap.size w1 y9) := below_on2 B_w1.out hb
  have B_w1q : Hid (Below w1q.heap.size w1q y9) := below_on2 B_w1q.out hb
  have B_y1 : Hid (Below y1.heap.size y1 y9) := below_on2 B_y1.out hb
  have B_y2 : Hid (Below y2.heap.size y2 y9) := below_on2 B_y2.out hb
  have B_y3 : Hid (Below y3.heap.size y3 y9) := below_on2 B_y3.out hb
  have B_y4 : Hid (Below y4.heap.size y4 y9) := below_on2 B_y4.out hb
  have B_y5 : Hid (Below y5.heap.size y5 y9) := below_on2 B_y5.out hb
  have B_y6 : Hid (Below y6.heap.size y6 y9) := below_on2 B_y6.out hb
  have B_y7 : Hid (Below y7.heap.size y7 y9) := below_on2 B_y7.out hb
  have B_y8 : Hid (Below y8.heap.size y8 y9) := hb
  clear hb
  refine hK.out _ _ (fun _ => ?keep) (fun hHeld => ?_)
  case keep => exact (rowCells RC.out B_wa.out)
  have hHeld := hHeld rfl
  clear hK K
  try go_simp
  refine restL_pure (i := 18) (v := ?va10) rfl (by kernel_rfl) (by kernel_rfl) (by kernel_rfl) (fun _ _ _ h => h) (Or.inl ⟨by rfl, ?ya10⟩) ?ra10
  case ya10 => intro w' hSw; clear hSw; go_simp; try (with_reducible rfl)
  go_simp
  refine restL_pure (i := 19) (v := ?va11) rfl (by kernel_rfl) (by kernel_rfl) (by kernel_rfl) (fun _ _ _ h => h) (Or.inl ⟨by rfl, ?ya11⟩) ?ra11
  case ya11 => intro w' hSw; clear hSw; go_simp; try (with_reducible rfl)
  go_simp
  refine restL_one (i := 20) (by kernel_rfl) rfl (fun K hK => ?_)
  go_simp
  go_at_call 10
  refine (awake_any y9).mono ?_
  rintro e y10 ⟨rfl, hb⟩
  clear hHeld
  have B_w : Hid (Below w.heap.size w y10) := below_on2 B_w.out hb
  have B_wa : Hid (Below wa.heap.size wa y10) := below_on2 B_wa.out hb
  have B_w1 : Hid (Below w1.heap.size w1 y10) := below_on2 B_w1.out hb
  have B_w1q : Hid (Below w1q.heap.size w1q y10) := below_on2 B_w1q.out hb
  have B_y1 : Hid (Below y1.heap.size y1 y10) := below_on2 B_y1.out hb
  have B_y2 : Hid (Below y2.heap.size y2 y10) := below_on2 B_y2.out hb
  have B_y3 : Hid (Below y3.heap.size y3 y10) := below_on2 B_y3.out hb
  have B_y4 : Hid (Below y4.heap.size y4 y10) := below_on2 B_y4.out hb
  have B_y5 : Hid (Below y5.heap.size y5 y10) := below_on2 B_y5.out hb
  have B_y6 : Hid (Below y6.heap.size y6 y10) := below_on2 B_y6.out hb
  have B_y7 : Hid (Below y7.heap.size y7 y10) := below_on2 B_y7.out hb
  have B_y8 : Hid (Below y8.heap.size y8 y10) := below_on2 B_y8.out hb
  have B_y9 : Hid (Below y9.heap.size y9 y10) := hb
  clear hb
  refine hK.out _ _ (fun _ => ?keep) (fun hHeld => ?_)
  case keep => exact (rowCells RC.out B_wa.out)
  have hHeld := hHeld rfl
  clear hK K
  try go_simp
  refine restL_pure (i := 21) (v := ?va12) rfl (by kernel_rfl) (by kernel_rfl) (by kernel_rfl) (fun _ _ _ h => h) (Or.inl ⟨by rfl, ?ya12⟩) ?ra12
  case ya12 => intro w' hSw; clear hSw; go_simp; try (with_reducible rfl)
  go_simp
  refine restL_pure (i := 22) (v := ?va13) rfl (by kernel_rfl) (by kernel_rfl) (by kernel_rfl) (fun _ _ _ h => h) (Or.inl ⟨by rfl, ?ya13⟩) ?ra13
  case ya13 => intro w' hSw; clear hSw; go_simp; try (with_reducible rfl)
  go_simp
  refine restL_done (by kernel_rfl) ?_ _
  go_wp2_with fail
  go_ret
  exact ⟨rfl, B_w.out⟩
set_option maxRecDepth 100000 in
set_option maxHeartbeats 8000000 in
theorem lawAlls_any (c : Circ) (GA OA : Option Addr) (gn gc on oc : Nat) (w : World) (hc : CAt w c GA OA gn on) :
    Calls Try.prog 4 #[.agg #[.int .i64 c.inputs, .slice GA gn gc, .slice OA on oc]] w fun e w' => e = .returned (.bool true) ∧ Below w.heap.size w w' := by
  have HC0 : Hid (CAt w c GA OA gn on) := hc
  have HF1 : gn ≤ maxLen := hc.g63
  have HF2 : on ≤ maxLen := hc.o63
  obtain ⟨qf, hqf⟩ : ∃ q, fewB c gn on = q := ⟨_, rfl⟩
  have HFEW : Hid (∀ _ : Unit, fewB c gn on = qf) := fun _ => hqf
  clear hc hqf
  go_enter Try.func4, Try.ntmps4
  go_upto_region 1 with fail
  have RC : Hid (Row (World.alloc w (.cells #[.int .i64 c.inputs, .slice GA gn gc, .slice OA on oc] 25)) (w.heap.size) 25 [.int .i64 c.inputs, .slice GA gn gc, .slice OA on oc]) := by
    have h0 := Row.new w 25 [.int .i64 c.inputs, .slice GA gn gc, .slice OA on oc]
    try simp only [World.size_alloc] at h0
    exact h0
  have hgr9 : Below w.heap.size w (World.alloc w (.cells #[.int .i64 c.inputs, .slice GA gn gc, .slice OA on oc] 25)) := by go_grown
  have B_w : Hid (Below w.heap.size w (World.alloc w (.cells #[.int .i64 c.inputs, .slice GA gn gc, .slice OA on oc] 25))) := hgr9
  clear hgr9
  revert RC B_w
  generalize (World.alloc w (.cells #[.int .i64 c.inputs, .slice GA gn gc, .slice OA on oc] 25)) = wa
  intro RC B_w
  have kR : Hid (Row wa (w.heap.size) 25 [.int .i64 c.inputs, .slice GA gn gc, .slice OA on oc]) := RC.out
  have k0 := kR.out.cell 0
  have k1 := kR.out.cell 1
  have k2 := kR.out.cell 2
  have kl := kR.out.lt
  simp only [List.getElem?_cons_zero, List.getElem?_cons_succ] at k0 k1 k2
  clear kR
  go_wp2_with fail
  have HC := fewZ_any c GA OA gn gc on oc wa HF1 HF2
  rw [HFEW.out ()] at HC
  refine HC.mono ?_
  clear HC
  rintro e w1 ⟨rfl, hb⟩
  have B_w : Hid (Below w.heap.size w w1) := below_on2 B_w.out hb
  have B_wa : Hid (Below wa.heap.size wa w1) := hb
  clear k0 k1 k2 kl
  clear hb
  cases qf
  · go_wp2_with fail
    refine (awake_any w1).mono ?_
    rintro e y1 ⟨rfl, hb⟩
    have B_w : Hid (Below w.heap.size w y1) := below_on2 B_w.out hb
    have B_wa : Hid (Below wa.heap.size wa y1) := below_on2 B_wa.out hb
    have B_w1 : Hid (Below w1.heap.size w1 y1) := hb
    clear hb
    go_wp2_with fail
    go_ret
    exact ⟨rfl, B_w.out⟩
  have hu : undef = Value.tuple #[] := rfl
  have kR : Hid (Row w1 (w.heap.size) 25 [.int .i64 c.inputs, .slice GA gn gc, .slice OA on oc]) := (rowCells RC.out B_wa.out)
  have k0 := kR.out.cell 0
  have k1 := kR.out.cell 1
  have k2 := kR.out.cell 2
  have kl := kR.out.lt
  simp only [List.getElem?_cons_zero, List.getElem?_cons_succ] at k0 k1 k2
  clear kR
  go_wp2_with fail
  refine wp_region_L (fun w' => Row w' (w.heap.size) 25 [.int .i64 c.inputs, .slice GA gn gc, .slice OA on oc]) [] (by kernel_rfl) (by exact Row.drew (rowCells RC.out B_wa.out)) (fun hHeld => ?_)
  have B_w : Hid (Below w.heap.size w (World.drew w1)) := B_w.out.drew
  have B_wa : Hid (Below wa.heap.size wa (World.drew w1)) := B_wa.out.drew
  have B_w1 : Hid (Below w1.heap.size w1 (World.drew w1)) := (Below.refl _ _).drew
  clear k0 k1 k2 kl
  revert hHeld B_w B_wa B_w1
  generalize World.drew w1 = w1q
  intro hHeld B_w B_wa B_w1
  refine restL_take (i := 0) (v := ?va1) [] rfl (by kernel_rfl) (by kernel_rfl) (by kernel_rfl) (by kernel_rfl) (fun _ _ _ h => h) (Or.inl ⟨by rfl, ?ya1⟩) hHeld ?ra1
  case ya1 =>
    intro w' hSw
    have s0 := hSw
    clear hSw
    have hT0 : Hid (Row w' (w.heap.size) 25 [.int .i64 c.inputs, .slice GA gn gc, .slice OA on oc]) := s0
    have z0_0 := hT0.out.cell 0
    have z0_1 := hT0.out.cell 1
    have z0_2 := hT0.out.cell 2
    have z0_l := hT0.out.lt
    simp only [List.getElem?_cons_zero, List.getElem?_cons_succ] at z0_0 z0_1 z0_2
    clear s0
    go_simp
    try (with_reducible rfl)
  go_simp
  refine restL_take (i := 2) (v := ?va2) [] rfl (by kernel_rfl) (by kernel_rfl) (by kernel_rfl) (by kernel_rfl) (fun _ _ _ h => h) (Or.inl ⟨by rfl, ?ya2⟩) hHeld ?ra2
  case ya2 =>
    intro w' hSw
    have s0 := hSw
    clear hSw
    have hT0 : Hid (Row w' (w.heap.size) 25 [.int .i64 c.inputs, .slice GA gn gc, .slice OA on oc]) := s0
    have z0_0 := hT0.out.cell 0
    have z0_1 := hT0.out.cell 1
    have z0_2 := hT0.out.cell 2
    have z0_l := hT0.out.lt
    simp only [List.getElem?_cons_zero, List.getElem?_cons_succ] at z0_0 z0_1 z0_2
    clear s0
    go_simp
    try (with_reducible rfl)
  go_simp
  refine restL_one (i := 1) (by kernel_rfl) rfl (fun K hK => ?_)
  go_simp
  go_at_call 18
  have HC := all_any c GA OA gn gc on oc w1q (HC0.out.up B_w.out)
  refine HC.mono ?_
  clear HC
  rintro e y1 ⟨FaA, FaB, Fan, Fac, Fam, Fad, he, hca, -, -, hb⟩
  have he2 : e = .returned (.agg #[.int .i64 (allC c).inputs, .slice FaA Fan Fac, .slice FaB Fam Fad]) := he
  subst he2
  have HFa : Hid (CAt y1 (allC c) FaA FaB Fan Fam) := hca
  clear he hca hHeld
  have B_w : Hid (Below w.heap.size w y1) := below_on2 B_w.out hb
  have B_wa : Hid (Below wa.heap.size wa y1) := below_on2 B_wa.out hb
  have B_w1 : Hid (Below w1.heap.size w1 y1) := below_on2 B_w1.out hb
  have B_w1q : Hid (Below w1q.heap.size w1q y1) := hb
  clear hb
  refine hK.out _ _ (fun _ => ?keep) (fun hHeld => ?_)
  case keep => exact (rowCells RC.out B_wa.out)
  have hHeld := hHeld rfl
  clear hK K
  try go_simp
  refine restL_one (i := 3) (by kernel_rfl) rfl (fun K hK => ?_)
  go_simp
  go_at_call 19
  have HC := rAll_any c GA OA gn gc on oc y1 (HC0.out.up B_w.out)
  refine HC.mono ?_
  clear HC
  rintro e y2 ⟨FbA, FbB, Fbn, Fbc, Fbm, Fbd, he, hca, -, -, hb⟩
  have he2 : e = .returned (.agg #[.int .i64 (allC c).inputs, .slice FbA Fbn Fbc, .slice FbB Fbm Fbd]) := he
  subst he2
  have HFb : Hid (CAt y2 (allC c) FbA FbB Fbn Fbm) := hca
  clear he hca hHeld
  have B_w : Hid (Below w.heap.size w y2) := below_on2 B_w.out hb
  have B_wa : Hid (Below wa.heap.size wa y2) := below_on2 B_wa.out hb
  have B_w1 : Hid (Below w1.heap.size w1 y2) := below_on2 B_w1.out hb
  have B_w1q : Hid (Below w1q.heap.size w1q y2) := below_on2 B_w1q.out hb
  have B_y1 : Hid (Below y1.heap.size y1 y2) := hb
  clear hb
  refine hK.out _ _ (fun _ => ?keep) (fun hHeld => ?_)
  case keep => exact (rowCells RC.out B_wa.out)
  have hHeld := hHeld rfl
  clear hK K
  try go_simp
  refine restL_one (i := 4) (by kernel_rfl) rfl (fun K hK => ?_)
  go_simp
  go_at_call 11
  have HC := rSameZ_at (allC c) (allC c) FaA FaB FbA FbB Fan Fac Fam Fad Fbn Fbc Fbm Fbd y2 (HFa.out.up B_y1.out) HFb.out
  rw [(sameC_iff _ _).2 rfl] at HC
  refine HC.mono ?_
  clear HC
  rintro e y3 ⟨rfl, hb⟩
  clear hHeld
  have B_w : Hid (Below w.heap.size w y3) := below_on2 B_w.out hb
  have B_wa : Hid (Below wa.heap.size wa y3) := below_on2 B_wa.out hb
  have B_w1 : Hid (Below w1.heap.size w1 y3) := below_on2 B_w1.out hb
  have B_w1q : Hid (Below w1q.heap.size w1q y3) := below_on2 B_w1q.out hb
  have B_y1 : Hid (Below y1.heap.size y1 y3) := below_on2 B_y1.out hb
  have B_y2 : Hid (Below y2.heap.size y2 y3) := hb
  clear hb
  refine hK.out _ _ (fun _ => ?keep) (fun hHeld => ?_)
  case keep => exact (rowCells RC.out B_wa.out)
  have hHeld := hHeld rfl
  clear hK K
  try go_simp
  refine restL_pure (i := 5) (v := ?va3) rfl (by kernel_rfl) (by kernel_rfl) (by kernel_rfl) (fun _ _ _ h => h) (Or.inl ⟨by rfl, ?ya3⟩) ?ra3
  case ya3 => intro w' hSw; clear hSw; go_simp; try (with_reducible rfl)
  go_simp
  refine restL_one (i := 6) (by kernel_rfl) rfl (fun K hK => ?_)
  go_simp
  go_at_call 10
  refine (awake_any y3).mono ?_
  rintro e y4 ⟨rfl, hb⟩
  clear hHeld
  have B_w : Hid (Below w.heap.size w y4) := below_on2 B_w.out hb
  have B_wa : Hid (Below wa.heap.size wa y4) := below_on2 B_wa.out hb
  have B_w1 : Hid (Below w1.heap.size w1 y4) := below_on2 B_w1.out hb
  have B_w1q : Hid (Below w1q.heap.size w1q y4) := below_on2 B_w1q.out hb
  have B_y1 : Hid (Below y1.heap.size y1 y4) := below_on2 B_y1.out hb
  have B_y2 : Hid (Below y2.heap.size y2 y4) := below_on2 B_y2.out hb
  have B_y3 : Hid (Below y3.heap.size y3 y4) := hb
  clear hb
  refine hK.out _ _ (fun _ => ?keep) (fun hHeld => ?_)
  case keep => exact (rowCells RC.out B_wa.out)
  have hHeld := hHeld rfl
  clear hK K
  try go_simp
  refine restL_pure (i := 7) (v := ?va4) rfl (by kernel_rfl) (by kernel_rfl) (by kernel_rfl) (fun _ _ _ h => h) (Or.inl ⟨by rfl, ?ya4⟩) ?ra4
  case ya4 => intro w' hSw; clear hSw; go_simp; try (with_reducible rfl)
  go_simp
  refine restL_pure (i := 8) (v := ?va5) rfl (by kernel_rfl) (by kernel_rfl) (by kernel_rfl) (fun _ _ _ h => h) (Or.inl ⟨by rfl, ?ya5⟩) ?ra5
  case ya5 => intro w' hSw; clear hSw; go_simp; try (with_reducible rfl)
  go_simp
  refine restL_done (by kernel_rfl) ?_ _
  go_wp2_with fail
  go_ret
  exact ⟨rfl, B_w.out⟩
end Go.Proofs.Ytamijjpnklbgnaa
