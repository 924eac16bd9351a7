/-
  awake of the laws of gridstep, walked.
-/
import Derived.Test.YtdkfaphclhaiaaaNLeft
import Derived.Test.YtdkfaphclhaiaaaNCyc
import Derived.Test.YtdkfaphclhaiaaaNSmall
import Derived.Test.YtdkfaphclhaiaaaNStep
import Derived.Test.YtdkfaphclhaiaaaNGard
import Derived.Test.YtdkfaphclhaiaaaRegL2
import Derived.Test.YtdkfaphclhaiaaaNRefCyc
import Derived.Deep.Cut
import Derived.Deep.CutRange
namespace Go.Proofs.Ytdkfaphclhaiaaa
open Go.RowKit
set_option linter.unusedSimpArgs false
set_option linter.unusedVariables false
theorem add_nilA (a : Addr) : a.add 0 = a := by unfold Addr.add; simp
def awR : Grd := ⟨3, 1, 2, [1, 1, 0]⟩
def awZ : Grd := ⟨3, 1, 0, [0, 0, 0]⟩
set_option maxRecDepth 100000 in
set_option maxHeartbeats 6000000 in
theorem awake_any (w : World) : Calls Try.prog 10 #[] w fun e w' => e = .returned (.bool true) ∧ Below w.heap.size w w' := by
  go_enter Try.func10, Try.ntmps10
  go_wp2_with fail
  have RI : Hid (Row (World.alloc w (.cells #[.int .i64 1, .int .i64 0, .int .i64 0] 3)) (w.heap.size) 3 [.int .i64 1, .int .i64 0, .int .i64 0]) := by
    have h0 := Row.new w 3 [.int .i64 1, .int .i64 0, .int .i64 0]
    try simp only [World.size_alloc] at h0
    exact h0
  have hgr9 : Below w.heap.size w (World.alloc w (.cells #[.int .i64 1, .int .i64 0, .int .i64 0] 3)) := by go_grown
  have B_w : Hid (Below w.heap.size w (World.alloc w (.cells #[.int .i64 1, .int .i64 0, .int .i64 0] 3))) := hgr9
  clear hgr9
  revert RI B_w
  generalize (World.alloc w (.cells #[.int .i64 1, .int .i64 0, .int .i64 0] 3)) = wa
  intro RI B_w
  refine (rowN_any [1, 0, 0] (some ⟨w.heap.size, 0, none⟩) 3 3 wa (RI.out.rd rfl) (by omega)).mono ?_
  rintro e w1 ⟨he, hga, hb⟩
  have he2 : e = .returned (.agg #[.int .i64 3, .int .i64 1, .int .i64 0, .slice (some ⟨w.heap.size, 0, none⟩) 3 3]) := he
  subst he2
  have HG : Hid (GAt w1 ⟨3, 1, 0, [1, 0, 0]⟩ (some ⟨w.heap.size, 0, none⟩) 3) := hga
  clear he hga
  have B_w : Hid (Below w.heap.size w w1) := below_on2 B_w.out hb
  have B_wa : Hid (Below wa.heap.size wa w1) := hb
  clear hb
  go_upto_region 2 with fail
  have RG : Hid (Row (World.alloc w1 (.cells #[.int .i64 3, .int .i64 1, .int .i64 0, .slice (some ⟨w.heap.size, 0, none⟩) 3 3] 28)) (w1.heap.size) 28 [.int .i64 3, .int .i64 1, .int .i64 0, .slice (some ⟨w.heap.size, 0, none⟩) 3 3]) := by
    have h0 := Row.new w1 28 [.int .i64 3, .int .i64 1, .int .i64 0, .slice (some ⟨w.heap.size, 0, none⟩) 3 3]
    try simp only [World.size_alloc] at h0
    exact h0
  have hgr9 : Below w1.heap.size w1 (World.alloc w1 (.cells #[.int .i64 3, .int .i64 1, .int .i64 0, .slice (some ⟨w.heap.size, 0, none⟩) 3 3] 28)) := by go_grown
  have B_w : Hid (Below w.heap.size w (World.alloc w1 (.cells #[.int .i64 3, .int .i64 1, .int .i64 0, .slice (some ⟨w.heap.size, 0, none⟩) 3 3] 28))) := below_on2 B_w.out hgr9
  have B_wa : Hid (Below wa.heap.size wa (World.alloc w1 (.cells #[.int .i64 3, .int .i64 1, .int .i64 0, .slice (some ⟨w.heap.size, 0, none⟩) 3 3] 28))) := below_on2 B_wa.out hgr9
  have B_w1 : Hid (Below w1.heap.size w1 (World.alloc w1 (.cells #[.int .i64 3, .int .i64 1, .int .i64 0, .slice (some ⟨w.heap.size, 0, none⟩) 3 3] 28))) := hgr9
  clear hgr9
  revert RG B_w B_wa B_w1
  generalize (World.alloc w1 (.cells #[.int .i64 3, .int .i64 1, .int .i64 0, .slice (some ⟨w.heap.size, 0, none⟩) 3 3] 28)) = wb
  intro RG B_w B_wa B_w1
  go_cut [2, 3] from 20 (fun s2 s3 wx => ∃ (b : Nat) (A : Option Addr) (c : Nat), s2 = .pointer (some ⟨b, 0, none⟩) ∧ s3 = .int .i64 0 ∧ Row wx b 28 [.int .i64 3, .int .i64 1, .int .i64 0, .slice A 3 c] ∧ GAt wx awM A 3 ∧ Below wb.heap.size wb wx)
  case first => as_aux_lemma =>
    have HGb : Hid (GAt wb awG (some ⟨w.heap.size, 0, none⟩) 3) := (HG.out.up B_w1.out)
    refine wp_region_L (fun w' => Row w' (w1.heap.size) 28 [.int .i64 3, .int .i64 1, .int .i64 0, .slice (some ⟨w.heap.size, 0, none⟩) 3 3]) [7] (by as_aux_lemma => kernel_rfl) (by exact Row.drew RG.out) (fun hHeld => ?_)
    have B_w : Hid (Below w.heap.size w (World.drew wb)) := B_w.out.drew
    have B_wa : Hid (Below wa.heap.size wa (World.drew wb)) := B_wa.out.drew
    have B_w1 : Hid (Below w1.heap.size w1 (World.drew wb)) := B_w1.out.drew
    have B_wb : Hid (Below wb.heap.size wb (World.drew wb)) := (Below.refl _ _).drew
    have hle9 : wb.heap.size ≤ (World.drew wb).heap.size := B_wb.out.size
    revert hHeld B_w B_wa B_w1 B_wb hle9
    generalize World.drew wb = wQ
    intro hHeld B_w B_wa B_w1 B_wb hle9
    refine restL_take (i := 1) (v := ?va1) [[7]] rfl (by as_aux_lemma => kernel_rfl) (by as_aux_lemma => kernel_rfl) (by as_aux_lemma => kernel_rfl) (by as_aux_lemma => kernel_rfl) (fun _ _ _ h => h) (Or.inl ⟨by rfl, ?ya1⟩) hHeld ?ra1
    case ya1 =>
      intro w' hSw
      have hT : Hid (Row w' (w1.heap.size) 28 [.int .i64 3, .int .i64 1, .int .i64 0, .slice (some ⟨w.heap.size, 0, none⟩) 3 3]) := hSw
      clear hSw
      have z0 := hT.out.cell 0
      have z1 := hT.out.cell 1
      have z2 := hT.out.cell 2
      have z3 := hT.out.cell 3
      have zl := hT.out.lt
      simp only [List.getElem?_cons_zero, List.getElem?_cons_succ] at z0 z1 z2 z3
      go_simp
      try (with_reducible rfl)
    go_simp
    refine restL_two (i := 0) (j := 6) (by as_aux_lemma => kernel_rfl) rfl rfl (fun K hK => ?_) (fun K hK => ?_)
    · go_simp
      go_at_call 23
      refine (leftN_any wQ).mono ?_
      rintro e v1 ⟨LH, LN, lhc, lnc, lsl, rfl, hlt, hb⟩
      have HLT : Hid (TAt v1 awT LH LN 2 3 lsl) := hlt
      clear hlt
      have hs_v1 : wQ.heap.size ≤ v1.heap.size := hb.size
      have B_w : Hid (Below w.heap.size w v1) := below_on2 B_w.out hb
      have B_wa : Hid (Below wa.heap.size wa v1) := below_on2 B_wa.out hb
      have B_w1 : Hid (Below w1.heap.size w1 v1) := below_on2 B_w1.out hb
      have B_wb : Hid (Below wb.heap.size wb v1) := below_on2 B_wb.out hb
      have B_wQ : Hid (Below wQ.heap.size wQ v1) := hb
      clear hb
      clear hHeld
      refine hK.out _ _ (fun _ => ?keep) (fun hHeld => ?_)
      case keep => exact (rowCells RG.out B_wb.out)
      have hHeld := hHeld rfl
      clear hK K
      try go_simp
      refine restL_two (i := 2) (j := 6) (by as_aux_lemma => kernel_rfl) rfl rfl (fun K hK => ?_) (fun K hK => ?_)
      · go_simp
        go_at_call 11
        have HC := (show Calls _ _ _ v1 (GPostN awM 0 wQ.heap.size v1) from (by have h := gStep_any awT awG LH LN (some ⟨w.heap.size, 0, none⟩) 2 lhc 3 lnc 3 3 lsl v1 HLT.out (HGb.out.up B_wb.out) wQ.heap.size (fun B => (HGb.out.cells.newOr).mono hle9 (Nat.le_refl _)) (by first | exact Nat.le_refl _ | exact B_wQ.out.size); rw [aw_step.2, aw_step.1] at h; exact h))
        refine HC.mono ?_
        clear HC
        rintro e v2 ⟨RA, rn, rc, he, hga, hno, hb⟩
        obtain rfl : 3 = rn := hga.cl
        have he2 : e = .returned (.tuple #[.agg #[.int .i64 3, .int .i64 1, .int .i64 0, .slice RA 3 rc], .int .i64 0]) := he
        subst he2
        have hs_v2 : v1.heap.size ≤ v2.heap.size := hb.size
        have HRA : Hid (GAt v2 awM RA 3) := hga
        have HNO : Hid (NewOr RA 3 wQ.heap.size v1.heap.size) := hno
        clear he hga hno
        have B_w : Hid (Below w.heap.size w v2) := below_on2 B_w.out hb
        have B_wa : Hid (Below wa.heap.size wa v2) := below_on2 B_wa.out hb
        have B_w1 : Hid (Below w1.heap.size w1 v2) := below_on2 B_w1.out hb
        have B_wb : Hid (Below wb.heap.size wb v2) := below_on2 B_wb.out hb
        have B_wQ : Hid (Below wQ.heap.size wQ v2) := below_on2 B_wQ.out hb
        have B_v1 : Hid (Below v1.heap.size v1 v2) := hb
        clear hb
        clear hHeld
        refine hK.out _ _ (fun _ => ?keep) (fun hHeld => ?_)
        case keep => exact (rowCells RG.out B_wb.out)
        have hHeld := hHeld rfl
        clear hK K
        try go_simp
        refine restL_pure (i := 3) (v := ?va2) rfl (by as_aux_lemma => kernel_rfl) (by as_aux_lemma => kernel_rfl) (by as_aux_lemma => kernel_rfl) (fun _ _ _ h => h) (Or.inl ⟨by rfl, ?ya2⟩) ?ra2
        case ya2 => intro w' hSw; clear hSw; go_simp; try (with_reducible rfl)
        go_simp
        refine restL_pure (i := 4) (v := ?va3) rfl (by as_aux_lemma => kernel_rfl) (by as_aux_lemma => kernel_rfl) (by as_aux_lemma => kernel_rfl) (fun _ _ _ h => h) (Or.inl ⟨by rfl, ?ya3⟩) ?ra3
        case ya3 => intro w' hSw; clear hSw; go_simp; try (with_reducible rfl)
        go_simp
        refine restL_pure (i := 5) (v := ?va4) rfl (by as_aux_lemma => kernel_rfl) (by as_aux_lemma => kernel_rfl) (by as_aux_lemma => kernel_rfl) (fun _ _ _ h => h) (Or.inl ⟨by rfl, ?ya4⟩) ?ra4
        case ya4 => intro w' hSw; clear hSw; go_simp; try (with_reducible rfl)
        go_simp
        refine restL_one (i := 6) (by as_aux_lemma => kernel_rfl) rfl (fun K hK => ?_)
        go_simp
        have hb : Below v2.heap.size v2 (World.alloc v2 (.cells #[.int .i64 0, .int .i64 0, .int .i64 0, .slice none 0 0] 28)) := (Below.refl _ _).alloc (Nat.le_refl _) _
        have RB : Hid (Row (World.alloc v2 (.cells #[.int .i64 0, .int .i64 0, .int .i64 0, .slice none 0 0] 28)) v2.heap.size 28 [.int .i64 0, .int .i64 0, .int .i64 0, .slice none 0 0]) := Row.new v2 28 [.int .i64 0, .int .i64 0, .int .i64 0, .slice none 0 0]
        revert hb RB
        generalize (World.alloc v2 (.cells #[.int .i64 0, .int .i64 0, .int .i64 0, .slice none 0 0] 28)) = v3
        intro hb RB
        have hs_v3 : v2.heap.size ≤ v3.heap.size := hb.size
        have B_w : Hid (Below w.heap.size w v3) := below_on2 B_w.out hb
        have B_wa : Hid (Below wa.heap.size wa v3) := below_on2 B_wa.out hb
        have B_w1 : Hid (Below w1.heap.size w1 v3) := below_on2 B_w1.out hb
        have B_wb : Hid (Below wb.heap.size wb v3) := below_on2 B_wb.out hb
        have B_wQ : Hid (Below wQ.heap.size wQ v3) := below_on2 B_wQ.out hb
        have B_v1 : Hid (Below v1.heap.size v1 v3) := below_on2 B_v1.out hb
        have B_v2 : Hid (Below v2.heap.size v2 v3) := hb
        clear hb
        clear hHeld
        refine hK.out _ _ (fun _ => ?keep) (fun hHeld => ?_)
        case keep => exact (rowCells RG.out B_wb.out)
        have hHeld := hHeld rfl
        clear hK K
        try go_simp
        refine restL_one (i := 7) (by as_aux_lemma => kernel_rfl) rfl (fun K hK => ?_)
        have RBc : Hid (Row v3 (v2.heap.size) 28 [.int .i64 0, .int .i64 0, .int .i64 0, .slice none 0 0]) := RB.out
        have y0 := RBc.out.cell 0
        have y1 := RBc.out.cell 1
        have y2 := RBc.out.cell 2
        have y3 := RBc.out.cell 3
        have yl := RBc.out.lt
        simp only [List.getElem?_cons_zero, List.getElem?_cons_succ] at y0 y1 y2 y3
        have yf0 := RBc.out.frozen 0
        have yf1 := RBc.out.frozen 1
        have yf2 := RBc.out.frozen 2
        have yf3 := RBc.out.frozen 3
        go_simp
        refine hK.out _ _ (fun h => absurd h (by decide)) (fun _ => ?_)
        clear hK K
        try go_simp
        refine restL_pure (i := 8) (v := ?va5) rfl (by as_aux_lemma => kernel_rfl) (by as_aux_lemma => kernel_rfl) (by as_aux_lemma => kernel_rfl) (fun _ _ _ h => h) (Or.inl ⟨by rfl, ?ya5⟩) ?ra5
        case ya5 => intro w' hSw; clear hSw; go_simp; try (with_reducible rfl)
        go_simp
        refine restL_done (by as_aux_lemma => kernel_rfl) ?_ _
        have hle0 : wb.heap.size ≤ wQ.heap.size := hle9
        have hsz_wQ : wQ.heap.size ≤ v3.heap.size := B_wQ.out.size
        have hsz_v1 : v1.heap.size ≤ v3.heap.size := B_v1.out.size
        have hsz_v2 : v2.heap.size ≤ v3.heap.size := B_v2.out.size
        have HNB : NewOr RA 3 (v2.heap.size) (v2.heap.size + 1) := GAt.old HRA.out (Nat.le_refl _)
        clear y0 y1 y2 y3 yl yf0 yf1 yf2 yf3
        go_wp2_with fail
        go_meet
        case rel => exact ⟨v2.heap.size, RA, rc, rfl, rfl, ((((RBc.out.set 0 _).set 1 _).set 2 _).set 3 _), (GAt.farSet (GAt.farSet (GAt.farSet (GAt.farSet (HRA.out.up B_v2.out) HNB (p := ⟨v2.heap.size, 0, none⟩) (Nat.le_refl _) (Nat.lt_succ_self _) _) HNB (p := ⟨v2.heap.size, 1, none⟩) (Nat.le_refl _) (Nat.lt_succ_self _) _) HNB (p := ⟨v2.heap.size, 2, none⟩) (Nat.le_refl _) (Nat.lt_succ_self _) _) HNB (p := ⟨v2.heap.size, 3, none⟩) (Nat.le_refl _) (Nat.lt_succ_self _) _), (Below.setCell (Below.setCell (Below.setCell (Below.setCell B_wb.out (p := ⟨v2.heap.size, 0, none⟩) (by show _ ≤ v2.heap.size; omega) _) (p := ⟨v2.heap.size, 1, none⟩) (by show _ ≤ v2.heap.size; omega) _) (p := ⟨v2.heap.size, 2, none⟩) (by show _ ≤ v2.heap.size; omega) _) (p := ⟨v2.heap.size, 3, none⟩) (by show _ ≤ v2.heap.size; omega) _)⟩
      · go_simp
        have hb : Below v1.heap.size v1 (World.alloc v1 (.cells #[.int .i64 0, .int .i64 0, .int .i64 0, .slice none 0 0] 28)) := (Below.refl _ _).alloc (Nat.le_refl _) _
        have RB : Hid (Row (World.alloc v1 (.cells #[.int .i64 0, .int .i64 0, .int .i64 0, .slice none 0 0] 28)) v1.heap.size 28 [.int .i64 0, .int .i64 0, .int .i64 0, .slice none 0 0]) := Row.new v1 28 [.int .i64 0, .int .i64 0, .int .i64 0, .slice none 0 0]
        revert hb RB
        generalize (World.alloc v1 (.cells #[.int .i64 0, .int .i64 0, .int .i64 0, .slice none 0 0] 28)) = v2
        intro hb RB
        have hs_v2 : v1.heap.size ≤ v2.heap.size := hb.size
        have B_w : Hid (Below w.heap.size w v2) := below_on2 B_w.out hb
        have B_wa : Hid (Below wa.heap.size wa v2) := below_on2 B_wa.out hb
        have B_w1 : Hid (Below w1.heap.size w1 v2) := below_on2 B_w1.out hb
        have B_wb : Hid (Below wb.heap.size wb v2) := below_on2 B_wb.out hb
        have B_wQ : Hid (Below wQ.heap.size wQ v2) := below_on2 B_wQ.out hb
        have B_v1 : Hid (Below v1.heap.size v1 v2) := hb
        clear hb
        clear hHeld
        refine hK.out _ _ (fun _ => ?keep) (fun hHeld => ?_)
        case keep => exact (rowCells RG.out B_wb.out)
        have hHeld := hHeld rfl
        clear hK K
        try go_simp
        refine restL_one (i := 2) (by as_aux_lemma => kernel_rfl) rfl (fun K hK => ?_)
        go_simp
        go_at_call 11
        have hbl9 : v1.heap.size < v2.heap.size := (show Row v2 (v1.heap.size) _ _ from RB.out).lt
        have HC := (show Calls _ _ _ v2 (GPostN awM 0 wQ.heap.size v2) from (by have h := gStep_any awT awG LH LN (some ⟨w.heap.size, 0, none⟩) 2 lhc 3 lnc 3 3 lsl v2 (HLT.out.up B_v1.out) (HGb.out.up B_wb.out) wQ.heap.size (fun B => (HGb.out.cells.newOr).mono hle9 (Nat.le_refl _)) (by first | exact Nat.le_refl _ | exact B_wQ.out.size); rw [aw_step.2, aw_step.1] at h; exact h))
        refine HC.mono ?_
        clear HC
        rintro e v3 ⟨RA, rn, rc, he, hga, hno, hb⟩
        obtain rfl : 3 = rn := hga.cl
        have he2 : e = .returned (.tuple #[.agg #[.int .i64 3, .int .i64 1, .int .i64 0, .slice RA 3 rc], .int .i64 0]) := he
        subst he2
        have hs_v3 : v2.heap.size ≤ v3.heap.size := hb.size
        have HRA : Hid (GAt v3 awM RA 3) := hga
        have HNO : Hid (NewOr RA 3 wQ.heap.size v2.heap.size) := hno
        clear he hga hno
        have B_w : Hid (Below w.heap.size w v3) := below_on2 B_w.out hb
        have B_wa : Hid (Below wa.heap.size wa v3) := below_on2 B_wa.out hb
        have B_w1 : Hid (Below w1.heap.size w1 v3) := below_on2 B_w1.out hb
        have B_wb : Hid (Below wb.heap.size wb v3) := below_on2 B_wb.out hb
        have B_wQ : Hid (Below wQ.heap.size wQ v3) := below_on2 B_wQ.out hb
        have B_v1 : Hid (Below v1.heap.size v1 v3) := below_on2 B_v1.out hb
        have B_v2 : Hid (Below v2.heap.size v2 v3) := hb
        clear hb
        clear hHeld
        refine hK.out _ _ (fun _ => ?keep) (fun hHeld => ?_)
        case keep => exact (rowCells RG.out B_wb.out)
        have hHeld := hHeld rfl
        clear hK K
        try go_simp
        refine restL_pure (i := 3) (v := ?va6) rfl (by as_aux_lemma => kernel_rfl) (by as_aux_lemma => kernel_rfl) (by as_aux_lemma => kernel_rfl) (fun _ _ _ h => h) (Or.inl ⟨by rfl, ?ya6⟩) ?ra6
        case ya6 => intro w' hSw; clear hSw; go_simp; try (with_reducible rfl)
        go_simp
        refine restL_pure (i := 4) (v := ?va7) rfl (by as_aux_lemma => kernel_rfl) (by as_aux_lemma => kernel_rfl) (by as_aux_lemma => kernel_rfl) (fun _ _ _ h => h) (Or.inl ⟨by rfl, ?ya7⟩) ?ra7
        case ya7 => intro w' hSw; clear hSw; go_simp; try (with_reducible rfl)
        go_simp
        refine restL_pure (i := 5) (v := ?va8) rfl (by as_aux_lemma => kernel_rfl) (by as_aux_lemma => kernel_rfl) (by as_aux_lemma => kernel_rfl) (fun _ _ _ h => h) (Or.inl ⟨by rfl, ?ya8⟩) ?ra8
        case ya8 => intro w' hSw; clear hSw; go_simp; try (with_reducible rfl)
        go_simp
        refine restL_one (i := 7) (by as_aux_lemma => kernel_rfl) rfl (fun K hK => ?_)
        have RBc : Hid (Row v3 (v1.heap.size) 28 [.int .i64 0, .int .i64 0, .int .i64 0, .slice none 0 0]) := (rowCells RB.out B_v2.out)
        have y0 := RBc.out.cell 0
        have y1 := RBc.out.cell 1
        have y2 := RBc.out.cell 2
        have y3 := RBc.out.cell 3
        have yl := RBc.out.lt
        simp only [List.getElem?_cons_zero, List.getElem?_cons_succ] at y0 y1 y2 y3
        have yf0 := RBc.out.frozen 0
        have yf1 := RBc.out.frozen 1
        have yf2 := RBc.out.frozen 2
        have yf3 := RBc.out.frozen 3
        go_simp
        refine hK.out _ _ (fun h => absurd h (by decide)) (fun _ => ?_)
        clear hK K
        try go_simp
        refine restL_pure (i := 8) (v := ?va9) rfl (by as_aux_lemma => kernel_rfl) (by as_aux_lemma => kernel_rfl) (by as_aux_lemma => kernel_rfl) (fun _ _ _ h => h) (Or.inl ⟨by rfl, ?ya9⟩) ?ra9
        case ya9 => intro w' hSw; clear hSw; go_simp; try (with_reducible rfl)
        go_simp
        refine restL_done (by as_aux_lemma => kernel_rfl) ?_ _
        have hle0 : wb.heap.size ≤ wQ.heap.size := hle9
        have hsz_wQ : wQ.heap.size ≤ v3.heap.size := B_wQ.out.size
        have hsz_v1 : v1.heap.size ≤ v3.heap.size := B_v1.out.size
        have hsz_v2 : v2.heap.size ≤ v3.heap.size := B_v2.out.size
        have hbl : v1.heap.size < v2.heap.size := hbl9
        have HNB : NewOr RA 3 (v1.heap.size) (v1.heap.size + 1) := HNO.out.of_lt' hbl (by omega)
        clear y0 y1 y2 y3 yl yf0 yf1 yf2 yf3
        go_wp2_with fail
        go_meet
        case rel => exact ⟨v1.heap.size, RA, rc, rfl, rfl, ((((RBc.out.set 0 _).set 1 _).set 2 _).set 3 _), (GAt.farSet (GAt.farSet (GAt.farSet (GAt.farSet HRA.out HNB (p := ⟨v1.heap.size, 0, none⟩) (Nat.le_refl _) (Nat.lt_succ_self _) _) HNB (p := ⟨v1.heap.size, 1, none⟩) (Nat.le_refl _) (Nat.lt_succ_self _) _) HNB (p := ⟨v1.heap.size, 2, none⟩) (Nat.le_refl _) (Nat.lt_succ_self _) _) HNB (p := ⟨v1.heap.size, 3, none⟩) (Nat.le_refl _) (Nat.lt_succ_self _) _), (Below.setCell (Below.setCell (Below.setCell (Below.setCell B_wb.out (p := ⟨v1.heap.size, 0, none⟩) (by show _ ≤ v1.heap.size; omega) _) (p := ⟨v1.heap.size, 1, none⟩) (by show _ ≤ v1.heap.size; omega) _) (p := ⟨v1.heap.size, 2, none⟩) (by show _ ≤ v1.heap.size; omega) _) (p := ⟨v1.heap.size, 3, none⟩) (by show _ ≤ v1.heap.size; omega) _)⟩
    · go_simp
      have hb : Below wQ.heap.size wQ (World.alloc wQ (.cells #[.int .i64 0, .int .i64 0, .int .i64 0, .slice none 0 0] 28)) := (Below.refl _ _).alloc (Nat.le_refl _) _
      have RB : Hid (Row (World.alloc wQ (.cells #[.int .i64 0, .int .i64 0, .int .i64 0, .slice none 0 0] 28)) wQ.heap.size 28 [.int .i64 0, .int .i64 0, .int .i64 0, .slice none 0 0]) := Row.new wQ 28 [.int .i64 0, .int .i64 0, .int .i64 0, .slice none 0 0]
      revert hb RB
      generalize (World.alloc wQ (.cells #[.int .i64 0, .int .i64 0, .int .i64 0, .slice none 0 0] 28)) = v1
      intro hb RB
      have hs_v1 : wQ.heap.size ≤ v1.heap.size := hb.size
      have B_w : Hid (Below w.heap.size w v1) := below_on2 B_w.out hb
      have B_wa : Hid (Below wa.heap.size wa v1) := below_on2 B_wa.out hb
      have B_w1 : Hid (Below w1.heap.size w1 v1) := below_on2 B_w1.out hb
      have B_wb : Hid (Below wb.heap.size wb v1) := below_on2 B_wb.out hb
      have B_wQ : Hid (Below wQ.heap.size wQ v1) := hb
      clear hb
      clear hHeld
      refine hK.out _ _ (fun _ => ?keep) (fun hHeld => ?_)
      case keep => exact (rowCells RG.out B_wb.out)
      have hHeld := hHeld rfl
      clear hK K
      try go_simp
      refine restL_one (i := 0) (by as_aux_lemma => kernel_rfl) rfl (fun K hK => ?_)
      go_simp
      go_at_call 23
      refine (leftN_any v1).mono ?_
      rintro e v2 ⟨LH, LN, lhc, lnc, lsl, rfl, hlt, hb⟩
      have HLT : Hid (TAt v2 awT LH LN 2 3 lsl) := hlt
      clear hlt
      have hs_v2 : v1.heap.size ≤ v2.heap.size := hb.size
      have B_w : Hid (Below w.heap.size w v2) := below_on2 B_w.out hb
      have B_wa : Hid (Below wa.heap.size wa v2) := below_on2 B_wa.out hb
      have B_w1 : Hid (Below w1.heap.size w1 v2) := below_on2 B_w1.out hb
      have B_wb : Hid (Below wb.heap.size wb v2) := below_on2 B_wb.out hb
      have B_wQ : Hid (Below wQ.heap.size wQ v2) := below_on2 B_wQ.out hb
      have B_v1 : Hid (Below v1.heap.size v1 v2) := hb
      clear hb
      clear hHeld
      refine hK.out _ _ (fun _ => ?keep) (fun hHeld => ?_)
      case keep => exact (rowCells RG.out B_wb.out)
      have hHeld := hHeld rfl
      clear hK K
      try go_simp
      refine restL_one (i := 2) (by as_aux_lemma => kernel_rfl) rfl (fun K hK => ?_)
      go_simp
      go_at_call 11
      have hbl9 : wQ.heap.size < v2.heap.size := (show Row v2 (wQ.heap.size) _ _ from (rowCells RB.out B_v1.out)).lt
      have HC := (show Calls _ _ _ v2 (GPostN awM 0 wQ.heap.size v2) from (by have h := gStep_any awT awG LH LN (some ⟨w.heap.size, 0, none⟩) 2 lhc 3 lnc 3 3 lsl v2 HLT.out (HGb.out.up B_wb.out) wQ.heap.size (fun B => (HGb.out.cells.newOr).mono hle9 (Nat.le_refl _)) (by first | exact Nat.le_refl _ | exact B_wQ.out.size); rw [aw_step.2, aw_step.1] at h; exact h))
      refine HC.mono ?_
      clear HC
      rintro e v3 ⟨RA, rn, rc, he, hga, hno, hb⟩
      obtain rfl : 3 = rn := hga.cl
      have he2 : e = .returned (.tuple #[.agg #[.int .i64 3, .int .i64 1, .int .i64 0, .slice RA 3 rc], .int .i64 0]) := he
      subst he2
      have hs_v3 : v2.heap.size ≤ v3.heap.size := hb.size
      have HRA : Hid (GAt v3 awM RA 3) := hga
      have HNO : Hid (NewOr RA 3 wQ.heap.size v2.heap.size) := hno
      clear he hga hno
      have B_w : Hid (Below w.heap.size w v3) := below_on2 B_w.out hb
      have B_wa : Hid (Below wa.heap.size wa v3) := below_on2 B_wa.out hb
      have B_w1 : Hid (Below w1.heap.size w1 v3) := below_on2 B_w1.out hb
      have B_wb : Hid (Below wb.heap.size wb v3) := below_on2 B_wb.out hb
      have B_wQ : Hid (Below wQ.heap.size wQ v3) := below_on2 B_wQ.out hb
      have B_v1 : Hid (Below v1.heap.size v1 v3) := below_on2 B_v1.out hb
      have B_v2 : Hid (Below v2.heap.size v2 v3) := hb
      clear hb
      clear hHeld
      refine hK.out _ _ (fun _ => ?keep) (fun hHeld => ?_)
      case keep => exact (rowCells RG.out B_wb.out)
      have hHeld := hHeld rfl
      clear hK K
      try go_simp
      refine restL_pure (i := 3) (v := ?va10) rfl (by as_aux_lemma => kernel_rfl) (by as_aux_lemma => kernel_rfl) (by as_aux_lemma => kernel_rfl) (fun _ _ _ h => h) (Or.inl ⟨by rfl, ?ya10⟩) ?ra10
      case ya10 => intro w' hSw; clear hSw; go_simp; try (with_reducible rfl)
      go_simp
      refine restL_pure (i := 4) (v := ?va11) rfl (by as_aux_lemma => kernel_rfl) (by as_aux_lemma => kernel_rfl) (by as_aux_lemma => kernel_rfl) (fun _ _ _ h => h) (Or.inl ⟨by rfl, ?ya11⟩) ?ra11
      case ya11 => intro w' hSw; clear hSw; go_simp; try (with_reducible rfl)
      go_simp
      refine restL_pure (i := 5) (v := ?va12) rfl (by as_aux_lemma => kernel_rfl) (by as_aux_lemma => kernel_rfl) (by as_aux_lemma => kernel_rfl) (fun _ _ _ h => h) (Or.inl ⟨by rfl, ?ya12⟩) ?ra12
      case ya12 => intro w' hSw; clear hSw; go_simp; try (with_reducible rfl)
      go_simp
      refine restL_one (i := 7) (by as_aux_lemma => kernel_rfl) rfl (fun K hK => ?_)
      have RBc : Hid (Row v3 (wQ.heap.size) 28 [.int .i64 0, .int .i64 0, .int .i64 0, .slice none 0 0]) := (rowCells RB.out B_v1.out)
      have y0 := RBc.out.cell 0
      have y1 := RBc.out.cell 1
      have y2 := RBc.out.cell 2
      have y3 := RBc.out.cell 3
      have yl := RBc.out.lt
      simp only [List.getElem?_cons_zero, List.getElem?_cons_succ] at y0 y1 y2 y3
      have yf0 := RBc.out.frozen 0
      have yf1 := RBc.out.frozen 1
      have yf2 := RBc.out.frozen 2
      have yf3 := RBc.out.frozen 3
      go_simp
      refine hK.out _ _ (fun h => absurd h (by decide)) (fun _ => ?_)
      clear hK K
      try go_simp
      refine restL_pure (i := 8) (v := ?va13) rfl (by as_aux_lemma => kernel_rfl) (by as_aux_lemma => kernel_rfl) (by as_aux_lemma => kernel_rfl) (fun _ _ _ h => h) (Or.inl ⟨by rfl, ?ya13⟩) ?ra13
      case ya13 => intro w' hSw; clear hSw; go_simp; try (with_reducible rfl)
      go_simp
      refine restL_done (by as_aux_lemma => kernel_rfl) ?_ _
      have hle0 : wb.heap.size ≤ wQ.heap.size := hle9
      have hsz_wQ : wQ.heap.size ≤ v3.heap.size := B_wQ.out.size
      have hsz_v1 : v1.heap.size ≤ v3.heap.size := B_v1.out.size
      have hsz_v2 : v2.heap.size ≤ v3.heap.size := B_v2.out.size
      have hbl : wQ.heap.size < v2.heap.size := hbl9
      have HNB : NewOr RA 3 (wQ.heap.size) (wQ.heap.size + 1) := HNO.out.of_lt' hbl (by omega)
      clear y0 y1 y2 y3 yl yf0 yf1 yf2 yf3
      go_wp2_with fail
      go_meet
      case rel => exact ⟨wQ.heap.size, RA, rc, rfl, rfl, ((((RBc.out.set 0 _).set 1 _).set 2 _).set 3 _), (GAt.farSet (GAt.farSet (GAt.farSet (GAt.farSet HRA.out HNB (p := ⟨wQ.heap.size, 0, none⟩) (Nat.le_refl _) (Nat.lt_succ_self _) _) HNB (p := ⟨wQ.heap.size, 1, none⟩) (Nat.le_refl _) (Nat.lt_succ_self _) _) HNB (p := ⟨wQ.heap.size, 2, none⟩) (Nat.le_refl _) (Nat.lt_succ_self _) _) HNB (p := ⟨wQ.heap.size, 3, none⟩) (Nat.le_refl _) (Nat.lt_succ_self _) _), (Below.setCell (Below.setCell (Below.setCell (Below.setCell B_wb.out (p := ⟨wQ.heap.size, 0, none⟩) (by show _ ≤ wQ.heap.size; omega) _) (p := ⟨wQ.heap.size, 1, none⟩) (by show _ ≤ wQ.heap.size; omega) _) (p := ⟨wQ.heap.size, 2, none⟩) (by show _ ≤ wQ.heap.size; omega) _) (p := ⟨wQ.heap.size, 3, none⟩) (by show _ ≤ wQ.heap.size; omega) _)⟩
  obtain ⟨b2, A2, c2, rfl, rfl, h1, h2, hb⟩ := hcut
  obtain ⟨w2, rfl⟩ : ∃ w2 : World, w2 = wc := ⟨_, rfl⟩
  have R2 : Hid (Row w2 b2 28 [.int .i64 3, .int .i64 1, .int .i64 0, .slice A2 3 c2]) := h1
  have HG2 : Hid (GAt w2 awM A2 3) := h2
  clear h1 h2
  have B_w : Hid (Below w.heap.size w w2) := below_on2 B_w.out hb
  have B_wa : Hid (Below wa.heap.size wa w2) := below_on2 B_wa.out hb
  have B_w1 : Hid (Below w1.heap.size w1 w2) := below_on2 B_w1.out hb
  have B_wb : Hid (Below wb.heap.size wb w2) := hb
  clear hb
  go_upto_region 3 with fail
  go_cut [4, 5] from 20 (fun s2 s3 wx => ∃ (b : Nat) (A : Option Addr) (c : Nat), s2 = .pointer (some ⟨b, 0, none⟩) ∧ s3 = .int .i64 0 ∧ Row wx b 28 [.int .i64 3, .int .i64 1, .int .i64 0, .slice A 3 c] ∧ GAt wx awZ A 3 ∧ Below w2.heap.size w2 wx)
  case first => as_aux_lemma =>
    have HGb : Hid (GAt w2 awG (some ⟨w.heap.size, 0, none⟩) 3) := (HG.out.up B_w1.out)
    refine wp_region_L (fun w' => Row w' (w1.heap.size) 28 [.int .i64 3, .int .i64 1, .int .i64 0, .slice (some ⟨w.heap.size, 0, none⟩) 3 3]) [7] (by as_aux_lemma => kernel_rfl) (by exact Row.drew (rowCells RG.out B_wb.out)) (fun hHeld => ?_)
    have B_w : Hid (Below w.heap.size w (World.drew w2)) := B_w.out.drew
    have B_wa : Hid (Below wa.heap.size wa (World.drew w2)) := B_wa.out.drew
    have B_w1 : Hid (Below w1.heap.size w1 (World.drew w2)) := B_w1.out.drew
    have B_wb : Hid (Below wb.heap.size wb (World.drew w2)) := B_wb.out.drew
    have B_w2 : Hid (Below w2.heap.size w2 (World.drew w2)) := (Below.refl _ _).drew
    have hle9 : w2.heap.size ≤ (World.drew w2).heap.size := B_w2.out.size
    revert hHeld B_w B_wa B_w1 B_wb B_w2 hle9
    generalize World.drew w2 = wQ
    intro hHeld B_w B_wa B_w1 B_wb B_w2 hle9
    refine restL_take (i := 1) (v := ?vb1) [[7]] rfl (by as_aux_lemma => kernel_rfl) (by as_aux_lemma => kernel_rfl) (by as_aux_lemma => kernel_rfl) (by as_aux_lemma => kernel_rfl) (fun _ _ _ h => h) (Or.inl ⟨by rfl, ?yb1⟩) hHeld ?rb1
    case yb1 =>
      intro w' hSw
      have hT : Hid (Row w' (w1.heap.size) 28 [.int .i64 3, .int .i64 1, .int .i64 0, .slice (some ⟨w.heap.size, 0, none⟩) 3 3]) := hSw
      clear hSw
      have z0 := hT.out.cell 0
      have z1 := hT.out.cell 1
      have z2 := hT.out.cell 2
      have z3 := hT.out.cell 3
      have zl := hT.out.lt
      simp only [List.getElem?_cons_zero, List.getElem?_cons_succ] at z0 z1 z2 z3
      go_simp
      try (with_reducible rfl)
    go_simp
    refine restL_two (i := 0) (j := 6) (by as_aux_lemma => kernel_rfl) rfl rfl (fun K hK => ?_) (fun K hK => ?_)
    · go_simp
      go_at_call 23
      refine (leftN_any wQ).mono ?_
      rintro e v1 ⟨LH, LN, lhc, lnc, lsl, rfl, hlt, hb⟩
      have HLT : Hid (TAt v1 awT LH LN 2 3 lsl) := hlt
      clear hlt
      have hs_v1 : wQ.heap.size ≤ v1.heap.size := hb.size
      have B_w : Hid (Below w.heap.size w v1) := below_on2 B_w.out hb
      have B_wa : Hid (Below wa.heap.size wa v1) := below_on2 B_wa.out hb
      have B_w1 : Hid (Below w1.heap.size w1 v1) := below_on2 B_w1.out hb
      have B_wb : Hid (Below wb.heap.size wb v1) := below_on2 B_wb.out hb
      have B_w2 : Hid (Below w2.heap.size w2 v1) := below_on2 B_w2.out hb
      have B_wQ : Hid (Below wQ.heap.size wQ v1) := hb
      clear hb
      clear hHeld
      refine hK.out _ _ (fun _ => ?keep) (fun hHeld => ?_)
      case keep => exact (rowCells RG.out B_wb.out)
      have hHeld := hHeld rfl
      clear hK K
      try go_simp
      refine restL_two (i := 2) (j := 6) (by as_aux_lemma => kernel_rfl) rfl rfl (fun K hK => ?_) (fun K hK => ?_)
      · go_simp
        go_at_call 14
        have HC := (show Calls _ _ _ v1 (GPostN awZ 0 wQ.heap.size v1) from (by have h := (callsIn_wide (n := 3)).1 (gRun_any awT awG 3 LH LN (some ⟨w.heap.size, 0, none⟩) 2 lhc 3 lnc 3 3 lsl v1 HLT.out (HGb.out.up B_w2.out) wQ.heap.size (fun B => (HGb.out.cells.newOr).mono hle9 (Nat.le_refl _)) (by first | exact Nat.le_refl _ | exact B_wQ.out.size)); rw [aw_run.2, aw_run.1] at h; exact h))
        refine HC.mono ?_
        clear HC
        rintro e v2 ⟨RA, rn, rc, he, hga, hno, hb⟩
        obtain rfl : 3 = rn := hga.cl
        have he2 : e = .returned (.tuple #[.agg #[.int .i64 3, .int .i64 1, .int .i64 0, .slice RA 3 rc], .int .i64 0]) := he
        subst he2
        have hs_v2 : v1.heap.size ≤ v2.heap.size := hb.size
        have HRA : Hid (GAt v2 awZ RA 3) := hga
        have HNO : Hid (NewOr RA 3 wQ.heap.size v1.heap.size) := hno
        clear he hga hno
        have B_w : Hid (Below w.heap.size w v2) := below_on2 B_w.out hb
        have B_wa : Hid (Below wa.heap.size wa v2) := below_on2 B_wa.out hb
        have B_w1 : Hid (Below w1.heap.size w1 v2) := below_on2 B_w1.out hb
        have B_wb : Hid (Below wb.heap.size wb v2) := below_on2 B_wb.out hb
        have B_w2 : Hid (Below w2.heap.size w2 v2) := below_on2 B_w2.out hb
        have B_wQ : Hid (Below wQ.heap.size wQ v2) := below_on2 B_wQ.out hb
        have B_v1 : Hid (Below v1.heap.size v1 v2) := hb
        clear hb
        clear hHeld
        refine hK.out _ _ (fun _ => ?keep) (fun hHeld => ?_)
        case keep => exact (rowCells RG.out B_wb.out)
        have hHeld := hHeld rfl
        clear hK K
        try go_simp
        refine restL_pure (i := 3) (v := ?vb2) rfl (by as_aux_lemma => kernel_rfl) (by as_aux_lemma => kernel_rfl) (by as_aux_lemma => kernel_rfl) (fun _ _ _ h => h) (Or.inl ⟨by rfl, ?yb2⟩) ?rb2
        case yb2 => intro w' hSw; clear hSw; go_simp; try (with_reducible rfl)
        go_simp
        refine restL_pure (i := 4) (v := ?vb3) rfl (by as_aux_lemma => kernel_rfl) (by as_aux_lemma => kernel_rfl) (by as_aux_lemma => kernel_rfl) (fun _ _ _ h => h) (Or.inl ⟨by rfl, ?yb3⟩) ?rb3
        case yb3 => intro w' hSw; clear hSw; go_simp; try (with_reducible rfl)
        go_simp
        refine restL_pure (i := 5) (v := ?vb4) rfl (by as_aux_lemma => kernel_rfl) (by as_aux_lemma => kernel_rfl) (by as_aux_lemma => kernel_rfl) (fun _ _ _ h => h) (Or.inl ⟨by rfl, ?yb4⟩) ?rb4
        case yb4 => intro w' hSw; clear hSw; go_simp; try (with_reducible rfl)
        go_simp
        refine restL_one (i := 6) (by as_aux_lemma => kernel_rfl) rfl (fun K hK => ?_)
        go_simp
        have hb : Below v2.heap.size v2 (World.alloc v2 (.cells #[.int .i64 0, .int .i64 0, .int .i64 0, .slice none 0 0] 28)) := (Below.refl _ _).alloc (Nat.le_refl _) _
        have RB : Hid (Row (World.alloc v2 (.cells #[.int .i64 0, .int .i64 0, .int .i64 0, .slice none 0 0] 28)) v2.heap.size 28 [.int .i64 0, .int .i64 0, .int .i64 0, .slice none 0 0]) := Row.new v2 28 [.int .i64 0, .int .i64 0, .int .i64 0, .slice none 0 0]
        revert hb RB
        generalize (World.alloc v2 (.cells #[.int .i64 0, .int .i64 0, .int .i64 0, .slice none 0 0] 28)) = v3
        intro hb RB
        have hs_v3 : v2.heap.size ≤ v3.heap.size := hb.size
        have B_w : Hid (Below w.heap.size w v3) := below_on2 B_w.out hb
        have B_wa : Hid (Below wa.heap.size wa v3) := below_on2 B_wa.out hb
        have B_w1 : Hid (Below w1.heap.size w1 v3) := below_on2 B_w1.out hb
        have B_wb : Hid (Below wb.heap.size wb v3) := below_on2 B_wb.out hb
        have B_w2 : Hid (Below w2.heap.size w2 v3) := below_on2 B_w2.out hb
        have B_wQ : Hid (Below wQ.heap.size wQ v3) := below_on2 B_wQ.out hb
        have B_v1 : Hid (Below v1.heap.size v1 v3) := below_on2 B_v1.out hb
        have B_v2 : Hid (Below v2.heap.size v2 v3) := hb
        clear hb
        clear hHeld
        refine hK.out _ _ (fun _ => ?keep) (fun hHeld => ?_)
        case keep => exact (rowCells RG.out B_wb.out)
        have hHeld := hHeld rfl
        clear hK K
        try go_simp
        refine restL_one (i := 7) (by as_aux_lemma => kernel_rfl) rfl (fun K hK => ?_)
        have RBc : Hid (Row v3 (v2.heap.size) 28 [.int .i64 0, .int .i64 0, .int .i64 0, .slice none 0 0]) := RB.out
        have y0 := RBc.out.cell 0
        have y1 := RBc.out.cell 1
        have y2 := RBc.out.cell 2
        have y3 := RBc.out.cell 3
        have yl := RBc.out.lt
        simp only [List.getElem?_cons_zero, List.getElem?_cons_succ] at y0 y1 y2 y3
        have yf0 := RBc.out.frozen 0
        have yf1 := RBc.out.frozen 1
        have yf2 := RBc.out.frozen 2
        have yf3 := RBc.out.frozen 3
        go_simp
        refine hK.out _ _ (fun h => absurd h (by decide)) (fun _ => ?_)
        clear hK K
        try go_simp
        refine restL_pure (i := 8) (v := ?vb5) rfl (by as_aux_lemma => kernel_rfl) (by as_aux_lemma => kernel_rfl) (by as_aux_lemma => kernel_rfl) (fun _ _ _ h => h) (Or.inl ⟨by rfl, ?yb5⟩) ?rb5
        case yb5 => intro w' hSw; clear hSw; go_simp; try (with_reducible rfl)
        go_simp
        refine restL_done (by as_aux_lemma => kernel_rfl) ?_ _
        have hle0 : w2.heap.size ≤ wQ.heap.size := hle9
        have hsz_wQ : wQ.heap.size ≤ v3.heap.size := B_wQ.out.size
        have hsz_v1 : v1.heap.size ≤ v3.heap.size := B_v1.out.size
        have hsz_v2 : v2.heap.size ≤ v3.heap.size := B_v2.out.size
        have HNB : NewOr RA 3 (v2.heap.size) (v2.heap.size + 1) := GAt.old HRA.out (Nat.le_refl _)
        clear y0 y1 y2 y3 yl yf0 yf1 yf2 yf3
        go_wp2_with fail
        go_meet
        case rel => exact ⟨v2.heap.size, RA, rc, rfl, rfl, ((((RBc.out.set 0 _).set 1 _).set 2 _).set 3 _), (GAt.farSet (GAt.farSet (GAt.farSet (GAt.farSet (HRA.out.up B_v2.out) HNB (p := ⟨v2.heap.size, 0, none⟩) (Nat.le_refl _) (Nat.lt_succ_self _) _) HNB (p := ⟨v2.heap.size, 1, none⟩) (Nat.le_refl _) (Nat.lt_succ_self _) _) HNB (p := ⟨v2.heap.size, 2, none⟩) (Nat.le_refl _) (Nat.lt_succ_self _) _) HNB (p := ⟨v2.heap.size, 3, none⟩) (Nat.le_refl _) (Nat.lt_succ_self _) _), (Below.setCell (Below.setCell (Below.setCell (Below.setCell B_w2.out (p := ⟨v2.heap.size, 0, none⟩) (by show _ ≤ v2.heap.size; omega) _) (p := ⟨v2.heap.size, 1, none⟩) (by show _ ≤ v2.heap.size; omega) _) (p := ⟨v2.heap.size, 2, none⟩) (by show _ ≤ v2.heap.size; omega) _) (p := ⟨v2.heap.size, 3, none⟩) (by show _ ≤ v2.heap.size; omega) _)⟩
      · go_simp
        have hb : Below v1.heap.size v1 (World.alloc v1 (.cells #[.int .i64 0, .int .i64 0, .int .i64 0, .slice none 0 0] 28)) := (Below.refl _ _).alloc (Nat.le_refl _) _
        have RB : Hid (Row (World.alloc v1 (.cells #[.int .i64 0, .int .i64 0, .int .i64 0, .slice none 0 0] 28)) v1.heap.size 28 [.int .i64 0, .int .i64 0, .int .i64 0, .slice none 0 0]) := Row.new v1 28 [.int .i64 0, .int .i64 0, .int .i64 0, .slice none 0 0]
        revert hb RB
        generalize (World.alloc v1 (.cells #[.int .i64 0, .int .i64 0, .int .i64 0, .slice none 0 0] 28)) = v2
        intro hb RB
        have hs_v2 : v1.heap.size ≤ v2.heap.size := hb.size
        have B_w : Hid (Below w.heap.size w v2) := below_on2 B_w.out hb
        have B_wa : Hid (Below wa.heap.size wa v2) := below_on2 B_wa.out hb
        have B_w1 : Hid (Below w1.heap.size w1 v2) := below_on2 B_w1.out hb
        have B_wb : Hid (Below wb.heap.size wb v2) := below_on2 B_wb.out hb
        have B_w2 : Hid (Below w2.heap.size w2 v2) := below_on2 B_w2.out hb
        have B_wQ : Hid (Below wQ.heap.size wQ v2) := below_on2 B_wQ.out hb
        have B_v1 : Hid (Below v1.heap.size v1 v2) := hb
        clear hb
        clear hHeld
        refine hK.out _ _ (fun _ => ?keep) (fun hHeld => ?_)
        case keep => exact (rowCells RG.out B_wb.out)
        have hHeld := hHeld rfl
        clear hK K
        try go_simp
        refine restL_one (i := 2) (by as_aux_lemma => kernel_rfl) rfl (fun K hK => ?_)
        go_simp
        go_at_call 14
        have hbl9 : v1.heap.size < v2.heap.size := (show Row v2 (v1.heap.size) _ _ from RB.out).lt
        have HC := (show Calls _ _ _ v2 (GPostN awZ 0 wQ.heap.size v2) from (by have h := (callsIn_wide (n := 3)).1 (gRun_any awT awG 3 LH LN (some ⟨w.heap.size, 0, none⟩) 2 lhc 3 lnc 3 3 lsl v2 (HLT.out.up B_v1.out) (HGb.out.up B_w2.out) wQ.heap.size (fun B => (HGb.out.cells.newOr).mono hle9 (Nat.le_refl _)) (by first | exact Nat.le_refl _ | exact B_wQ.out.size)); rw [aw_run.2, aw_run.1] at h; exact h))
        refine HC.mono ?_
        clear HC
        rintro e v3 ⟨RA, rn, rc, he, hga, hno, hb⟩
        obtain rfl : 3 = rn := hga.cl
        have he2 : e = .returned (.tuple #[.agg #[.int .i64 3, .int .i64 1, .int .i64 0, .slice RA 3 rc], .int .i64 0]) := he
        subst he2
        have hs_v3 : v2.heap.size ≤ v3.heap.size := hb.size
        have HRA : Hid (GAt v3 awZ RA 3) := hga
        have HNO : Hid (NewOr RA 3 wQ.heap.size v2.heap.size) := hno
        clear he hga hno
        have B_w : Hid (Below w.heap.size w v3) := below_on2 B_w.out hb
        have B_wa : Hid (Below wa.heap.size wa v3) := below_on2 B_wa.out hb
        have B_w1 : Hid (Below w1.heap.size w1 v3) := below_on2 B_w1.out hb
        have B_wb : Hid (Below wb.heap.size wb v3) := below_on2 B_wb.out hb
        have B_w2 : Hid (Below w2.heap.size w2 v3) := below_on2 B_w2.out hb
        have B_wQ : Hid (Below wQ.heap.size wQ v3) := below_on2 B_wQ.out hb
        have B_v1 : Hid (Below v1.heap.size v1 v3) := below_on2 B_v1.out hb
        have B_v2 : Hid (Below v2.heap.size v2 v3) := hb
        clear hb
        clear hHeld
        refine hK.out _ _ (fun _ => ?keep) (fun hHeld => ?_)
        case keep => exact (rowCells RG.out B_wb.out)
        have hHeld := hHeld rfl
        clear hK K
        try go_simp
        refine restL_pure (i := 3) (v := ?vb6) rfl (by as_aux_lemma => kernel_rfl) (by as_aux_lemma => kernel_rfl) (by as_aux_lemma => kernel_rfl) (fun _ _ _ h => h) (Or.inl ⟨by rfl, ?yb6⟩) ?rb6
        case yb6 => intro w' hSw; clear hSw; go_simp; try (with_reducible rfl)
        go_simp
        refine restL_pure (i := 4) (v := ?vb7) rfl (by as_aux_lemma => kernel_rfl) (by as_aux_lemma => kernel_rfl) (by as_aux_lemma => kernel_rfl) (fun _ _ _ h => h) (Or.inl ⟨by rfl, ?yb7⟩) ?rb7
        case yb7 => intro w' hSw; clear hSw; go_simp; try (with_reducible rfl)
        go_simp
        refine restL_pure (i := 5) (v := ?vb8) rfl (by as_aux_lemma => kernel_rfl) (by as_aux_lemma => kernel_rfl) (by as_aux_lemma => kernel_rfl) (fun _ _ _ h => h) (Or.inl ⟨by rfl, ?yb8⟩) ?rb8
        case yb8 => intro w' hSw; clear hSw; go_simp; try (with_reducible rfl)
        go_simp
        refine restL_one (i := 7) (by as_aux_lemma => kernel_rfl) rfl (fun K hK => ?_)
        have RBc : Hid (Row v3 (v1.heap.size) 28 [.int .i64 0, .int .i64 0, .int .i64 0, .slice none 0 0]) := (rowCells RB.out B_v2.out)
        have y0 := RBc.out.cell 0
        have y1 := RBc.out.cell 1
        have y2 := RBc.out.cell 2
        have y3 := RBc.out.cell 3
        have yl := RBc.out.lt
        simp only [List.getElem?_cons_zero, List.getElem?_cons_succ] at y0 y1 y2 y3
        have yf0 := RBc.out.frozen 0
        have yf1 := RBc.out.frozen 1
        have yf2 := RBc.out.frozen 2
        have yf3 := RBc.out.frozen 3
        go_simp
        refine hK.out _ _ (fun h => absurd h (by decide)) (fun _ => ?_)
        clear hK K
        try go_simp
        refine restL_pure (i := 8) (v := ?vb9) rfl (by as_aux_lemma => kernel_rfl) (by as_aux_lemma => kernel_rfl) (by as_aux_lemma => kernel_rfl) (fun _ _ _ h => h) (Or.inl ⟨by rfl, ?yb9⟩) ?rb9
        case yb9 => intro w' hSw; clear hSw; go_simp; try (with_reducible rfl)
        go_simp
        refine restL_done (by as_aux_lemma => kernel_rfl) ?_ _
        have hle0 : w2.heap.size ≤ wQ.heap.size := hle9
        have hsz_wQ : wQ.heap.size ≤ v3.heap.size := B_wQ.out.size
        have hsz_v1 : v1.heap.size ≤ v3.heap.size := B_v1.out.size
        have hsz_v2 : v2.heap.size ≤ v3.heap.size := B_v2.out.size
        have hbl : v1.heap.size < v2.heap.size := hbl9
        have HNB : NewOr RA 3 (v1.heap.size) (v1.heap.size + 1) := HNO.out.of_lt' hbl (by omega)
        clear y0 y1 y2 y3 yl yf0 yf1 yf2 yf3
        go_wp2_with fail
        go_meet
        case rel => exact ⟨v1.heap.size, RA, rc, rfl, rfl, ((((RBc.out.set 0 _).set 1 _).set 2 _).set 3 _), (GAt.farSet (GAt.farSet (GAt.farSet (GAt.farSet HRA.out HNB (p := ⟨v1.heap.size, 0, none⟩) (Nat.le_refl _) (Nat.lt_succ_self _) _) HNB (p := ⟨v1.heap.size, 1, none⟩) (Nat.le_refl _) (Nat.lt_succ_self _) _) HNB (p := ⟨v1.heap.size, 2, none⟩) (Nat.le_refl _) (Nat.lt_succ_self _) _) HNB (p := ⟨v1.heap.size, 3, none⟩) (Nat.le_refl _) (Nat.lt_succ_self _) _), (Below.setCell (Below.setCell (Below.setCell (Below.setCell B_w2.out (p := ⟨v1.heap.size, 0, none⟩) (by show _ ≤ v1.heap.size; omega) _) (p := ⟨v1.heap.size, 1, none⟩) (by show _ ≤ v1.heap.size; omega) _) (p := ⟨v1.heap.size, 2, none⟩) (by show _ ≤ v1.heap.size; omega) _) (p := ⟨v1.heap.size, 3, none⟩) (by show _ ≤ v1.heap.size; omega) _)⟩
    · go_simp
      have hb : Below wQ.heap.size wQ (World.alloc wQ (.cells #[.int .i64 0, .int .i64 0, .int .i64 0, .slice none 0 0] 28)) := (Below.refl _ _).alloc (Nat.le_refl _) _
      have RB : Hid (Row (World.alloc wQ (.cells #[.int .i64 0, .int .i64 0, .int .i64 0, .slice none 0 0] 28)) wQ.heap.size 28 [.int .i64 0, .int .i64 0, .int .i64 0, .slice none 0 0]) := Row.new wQ 28 [.int .i64 0, .int .i64 0, .int .i64 0, .slice none 0 0]
      revert hb RB
      generalize (World.alloc wQ (.cells #[.int .i64 0, .int .i64 0, .int .i64 0, .slice none 0 0] 28)) = v1
      intro hb RB
      have hs_v1 : wQ.heap.size ≤ v1.heap.size := hb.size
      have B_w : Hid (Below w.heap.size w v1) := below_on2 B_w.out hb
      have B_wa : Hid (Below wa.heap.size wa v1) := below_on2 B_wa.out hb
      have B_w1 : Hid (Below w1.heap.size w1 v1) := below_on2 B_w1.out hb
      have B_wb : Hid (Below wb.heap.size wb v1) := below_on2 B_wb.out hb
      have B_w2 : Hid (Below w2.heap.size w2 v1) := below_on2 B_w2.out hb
      have B_wQ : Hid (Below wQ.heap.size wQ v1) := hb
      clear hb
      clear hHeld
      refine hK.out _ _ (fun _ => ?keep) (fun hHeld => ?_)
      case keep => exact (rowCells RG.out B_wb.out)
      have hHeld := hHeld rfl
      clear hK K
      try go_simp
      refine restL_one (i := 0) (by as_aux_lemma => kernel_rfl) rfl (fun K hK => ?_)
      go_simp
      go_at_call 23
      refine (leftN_any v1).mono ?_
      rintro e v2 ⟨LH, LN, lhc, lnc, lsl, rfl, hlt, hb⟩
      have HLT : Hid (TAt v2 awT LH LN 2 3 lsl) := hlt
      clear hlt
      have hs_v2 : v1.heap.size ≤ v2.heap.size := hb.size
      have B_w : Hid (Below w.heap.size w v2) := below_on2 B_w.out hb
      have B_wa : Hid (Below wa.heap.size wa v2) := below_on2 B_wa.out hb
      have B_w1 : Hid (Below w1.heap.size w1 v2) := below_on2 B_w1.out hb
      have B_wb : Hid (Below wb.heap.size wb v2) := below_on2 B_wb.out hb
      have B_w2 : Hid (Below w2.heap.size w2 v2) := below_on2 B_w2.out hb
      have B_wQ : Hid (Below wQ.heap.size wQ v2) := below_on2 B_wQ.out hb
      have B_v1 : Hid (Below v1.heap.size v1 v2) := hb
      clear hb
      clear hHeld
      refine hK.out _ _ (fun _ => ?keep) (fun hHeld => ?_)
      case keep => exact (rowCells RG.out B_wb.out)
      have hHeld := hHeld rfl
      clear hK K
      try go_simp
      refine restL_one (i := 2) (by as_aux_lemma => kernel_rfl) rfl (fun K hK => ?_)
      go_simp
      go_at_call 14
      have hbl9 : wQ.heap.size < v2.heap.size := (show Row v2 (wQ.heap.size) _ _ from (rowCells RB.out B_v1.out)).lt
      have HC := (show Calls _ _ _ v2 (GPostN awZ 0 wQ.heap.size v2) from (by have h := (callsIn_wide (n := 3)).1 (gRun_any awT awG 3 LH LN (some ⟨w.heap.size, 0, none⟩) 2 lhc 3 lnc 3 3 lsl v2 HLT.out (HGb.out.up B_w2.out) wQ.heap.size (fun B => (HGb.out.cells.newOr).mono hle9 (Nat.le_refl _)) (by first | exact Nat.le_refl _ | exact B_wQ.out.size)); rw [aw_run.2, aw_run.1] at h; exact h))
      refine HC.mono ?_
      clear HC
      rintro e v3 ⟨RA, rn, rc, he, hga, hno, hb⟩
      obtain rfl : 3 = rn := hga.cl
      have he2 : e = .returned (.tuple #[.agg #[.int .i64 3, .int .i64 1, .int .i64 0, .slice RA 3 rc], .int .i64 0]) := he
      subst he2
      have hs_v3 : v2.heap.size ≤ v3.heap.size := hb.size
      have HRA : Hid (GAt v3 awZ RA 3) := hga
      have HNO : Hid (NewOr RA 3 wQ.heap.size v2.heap.size) := hno
      clear he hga hno
      have B_w : Hid (Below w.heap.size w v3) := below_on2 B_w.out hb
      have B_wa : Hid (Below wa.heap.size wa v3) := below_on2 B_wa.out hb
      have B_w1 : Hid (Below w1.heap.size w1 v3) := below_on2 B_w1.out hb
      have B_wb : Hid (Below wb.heap.size wb v3) := below_on2 B_wb.out hb
      have B_w2 : Hid (Below w2.heap.size w2 v3) := below_on2 B_w2.out hb
      have B_wQ : Hid (Below wQ.heap.size wQ v3) := below_on2 B_wQ.out hb
      have B_v1 : Hid (Below v1.heap.size v1 v3) := below_on2 B_v1.out hb
      have B_v2 : Hid (Below v2.heap.size v2 v3) := hb
      clear hb
      clear hHeld
      refine hK.out _ _ (fun _ => ?keep) (fun hHeld => ?_)
      case keep => exact (rowCells RG.out B_wb.out)
      have hHeld := hHeld rfl
      clear hK K
      try go_simp
      refine restL_pure (i := 3) (v := ?vb10) rfl (by as_aux_lemma => kernel_rfl) (by as_aux_lemma => kernel_rfl) (by as_aux_lemma => kernel_rfl) (fun _ _ _ h => h) (Or.inl ⟨by rfl, ?yb10⟩) ?rb10
      case yb10 => intro w' hSw; clear hSw; go_simp; try (with_reducible rfl)
      go_simp
      refine restL_pure (i := 4) (v := ?vb11) rfl (by as_aux_lemma => kernel_rfl) (by as_aux_lemma => kernel_rfl) (by as_aux_lemma => kernel_rfl) (fun _ _ _ h => h) (Or.inl ⟨by rfl, ?yb11⟩) ?rb11
      case yb11 => intro w' hSw; clear hSw; go_simp; try (with_reducible rfl)
      go_simp
      refine restL_pure (i := 5) (v := ?vb12) rfl (by as_aux_lemma => kernel_rfl) (by as_aux_lemma => kernel_rfl) (by as_aux_lemma => kernel_rfl) (fun _ _ _ h => h) (Or.inl ⟨by rfl, ?yb12⟩) ?rb12
      case yb12 => intro w' hSw; clear hSw; go_simp; try (with_reducible rfl)
      go_simp
      refine restL_one (i := 7) (by as_aux_lemma => kernel_rfl) rfl (fun K hK => ?_)
      have RBc : Hid (Row v3 (wQ.heap.size) 28 [.int .i64 0, .int .i64 0, .int .i64 0, .slice none 0 0]) := (rowCells RB.out B_v1.out)
      have y0 := RBc.out.cell 0
      have y1 := RBc.out.cell 1
      have y2 := RBc.out.cell 2
      have y3 := RBc.out.cell 3
      have yl := RBc.out.lt
      simp only [List.getElem?_cons_zero, List.getElem?_cons_succ] at y0 y1 y2 y3
      have yf0 := RBc.out.frozen 0
      have yf1 := RBc.out.frozen 1
      have yf2 := RBc.out.frozen 2
      have yf3 := RBc.out.frozen 3
      go_simp
      refine hK.out _ _ (fun h => absurd h (by decide)) (fun _ => ?_)
      clear hK K
      try go_simp
      refine restL_pure (i := 8) (v := ?vb13) rfl (by as_aux_lemma => kernel_rfl) (by as_aux_lemma => kernel_rfl) (by as_aux_lemma => kernel_rfl) (fun _ _ _ h => h) (Or.inl ⟨by rfl, ?yb13⟩) ?rb13
      case yb13 => intro w' hSw; clear hSw; go_simp; try (with_reducible rfl)
      go_simp
      refine restL_done (by as_aux_lemma => kernel_rfl) ?_ _
      have hle0 : w2.heap.size ≤ wQ.heap.size := hle9
      have hsz_wQ : wQ.heap.size ≤ v3.heap.size := B_wQ.out.size
      have hsz_v1 : v1.heap.size ≤ v3.heap.size := B_v1.out.size
      have hsz_v2 : v2.heap.size ≤ v3.heap.size := B_v2.out.size
      have hbl : wQ.heap.size < v2.heap.size := hbl9
      have HNB : NewOr RA 3 (wQ.heap.size) (wQ.heap.size + 1) := HNO.out.of_lt' hbl (by omega)
      clear y0 y1 y2 y3 yl yf0 yf1 yf2 yf3
      go_wp2_with fail
      go_meet
      case rel => exact ⟨wQ.heap.size, RA, rc, rfl, rfl, ((((RBc.out.set 0 _).set 1 _).set 2 _).set 3 _), (GAt.farSet (GAt.farSet (GAt.farSet (GAt.farSet HRA.out HNB (p := ⟨wQ.heap.size, 0, none⟩) (Nat.le_refl _) (Nat.lt_succ_self _) _) HNB (p := ⟨wQ.heap.size, 1, none⟩) (Nat.le_refl _) (Nat.lt_succ_self _) _) HNB (p := ⟨wQ.heap.size, 2, none⟩) (Nat.le_refl _) (Nat.lt_succ_self _) _) HNB (p := ⟨wQ.heap.size, 3, none⟩) (Nat.le_refl _) (Nat.lt_succ_self _) _), (Below.setCell (Below.setCell (Below.setCell (Below.setCell B_w2.out (p := ⟨wQ.heap.size, 0, none⟩) (by show _ ≤ wQ.heap.size; omega) _) (p := ⟨wQ.heap.size, 1, none⟩) (by show _ ≤ wQ.heap.size; omega) _) (p := ⟨wQ.heap.size, 2, none⟩) (by show _ ≤ wQ.heap.size; omega) _) (p := ⟨wQ.heap.size, 3, none⟩) (by show _ ≤ wQ.heap.size; omega) _)⟩
  obtain ⟨b4, A4, c4, rfl, rfl, h1, h2, hb⟩ := hcut
  obtain ⟨w4, rfl⟩ : ∃ w4 : World, w4 = wc := ⟨_, rfl⟩
  have R4 : Hid (Row w4 b4 28 [.int .i64 3, .int .i64 1, .int .i64 0, .slice A4 3 c4]) := h1
  have HG4 : Hid (GAt w4 awZ A4 3) := h2
  clear h1 h2
  have B_w : Hid (Below w.heap.size w w4) := below_on2 B_w.out hb
  have B_wa : Hid (Below wa.heap.size wa w4) := below_on2 B_wa.out hb
  have B_w1 : Hid (Below w1.heap.size w1 w4) := below_on2 B_w1.out hb
  have B_wb : Hid (Below wb.heap.size wb w4) := below_on2 B_wb.out hb
  have B_w2 : Hid (Below w2.heap.size w2 w4) := hb
  clear hb
  go_wp2_with fail
  have RI5 : Hid (Row (World.alloc w4 (.cells #[.int .i64 1, .int .i64 0, .int .i64 0] 3)) (w4.heap.size) 3 [.int .i64 1, .int .i64 0, .int .i64 0]) := by
    have h0 := Row.new w4 3 [.int .i64 1, .int .i64 0, .int .i64 0]
    try simp only [World.size_alloc] at h0
    exact h0
  have hgr9 : Below w4.heap.size w4 (World.alloc w4 (.cells #[.int .i64 1, .int .i64 0, .int .i64 0] 3)) := by go_grown
  have B_w : Hid (Below w.heap.size w (World.alloc w4 (.cells #[.int .i64 1, .int .i64 0, .int .i64 0] 3))) := below_on2 B_w.out hgr9
  have B_wa : Hid (Below wa.heap.size wa (World.alloc w4 (.cells #[.int .i64 1, .int .i64 0, .int .i64 0] 3))) := below_on2 B_wa.out hgr9
  have B_w1 : Hid (Below w1.heap.size w1 (World.alloc w4 (.cells #[.int .i64 1, .int .i64 0, .int .i64 0] 3))) := below_on2 B_w1.out hgr9
  have B_wb : Hid (Below wb.heap.size wb (World.alloc w4 (.cells #[.int .i64 1, .int .i64 0, .int .i64 0] 3))) := below_on2 B_wb.out hgr9
  have B_w2 : Hid (Below w2.heap.size w2 (World.alloc w4 (.cells #[.int .i64 1, .int .i64 0, .int .i64 0] 3))) := below_on2 B_w2.out hgr9
  have B_w4 : Hid (Below w4.heap.size w4 (World.alloc w4 (.cells #[.int .i64 1, .int .i64 0, .int .i64 0] 3))) := hgr9
  clear hgr9
  revert RI5 B_w B_wa B_w1 B_wb B_w2 B_w4
  generalize (World.alloc w4 (.cells #[.int .i64 1, .int .i64 0, .int .i64 0] 3)) = wd
  intro RI5 B_w B_wa B_w1 B_wb B_w2 B_w4
  refine (rowN_any [1, 0, 0] (some ⟨w4.heap.size, 0, none⟩) 3 3 wd (RI5.out.rd rfl) (by omega)).mono ?_
  rintro e w5 ⟨he, hga, hb⟩
  have he2 : e = .returned (.agg #[.int .i64 3, .int .i64 1, .int .i64 0, .slice (some ⟨w4.heap.size, 0, none⟩) 3 3]) := he
  subst he2
  have HG5 : Hid (GAt w5 ⟨3, 1, 0, [1, 0, 0]⟩ (some ⟨w4.heap.size, 0, none⟩) 3) := hga
  clear he hga
  have B_w : Hid (Below w.heap.size w w5) := below_on2 B_w.out hb
  have B_wa : Hid (Below wa.heap.size wa w5) := below_on2 B_wa.out hb
  have B_w1 : Hid (Below w1.heap.size w1 w5) := below_on2 B_w1.out hb
  have B_wb : Hid (Below wb.heap.size wb w5) := below_on2 B_wb.out hb
  have B_w2 : Hid (Below w2.heap.size w2 w5) := below_on2 B_w2.out hb
  have B_w4 : Hid (Below w4.heap.size w4 w5) := below_on2 B_w4.out hb
  have B_wd : Hid (Below wd.heap.size wd w5) := hb
  clear hb
  go_upto_region 6 with fail
  have RO : Hid (Row (World.alloc w5 (.cells #[.int .i64 3, .int .i64 1, .int .i64 1, .slice (some ⟨w4.heap.size, 0, none⟩) 3 3] 28)) (w5.heap.size) 28 [.int .i64 3, .int .i64 1, .int .i64 1, .slice (some ⟨w4.heap.size, 0, none⟩) 3 3]) := by
    have h0 := Row.new w5 28 [.int .i64 3, .int .i64 1, .int .i64 1, .slice (some ⟨w4.heap.size, 0, none⟩) 3 3]
    try simp only [World.size_alloc] at h0
    exact h0
  have hgr9 : Below w5.heap.size w5 (World.alloc w5 (.cells #[.int .i64 3, .int .i64 1, .int .i64 1, .slice (some ⟨w4.heap.size, 0, none⟩) 3 3] 28)) := by go_grown
  have B_w : Hid (Below w.heap.size w (World.alloc w5 (.cells #[.int .i64 3, .int .i64 1, .int .i64 1, .slice (some ⟨w4.heap.size, 0, none⟩) 3 3] 28))) := below_on2 B_w.out hgr9
  have B_wa : Hid (Below wa.heap.size wa (World.alloc w5 (.cells #[.int .i64 3, .int .i64 1, .int .i64 1, .slice (some ⟨w4.heap.size, 0, none⟩) 3 3] 28))) := below_on2 B_wa.out hgr9
  have B_w1 : Hid (Below w1.heap.size w1 (World.alloc w5 (.cells #[.int .i64 3, .int .i64 1, .int .i64 1, .slice (some ⟨w4.heap.size, 0, none⟩) 3 3] 28))) := below_on2 B_w1.out hgr9
  have B_wb : Hid (Below wb.heap.size wb (World.alloc w5 (.cells #[.int .i64 3, .int .i64 1, .int .i64 1, .slice (some ⟨w4.heap.size, 0, none⟩) 3 3] 28))) := below_on2 B_wb.out hgr9
  have B_w2 : Hid (Below w2.heap.size w2 (World.alloc w5 (.cells #[.int .i64 3, .int .i64 1, .int .i64 1, .slice (some ⟨w4.heap.size, 0, none⟩) 3 3] 28))) := below_on2 B_w2.out hgr9
  have B_w4 : Hid (Below w4.heap.size w4 (World.alloc w5 (.cells #[.int .i64 3, .int .i64 1, .int .i64 1, .slice (some ⟨w4.heap.size, 0, none⟩) 3 3] 28))) := below_on2 B_w4.out hgr9
  have B_wd : Hid (Below wd.heap.size wd (World.alloc w5 (.cells #[.int .i64 3, .int .i64 1, .int .i64 1, .slice (some ⟨w4.heap.size, 0, none⟩) 3 3] 28))) := below_on2 B_wd.out hgr9
  have B_w5 : Hid (Below w5.heap.size w5 (World.alloc w5 (.cells #[.int .i64 3, .int .i64 1, .int .i64 1, .slice (some ⟨w4.heap.size, 0, none⟩) 3 3] 28))) := hgr9
  clear hgr9
  revert RO B_w B_wa B_w1 B_wb B_w2 B_w4 B_wd B_w5
  generalize (World.alloc w5 (.cells #[.int .i64 3, .int .i64 1, .int .i64 1, .slice (some ⟨w4.heap.size, 0, none⟩) 3 3] 28)) = we
  intro RO B_w B_wa B_w1 B_wb B_w2 B_w4 B_wd B_w5
  have HGO : Hid (GAt we awO (some ⟨w4.heap.size, 0, none⟩) 3) := ⟨(HG5.out.up B_w5.out).cells, (HG5.out.up B_w5.out).c63⟩
  refine wp_region_L (fun w' => Row w' (w5.heap.size) 28 [.int .i64 3, .int .i64 1, .int .i64 1, .slice (some ⟨w4.heap.size, 0, none⟩) 3 3]) [] (by as_aux_lemma => kernel_rfl) (by exact Row.drew RO.out) (fun hHeld => ?_)
  have B_w : Hid (Below w.heap.size w (World.drew we)) := B_w.out.drew
  have B_wa : Hid (Below wa.heap.size wa (World.drew we)) := B_wa.out.drew
  have B_w1 : Hid (Below w1.heap.size w1 (World.drew we)) := B_w1.out.drew
  have B_wb : Hid (Below wb.heap.size wb (World.drew we)) := B_wb.out.drew
  have B_w2 : Hid (Below w2.heap.size w2 (World.drew we)) := B_w2.out.drew
  have B_w4 : Hid (Below w4.heap.size w4 (World.drew we)) := B_w4.out.drew
  have B_wd : Hid (Below wd.heap.size wd (World.drew we)) := B_wd.out.drew
  have B_w5 : Hid (Below w5.heap.size w5 (World.drew we)) := B_w5.out.drew
  have B_we : Hid (Below we.heap.size we (World.drew we)) := (Below.refl _ _).drew
  revert hHeld B_w B_wa B_w1 B_wb B_w2 B_w4 B_wd B_w5 B_we
  generalize World.drew we = weq
  intro hHeld B_w B_wa B_w1 B_wb B_w2 B_w4 B_wd B_w5 B_we
  refine restL_take (i := 1) (v := ?vc1) [] rfl (by as_aux_lemma => kernel_rfl) (by as_aux_lemma => kernel_rfl) (by as_aux_lemma => kernel_rfl) (by as_aux_lemma => kernel_rfl) (fun _ _ _ h => h) (Or.inl ⟨by rfl, ?yc1⟩) hHeld ?rc1
  case yc1 =>
    intro w' hSw
    have hS0 := hSw
    clear hSw
    have hT0 : Hid (Row w' (w5.heap.size) 28 [.int .i64 3, .int .i64 1, .int .i64 1, .slice (some ⟨w4.heap.size, 0, none⟩) 3 3]) := hS0
    clear hS0
    have z0_0 := hT0.out.cell 0
    have z0_1 := hT0.out.cell 1
    have z0_2 := hT0.out.cell 2
    have z0_3 := hT0.out.cell 3
    have z0_l := hT0.out.lt
    simp only [List.getElem?_cons_zero, List.getElem?_cons_succ] at z0_0 z0_1 z0_2 z0_3
    go_simp
    try (with_reducible rfl)
  go_simp
  refine restL_one (i := 0) (by as_aux_lemma => kernel_rfl) rfl (fun K hK => ?_)
  go_simp
  go_at_call 23
  refine (leftN_any weq).mono ?_
  rintro e w6a ⟨LH6, LN6, lhc6, lnc6, lsl6, rfl, hlt, hb⟩
  have HLT6 : Hid (TAt w6a awT LH6 LN6 2 3 lsl6) := hlt
  clear hlt
  have B_w : Hid (Below w.heap.size w w6a) := below_on2 B_w.out hb
  have B_wa : Hid (Below wa.heap.size wa w6a) := below_on2 B_wa.out hb
  have B_w1 : Hid (Below w1.heap.size w1 w6a) := below_on2 B_w1.out hb
  have B_wb : Hid (Below wb.heap.size wb w6a) := below_on2 B_wb.out hb
  have B_w2 : Hid (Below w2.heap.size w2 w6a) := below_on2 B_w2.out hb
  have B_w4 : Hid (Below w4.heap.size w4 w6a) := below_on2 B_w4.out hb
  have B_wd : Hid (Below wd.heap.size wd w6a) := below_on2 B_wd.out hb
  have B_w5 : Hid (Below w5.heap.size w5 w6a) := below_on2 B_w5.out hb
  have B_we : Hid (Below we.heap.size we w6a) := below_on2 B_we.out hb
  have B_weq : Hid (Below weq.heap.size weq w6a) := hb
  clear hb
  clear hHeld
  refine hK.out _ _ (fun _ => ?keep) (fun hHeld => ?_)
  case keep => exact (rowCells RO.out B_we.out)
  have hHeld := hHeld rfl
  clear hK K
  try go_simp
  refine restL_one (i := 2) (by as_aux_lemma => kernel_rfl) rfl (fun K hK => ?_)
  go_simp
  go_at_call 16
  have HC := gCyc_any awT awO 3 LH6 LN6 (some ⟨w4.heap.size, 0, none⟩) 2 lhc6 3 lnc6 3 3 lsl6 w6a HLT6.out (HGO.out.up B_we.out)
  rw [aw_cyc.2.1, aw_cyc.2.2.1, aw_cyc.1] at HC
  refine HC.mono ?_
  clear HC
  rintro e w6 ⟨rfl, hb⟩
  have B_w : Hid (Below w.heap.size w w6) := below_on2 B_w.out hb
  have B_wa : Hid (Below wa.heap.size wa w6) := below_on2 B_wa.out hb
  have B_w1 : Hid (Below w1.heap.size w1 w6) := below_on2 B_w1.out hb
  have B_wb : Hid (Below wb.heap.size wb w6) := below_on2 B_wb.out hb
  have B_w2 : Hid (Below w2.heap.size w2 w6) := below_on2 B_w2.out hb
  have B_w4 : Hid (Below w4.heap.size w4 w6) := below_on2 B_w4.out hb
  have B_wd : Hid (Below wd.heap.size wd w6) := below_on2 B_wd.out hb
  have B_w5 : Hid (Below w5.heap.size w5 w6) := below_on2 B_w5.out hb
  have B_we : Hid (Below we.heap.size we w6) := below_on2 B_we.out hb
  have B_weq : Hid (Below weq.heap.size weq w6) := below_on2 B_weq.out hb
  have B_w6a : Hid (Below w6a.heap.size w6a w6) := hb
  clear hb
  clear hHeld
  refine hK.out _ _ (fun _ => ?keep) (fun hHeld => ?_)
  case keep => exact (rowCells RO.out B_we.out)
  have hHeld := hHeld rfl
  clear hK K
  try go_simp
  refine restL_pure (i := 3) (v := ?vc2) rfl (by as_aux_lemma => kernel_rfl) (by as_aux_lemma => kernel_rfl) (by as_aux_lemma => kernel_rfl) (fun _ _ _ h => h) (Or.inl ⟨by rfl, ?yc2⟩) ?rc2
  case yc2 => intro w' hSw; clear hSw; go_simp; try (with_reducible rfl)
  go_simp
  refine restL_pure (i := 4) (v := ?vc3) rfl (by as_aux_lemma => kernel_rfl) (by as_aux_lemma => kernel_rfl) (by as_aux_lemma => kernel_rfl) (fun _ _ _ h => h) (Or.inl ⟨by rfl, ?yc3⟩) ?rc3
  case yc3 => intro w' hSw; clear hSw; go_simp; try (with_reducible rfl)
  go_simp
  refine restL_pure (i := 5) (v := ?vc4) rfl (by as_aux_lemma => kernel_rfl) (by as_aux_lemma => kernel_rfl) (by as_aux_lemma => kernel_rfl) (fun _ _ _ h => h) (Or.inl ⟨by rfl, ?yc4⟩) ?rc4
  case yc4 => intro w' hSw; clear hSw; go_simp; try (with_reducible rfl)
  go_simp
  refine restL_pure (i := 6) (v := ?vc5) rfl (by as_aux_lemma => kernel_rfl) (by as_aux_lemma => kernel_rfl) (by as_aux_lemma => kernel_rfl) (fun _ _ _ h => h) (Or.inl ⟨by rfl, ?yc5⟩) ?rc5
  case yc5 => intro w' hSw; clear hSw; go_simp; try (with_reducible rfl)
  go_simp
  refine restL_pure (i := 7) (v := ?vc6) rfl (by as_aux_lemma => kernel_rfl) (by as_aux_lemma => kernel_rfl) (by as_aux_lemma => kernel_rfl) (fun _ _ _ h => h) (Or.inl ⟨by rfl, ?yc6⟩) ?rc6
  case yc6 => intro w' hSw; clear hSw; go_simp; try (with_reducible rfl)
  go_simp
  refine restL_pure (i := 8) (v := ?vc7) rfl (by as_aux_lemma => kernel_rfl) (by as_aux_lemma => kernel_rfl) (by as_aux_lemma => kernel_rfl) (fun _ _ _ h => h) (Or.inl ⟨by rfl, ?yc7⟩) ?rc7
  case yc7 => intro w' hSw; clear hSw; go_simp; try (with_reducible rfl)
  go_simp
  refine restL_pure (i := 9) (v := ?vc8) rfl (by as_aux_lemma => kernel_rfl) (by as_aux_lemma => kernel_rfl) (by as_aux_lemma => kernel_rfl) (fun _ _ _ h => h) (Or.inl ⟨by rfl, ?yc8⟩) ?rc8
  case yc8 => intro w' hSw; clear hSw; go_simp; try (with_reducible rfl)
  go_simp
  refine restL_done (by as_aux_lemma => kernel_rfl) ?_ _
  go_upto_region 7 with fail
  refine wp_region_L (fun w' => Row w' (w5.heap.size) 28 [.int .i64 3, .int .i64 1, .int .i64 1, .slice (some ⟨w4.heap.size, 0, none⟩) 3 3]) [] (by as_aux_lemma => kernel_rfl) (by exact Row.drew (rowCells RO.out B_we.out)) (fun hHeld => ?_)
  have B_w : Hid (Below w.heap.size w (World.drew w6)) := B_w.out.drew
  have B_wa : Hid (Below wa.heap.size wa (World.drew w6)) := B_wa.out.drew
  have B_w1 : Hid (Below w1.heap.size w1 (World.drew w6)) := B_w1.out.drew
  have B_wb : Hid (Below wb.heap.size wb (World.drew w6)) := B_wb.out.drew
  have B_w2 : Hid (Below w2.heap.size w2 (World.drew w6)) := B_w2.out.drew
  have B_w4 : Hid (Below w4.heap.size w4 (World.drew w6)) := B_w4.out.drew
  have B_wd : Hid (Below wd.heap.size wd (World.drew w6)) := B_wd.out.drew
  have B_w5 : Hid (Below w5.heap.size w5 (World.drew w6)) := B_w5.out.drew
  have B_we : Hid (Below we.heap.size we (World.drew w6)) := B_we.out.drew
  have B_weq : Hid (Below weq.heap.size weq (World.drew w6)) := B_weq.out.drew
  have B_w6a : Hid (Below w6a.heap.size w6a (World.drew w6)) := B_w6a.out.drew
  have B_w6 : Hid (Below w6.heap.size w6 (World.drew w6)) := (Below.refl _ _).drew
  revert hHeld B_w B_wa B_w1 B_wb B_w2 B_w4 B_wd B_w5 B_we B_weq B_w6a B_w6
  generalize World.drew w6 = w6q
  intro hHeld B_w B_wa B_w1 B_wb B_w2 B_w4 B_wd B_w5 B_we B_weq B_w6a B_w6
  refine restL_take (i := 1) (v := ?vd1) [] rfl (by as_aux_lemma => kernel_rfl) (by as_aux_lemma => kernel_rfl) (by as_aux_lemma => kernel_rfl) (by as_aux_lemma => kernel_rfl) (fun _ _ _ h => h) (Or.inl ⟨by rfl, ?yd1⟩) hHeld ?rd1
  case yd1 =>
    intro w' hSw
    have hS0 := hSw
    clear hSw
    have hT0 : Hid (Row w' (w5.heap.size) 28 [.int .i64 3, .int .i64 1, .int .i64 1, .slice (some ⟨w4.heap.size, 0, none⟩) 3 3]) := hS0
    clear hS0
    have z0_0 := hT0.out.cell 0
    have z0_1 := hT0.out.cell 1
    have z0_2 := hT0.out.cell 2
    have z0_3 := hT0.out.cell 3
    have z0_l := hT0.out.lt
    simp only [List.getElem?_cons_zero, List.getElem?_cons_succ] at z0_0 z0_1 z0_2 z0_3
    go_simp
    try (with_reducible rfl)
  go_simp
  refine restL_one (i := 0) (by as_aux_lemma => kernel_rfl) rfl (fun K hK => ?_)
  go_simp
  go_at_call 23
  refine (leftN_any w6q).mono ?_
  rintro e w7a ⟨LH7, LN7, lhc7, lnc7, lsl7, rfl, hlt, hb⟩
  have HLT7 : Hid (TAt w7a awT LH7 LN7 2 3 lsl7) := hlt
  clear hlt
  have B_w : Hid (Below w.heap.size w w7a) := below_on2 B_w.out hb
  have B_wa : Hid (Below wa.heap.size wa w7a) := below_on2 B_wa.out hb
  have B_w1 : Hid (Below w1.heap.size w1 w7a) := below_on2 B_w1.out hb
  have B_wb : Hid (Below wb.heap.size wb w7a) := below_on2 B_wb.out hb
  have B_w2 : Hid (Below w2.heap.size w2 w7a) := below_on2 B_w2.out hb
  have B_w4 : Hid (Below w4.heap.size w4 w7a) := below_on2 B_w4.out hb
  have B_wd : Hid (Below wd.heap.size wd w7a) := below_on2 B_wd.out hb
  have B_w5 : Hid (Below w5.heap.size w5 w7a) := below_on2 B_w5.out hb
  have B_we : Hid (Below we.heap.size we w7a) := below_on2 B_we.out hb
  have B_weq : Hid (Below weq.heap.size weq w7a) := below_on2 B_weq.out hb
  have B_w6a : Hid (Below w6a.heap.size w6a w7a) := below_on2 B_w6a.out hb
  have B_w6 : Hid (Below w6.heap.size w6 w7a) := below_on2 B_w6.out hb
  have B_w6q : Hid (Below w6q.heap.size w6q w7a) := hb
  clear hb
  clear hHeld
  refine hK.out _ _ (fun _ => ?keep) (fun hHeld => ?_)
  case keep => exact (rowCells RO.out B_we.out)
  have hHeld := hHeld rfl
  clear hK K
  try go_simp
  refine restL_one (i := 2) (by as_aux_lemma => kernel_rfl) rfl (fun K hK => ?_)
  go_simp
  go_at_call 16
  have HC := gCyc_any awT awO 2 LH7 LN7 (some ⟨w4.heap.size, 0, none⟩) 2 lhc7 3 lnc7 3 3 lsl7 w7a HLT7.out (HGO.out.up B_we.out)
  rw [(cyc_err aw_cyc.2.2.2 (by decide)).1, (cyc_err aw_cyc.2.2.2 (by decide)).2, aw_cyc.2.2.2] at HC
  refine HC.mono ?_
  clear HC
  rintro e w7 ⟨rfl, hb⟩
  have B_w : Hid (Below w.heap.size w w7) := below_on2 B_w.out hb
  have B_wa : Hid (Below wa.heap.size wa w7) := below_on2 B_wa.out hb
  have B_w1 : Hid (Below w1.heap.size w1 w7) := below_on2 B_w1.out hb
  have B_wb : Hid (Below wb.heap.size wb w7) := below_on2 B_wb.out hb
  have B_w2 : Hid (Below w2.heap.size w2 w7) := below_on2 B_w2.out hb
  have B_w4 : Hid (Below w4.heap.size w4 w7) := below_on2 B_w4.out hb
  have B_wd : Hid (Below wd.heap.size wd w7) := below_on2 B_wd.out hb
  have B_w5 : Hid (Below w5.heap.size w5 w7) := below_on2 B_w5.out hb
  have B_we : Hid (Below we.heap.size we w7) := below_on2 B_we.out hb
  have B_weq : Hid (Below weq.heap.size weq w7) := below_on2 B_weq.out hb
  have B_w6a : Hid (Below w6a.heap.size w6a w7) := below_on2 B_w6a.out hb
  have B_w6 : Hid (Below w6.heap.size w6 w7) := below_on2 B_w6.out hb
  have B_w6q : Hid (Below w6q.heap.size w6q w7) := below_on2 B_w6q.out hb
  have B_w7a : Hid (Below w7a.heap.size w7a w7) := hb
  clear hb
  clear hHeld
  refine hK.out _ _ (fun _ => ?keep) (fun hHeld => ?_)
  case keep => exact (rowCells RO.out B_we.out)
  have hHeld := hHeld rfl
  clear hK K
  try go_simp
  refine restL_pure (i := 3) (v := ?vd2) rfl (by as_aux_lemma => kernel_rfl) (by as_aux_lemma => kernel_rfl) (by as_aux_lemma => kernel_rfl) (fun _ _ _ h => h) (Or.inl ⟨by rfl, ?yd2⟩) ?rd2
  case yd2 => intro w' hSw; clear hSw; go_simp; try (with_reducible rfl)
  go_simp
  refine restL_pure (i := 4) (v := ?vd3) rfl (by as_aux_lemma => kernel_rfl) (by as_aux_lemma => kernel_rfl) (by as_aux_lemma => kernel_rfl) (fun _ _ _ h => h) (Or.inl ⟨by rfl, ?yd3⟩) ?rd3
  case yd3 => intro w' hSw; clear hSw; go_simp; try (with_reducible rfl)
  go_simp
  refine restL_pure (i := 5) (v := ?vd4) rfl (by as_aux_lemma => kernel_rfl) (by as_aux_lemma => kernel_rfl) (by as_aux_lemma => kernel_rfl) (fun _ _ _ h => h) (Or.inl ⟨by rfl, ?yd4⟩) ?rd4
  case yd4 => intro w' hSw; clear hSw; go_simp; try (with_reducible rfl)
  go_simp
  refine restL_pure (i := 6) (v := ?vd5) rfl (by as_aux_lemma => kernel_rfl) (by as_aux_lemma => kernel_rfl) (by as_aux_lemma => kernel_rfl) (fun _ _ _ h => h) (Or.inl ⟨by rfl, ?yd5⟩) ?rd5
  case yd5 => intro w' hSw; clear hSw; go_simp; try (with_reducible rfl)
  go_simp
  refine restL_pure (i := 7) (v := ?vd6) rfl (by as_aux_lemma => kernel_rfl) (by as_aux_lemma => kernel_rfl) (by as_aux_lemma => kernel_rfl) (fun _ _ _ h => h) (Or.inl ⟨by rfl, ?yd6⟩) ?rd6
  case yd6 => intro w' hSw; clear hSw; go_simp; try (with_reducible rfl)
  go_simp
  refine restL_pure (i := 8) (v := ?vd7) rfl (by as_aux_lemma => kernel_rfl) (by as_aux_lemma => kernel_rfl) (by as_aux_lemma => kernel_rfl) (fun _ _ _ h => h) (Or.inl ⟨by rfl, ?yd7⟩) ?rd7
  case yd7 => intro w' hSw; clear hSw; go_simp; try (with_reducible rfl)
  go_simp
  refine restL_pure (i := 9) (v := ?vd8) rfl (by as_aux_lemma => kernel_rfl) (by as_aux_lemma => kernel_rfl) (by as_aux_lemma => kernel_rfl) (fun _ _ _ h => h) (Or.inl ⟨by rfl, ?yd8⟩) ?rd8
  case yd8 => intro w' hSw; clear hSw; go_simp; try (with_reducible rfl)
  go_simp
  refine restL_done (by as_aux_lemma => kernel_rfl) ?_ _
  go_wp2_with fail
  have RI8 : Hid (Row (World.alloc w7 (.cells #[.int .i64 1, .int .i64 0, .int .i64 0] 3)) (w7.heap.size) 3 [.int .i64 1, .int .i64 0, .int .i64 0]) := by
    have h0 := Row.new w7 3 [.int .i64 1, .int .i64 0, .int .i64 0]
    try simp only [World.size_alloc] at h0
    exact h0
  have hgr9 : Below w7.heap.size w7 (World.alloc w7 (.cells #[.int .i64 1, .int .i64 0, .int .i64 0] 3)) := by go_grown
  have B_w : Hid (Below w.heap.size w (World.alloc w7 (.cells #[.int .i64 1, .int .i64 0, .int .i64 0] 3))) := below_on2 B_w.out hgr9
  have B_wa : Hid (Below wa.heap.size wa (World.alloc w7 (.cells #[.int .i64 1, .int .i64 0, .int .i64 0] 3))) := below_on2 B_wa.out hgr9
  have B_w1 : Hid (Below w1.heap.size w1 (World.alloc w7 (.cells #[.int .i64 1, .int .i64 0, .int .i64 0] 3))) := below_on2 B_w1.out hgr9
  have B_wb : Hid (Below wb.heap.size wb (World.alloc w7 (.cells #[.int .i64 1, .int .i64 0, .int .i64 0] 3))) := below_on2 B_wb.out hgr9
  have B_w2 : Hid (Below w2.heap.size w2 (World.alloc w7 (.cells #[.int .i64 1, .int .i64 0, .int .i64 0] 3))) := below_on2 B_w2.out hgr9
  have B_w4 : Hid (Below w4.heap.size w4 (World.alloc w7 (.cells #[.int .i64 1, .int .i64 0, .int .i64 0] 3))) := below_on2 B_w4.out hgr9
  have B_wd : Hid (Below wd.heap.size wd (World.alloc w7 (.cells #[.int .i64 1, .int .i64 0, .int .i64 0] 3))) := below_on2 B_wd.out hgr9
  have B_w5 : Hid (Below w5.heap.size w5 (World.alloc w7 (.cells #[.int .i64 1, .int .i64 0, .int .i64 0] 3))) := below_on2 B_w5.out hgr9
  have B_we : Hid (Below we.heap.size we (World.alloc w7 (.cells #[.int .i64 1, .int .i64 0, .int .i64 0] 3))) := below_on2 B_we.out hgr9
  have B_weq : Hid (Below weq.heap.size weq (World.alloc w7 (.cells #[.int .i64 1, .int .i64 0, .int .i64 0] 3))) := below_on2 B_weq.out hgr9
  have B_w6a : Hid (Below w6a.heap.size w6a (World.alloc w7 (.cells #[.int .i64 1, .int .i64 0, .int .i64 0] 3))) := below_on2 B_w6a.out hgr9
  have B_w6 : Hid (Below w6.heap.size w6 (World.alloc w7 (.cells #[.int .i64 1, .int .i64 0, .int .i64 0] 3))) := below_on2 B_w6.out hgr9
  have B_w6q : Hid (Below w6q.heap.size w6q (World.alloc w7 (.cells #[.int .i64 1, .int .i64 0, .int .i64 0] 3))) := below_on2 B_w6q.out hgr9
  have B_w7a : Hid (Below w7a.heap.size w7a (World.alloc w7 (.cells #[.int .i64 1, .int .i64 0, .int .i64 0] 3))) := below_on2 B_w7a.out hgr9
  have B_w7 : Hid (Below w7.heap.size w7 (World.alloc w7 (.cells #[.int .i64 1, .int .i64 0, .int .i64 0] 3))) := hgr9
  clear hgr9
  revert RI8 B_w B_wa B_w1 B_wb B_w2 B_w4 B_wd B_w5 B_we B_weq B_w6a B_w6 B_w6q B_w7a B_w7
  generalize (World.alloc w7 (.cells #[.int .i64 1, .int .i64 0, .int .i64 0] 3)) = wf
  intro RI8 B_w B_wa B_w1 B_wb B_w2 B_w4 B_wd B_w5 B_we B_weq B_w6a B_w6 B_w6q B_w7a B_w7
  refine (rowN_any [1, 0, 0] (some ⟨w7.heap.size, 0, none⟩) 3 3 wf (RI8.out.rd rfl) (by omega)).mono ?_
  rintro e w8 ⟨he, hga, hb⟩
  have he2 : e = .returned (.agg #[.int .i64 3, .int .i64 1, .int .i64 0, .slice (some ⟨w7.heap.size, 0, none⟩) 3 3]) := he
  subst he2
  have HG8 : Hid (GAt w8 ⟨3, 1, 0, [1, 0, 0]⟩ (some ⟨w7.heap.size, 0, none⟩) 3) := hga
  clear he hga
  have B_w : Hid (Below w.heap.size w w8) := below_on2 B_w.out hb
  have B_wa : Hid (Below wa.heap.size wa w8) := below_on2 B_wa.out hb
  have B_w1 : Hid (Below w1.heap.size w1 w8) := below_on2 B_w1.out hb
  have B_wb : Hid (Below wb.heap.size wb w8) := below_on2 B_wb.out hb
  have B_w2 : Hid (Below w2.heap.size w2 w8) := below_on2 B_w2.out hb
  have B_w4 : Hid (Below w4.heap.size w4 w8) := below_on2 B_w4.out hb
  have B_wd : Hid (Below wd.heap.size wd w8) := below_on2 B_wd.out hb
  have B_w5 : Hid (Below w5.heap.size w5 w8) := below_on2 B_w5.out hb
  have B_we : Hid (Below we.heap.size we w8) := below_on2 B_we.out hb
  have B_weq : Hid (Below weq.heap.size weq w8) := below_on2 B_weq.out hb
  have B_w6a : Hid (Below w6a.heap.size w6a w8) := below_on2 B_w6a.out hb
  have B_w6 : Hid (Below w6.heap.size w6 w8) := below_on2 B_w6.out hb
  have B_w6q : Hid (Below w6q.heap.size w6q w8) := below_on2 B_w6q.out hb
  have B_w7a : Hid (Below w7a.heap.size w7a w8) := below_on2 B_w7a.out hb
  have B_w7 : Hid (Below w7.heap.size w7 w8) := below_on2 B_w7.out hb
  have B_wf : Hid (Below wf.heap.size wf w8) := hb
  clear hb
  go_upto_region 10 with fail
  have RF : Hid (Row (World.alloc w8 (.cells #[.int .i64 3, .int .i64 1, .int .i64 2, .slice (some ⟨w7.heap.size, 0, none⟩) 3 3] 28)) (w8.heap.size) 28 [.int .i64 3, .int .i64 1, .int .i64 2, .slice (some ⟨w7.heap.size, 0, none⟩) 3 3]) := by
    have h0 := Row.new w8 28 [.int .i64 3, .int .i64 1, .int .i64 2, .slice (some ⟨w7.heap.size, 0, none⟩) 3 3]
    try simp only [World.size_alloc] at h0
    exact h0
  have hgr9 : Below w8.heap.size w8 (World.alloc w8 (.cells #[.int .i64 3, .int .i64 1, .int .i64 2, .slice (some ⟨w7.heap.size, 0, none⟩) 3 3] 28)) := by go_grown
  have B_w : Hid (Below w.heap.size w (World.alloc w8 (.cells #[.int .i64 3, .int .i64 1, .int .i64 2, .slice (some ⟨w7.heap.size, 0, none⟩) 3 3] 28))) := below_on2 B_w.out hgr9
  have B_wa : Hid (Below wa.heap.size wa (World.alloc w8 (.cells #[.int .i64 3, .int .i64 1, .int .i64 2, .slice (some ⟨w7.heap.size, 0, none⟩) 3 3] 28))) := below_on2 B_wa.out hgr9
  have B_w1 : Hid (Below w1.heap.size w1 (World.alloc w8 (.cells #[.int .i64 3, .int .i64 1, .int .i64 2, .slice (some ⟨w7.heap.size, 0, none⟩) 3 3] 28))) := below_on2 B_w1.out hgr9
  have B_wb : Hid (Below wb.heap.size wb (World.alloc w8 (.cells #[.int .i64 3, .int .i64 1, .int .i64 2, .slice (some ⟨w7.heap.size, 0, none⟩) 3 3] 28))) := below_on2 B_wb.out hgr9
  have B_w2 : Hid (Below w2.heap.size w2 (World.alloc w8 (.cells #[.int .i64 3, .int .i64 1, .int .i64 2, .slice (some ⟨w7.heap.size, 0, none⟩) 3 3] 28))) := below_on2 B_w2.out hgr9
  have B_w4 : Hid (Below w4.heap.size w4 (World.alloc w8 (.cells #[.int .i64 3, .int .i64 1, .int .i64 2, .slice (some ⟨w7.heap.size, 0, none⟩) 3 3] 28))) := below_on2 B_w4.out hgr9
  have B_wd : Hid (Below wd.heap.size wd (World.alloc w8 (.cells #[.int .i64 3, .int .i64 1, .int .i64 2, .slice (some ⟨w7.heap.size, 0, none⟩) 3 3] 28))) := below_on2 B_wd.out hgr9
  have B_w5 : Hid (Below w5.heap.size w5 (World.alloc w8 (.cells #[.int .i64 3, .int .i64 1, .int .i64 2, .slice (some ⟨w7.heap.size, 0, none⟩) 3 3] 28))) := below_on2 B_w5.out hgr9
  have B_we : Hid (Below we.heap.size we (World.alloc w8 (.cells #[.int .i64 3, .int .i64 1, .int .i64 2, .slice (some ⟨w7.heap.size, 0, none⟩) 3 3] 28))) := below_on2 B_we.out hgr9
  have B_weq : Hid (Below weq.heap.size weq (World.alloc w8 (.cells #[.int .i64 3, .int .i64 1, .int .i64 2, .slice (some ⟨w7.heap.size, 0, none⟩) 3 3] 28))) := below_on2 B_weq.out hgr9
  have B_w6a : Hid (Below w6a.heap.size w6a (World.alloc w8 (.cells #[.int .i64 3, .int .i64 1, .int .i64 2, .slice (some ⟨w7.heap.size, 0, none⟩) 3 3] 28))) := below_on2 B_w6a.out hgr9
  have B_w6 : Hid (Below w6.heap.size w6 (World.alloc w8 (.cells #[.int .i64 3, .int .i64 1, .int .i64 2, .slice (some ⟨w7.heap.size, 0, none⟩) 3 3] 28))) := below_on2 B_w6.out hgr9
  have B_w6q : Hid (Below w6q.heap.size w6q (World.alloc w8 (.cells #[.int .i64 3, .int .i64 1, .int .i64 2, .slice (some ⟨w7.heap.size, 0, none⟩) 3 3] 28))) := below_on2 B_w6q.out hgr9
  have B_w7a : Hid (Below w7a.heap.size w7a (World.alloc w8 (.cells #[.int .i64 3, .int .i64 1, .int .i64 2, .slice (some ⟨w7.heap.size, 0, none⟩) 3 3] 28))) := below_on2 B_w7a.out hgr9
  have B_w7 : Hid (Below w7.heap.size w7 (World.alloc w8 (.cells #[.int .i64 3, .int .i64 1, .int .i64 2, .slice (some ⟨w7.heap.size, 0, none⟩) 3 3] 28))) := below_on2 B_w7.out hgr9
  have B_wf : Hid (Below wf.heap.size wf (World.alloc w8 (.cells #[.int .i64 3, .int .i64 1, .int .i64 2, .slice (some ⟨w7.heap.size, 0, none⟩) 3 3] 28))) := below_on2 B_wf.out hgr9
  have B_w8 : Hid (Below w8.heap.size w8 (World.alloc w8 (.cells #[.int .i64 3, .int .i64 1, .int .i64 2, .slice (some ⟨w7.heap.size, 0, none⟩) 3 3] 28))) := hgr9
  clear hgr9
  revert RF B_w B_wa B_w1 B_wb B_w2 B_w4 B_wd B_w5 B_we B_weq B_w6a B_w6 B_w6q B_w7a B_w7 B_wf B_w8
  generalize (World.alloc w8 (.cells #[.int .i64 3, .int .i64 1, .int .i64 2, .slice (some ⟨w7.heap.size, 0, none⟩) 3 3] 28)) = wg
  intro RF B_w B_wa B_w1 B_wb B_w2 B_w4 B_wd B_w5 B_we B_weq B_w6a B_w6 B_w6q B_w7a B_w7 B_wf B_w8
  have HGF : Hid (GAt wg awF (some ⟨w7.heap.size, 0, none⟩) 3) := ⟨(HG8.out.up B_w8.out).cells, (HG8.out.up B_w8.out).c63⟩
  go_cut [14, 15] from 20 (fun s2 s3 wx => ∃ (b : Nat) (A : Option Addr) (c : Nat), s2 = .pointer (some ⟨b, 0, none⟩) ∧ s3 = .int .i64 0 ∧ Row wx b 28 [.int .i64 3, .int .i64 1, .int .i64 2, .slice A 3 c] ∧ GAt wx awR A 3 ∧ Below wg.heap.size wg wx)
  case first => as_aux_lemma =>
    refine wp_region_L (fun w' => Row w' (w8.heap.size) 28 [.int .i64 3, .int .i64 1, .int .i64 2, .slice (some ⟨w7.heap.size, 0, none⟩) 3 3]) [7] (by as_aux_lemma => kernel_rfl) (by exact Row.drew RF.out) (fun hHeld => ?_)
    have B_w : Hid (Below w.heap.size w (World.drew wg)) := B_w.out.drew
    have B_wa : Hid (Below wa.heap.size wa (World.drew wg)) := B_wa.out.drew
    have B_w1 : Hid (Below w1.heap.size w1 (World.drew wg)) := B_w1.out.drew
    have B_wb : Hid (Below wb.heap.size wb (World.drew wg)) := B_wb.out.drew
    have B_w2 : Hid (Below w2.heap.size w2 (World.drew wg)) := B_w2.out.drew
    have B_w4 : Hid (Below w4.heap.size w4 (World.drew wg)) := B_w4.out.drew
    have B_wd : Hid (Below wd.heap.size wd (World.drew wg)) := B_wd.out.drew
    have B_w5 : Hid (Below w5.heap.size w5 (World.drew wg)) := B_w5.out.drew
    have B_we : Hid (Below we.heap.size we (World.drew wg)) := B_we.out.drew
    have B_weq : Hid (Below weq.heap.size weq (World.drew wg)) := B_weq.out.drew
    have B_w6a : Hid (Below w6a.heap.size w6a (World.drew wg)) := B_w6a.out.drew
    have B_w6 : Hid (Below w6.heap.size w6 (World.drew wg)) := B_w6.out.drew
    have B_w6q : Hid (Below w6q.heap.size w6q (World.drew wg)) := B_w6q.out.drew
    have B_w7a : Hid (Below w7a.heap.size w7a (World.drew wg)) := B_w7a.out.drew
    have B_w7 : Hid (Below w7.heap.size w7 (World.drew wg)) := B_w7.out.drew
    have B_wf : Hid (Below wf.heap.size wf (World.drew wg)) := B_wf.out.drew
    have B_w8 : Hid (Below w8.heap.size w8 (World.drew wg)) := B_w8.out.drew
    have B_wg : Hid (Below wg.heap.size wg (World.drew wg)) := (Below.refl _ _).drew
    have hle9 : wg.heap.size ≤ (World.drew wg).heap.size := B_wg.out.size
    revert hHeld B_w B_wa B_w1 B_wb B_w2 B_w4 B_wd B_w5 B_we B_weq B_w6a B_w6 B_w6q B_w7a B_w7 B_wf B_w8 B_wg hle9
    generalize World.drew wg = wQ
    intro hHeld B_w B_wa B_w1 B_wb B_w2 B_w4 B_wd B_w5 B_we B_weq B_w6a B_w6 B_w6q B_w7a B_w7 B_wf B_w8 B_wg hle9
    refine restL_take (i := 1) (v := ?ve1) [[7]] rfl (by as_aux_lemma => kernel_rfl) (by as_aux_lemma => kernel_rfl) (by as_aux_lemma => kernel_rfl) (by as_aux_lemma => kernel_rfl) (fun _ _ _ h => h) (Or.inl ⟨by rfl, ?ye1⟩) hHeld ?re1
    case ye1 =>
      intro w' hSw
      have hT : Hid (Row w' (w8.heap.size) 28 [.int .i64 3, .int .i64 1, .int .i64 2, .slice (some ⟨w7.heap.size, 0, none⟩) 3 3]) := hSw
      clear hSw
      have z0 := hT.out.cell 0
      have z1 := hT.out.cell 1
      have z2 := hT.out.cell 2
      have z3 := hT.out.cell 3
      have zl := hT.out.lt
      simp only [List.getElem?_cons_zero, List.getElem?_cons_succ] at z0 z1 z2 z3
      go_simp
      try (with_reducible rfl)
    go_simp
    refine restL_two (i := 0) (j := 6) (by as_aux_lemma => kernel_rfl) rfl rfl (fun K hK => ?_) (fun K hK => ?_)
    · go_simp
      go_at_call 23
      refine (leftN_any wQ).mono ?_
      rintro e v1 ⟨LH, LN, lhc, lnc, lsl, rfl, hlt, hb⟩
      have HLT : Hid (TAt v1 awT LH LN 2 3 lsl) := hlt
      clear hlt
      have hs_v1 : wQ.heap.size ≤ v1.heap.size := hb.size
      have B_w : Hid (Below w.heap.size w v1) := below_on2 B_w.out hb
      have B_wa : Hid (Below wa.heap.size wa v1) := below_on2 B_wa.out hb
      have B_w1 : Hid (Below w1.heap.size w1 v1) := below_on2 B_w1.out hb
      have B_wb : Hid (Below wb.heap.size wb v1) := below_on2 B_wb.out hb
      have B_w2 : Hid (Below w2.heap.size w2 v1) := below_on2 B_w2.out hb
      have B_w4 : Hid (Below w4.heap.size w4 v1) := below_on2 B_w4.out hb
      have B_wd : Hid (Below wd.heap.size wd v1) := below_on2 B_wd.out hb
      have B_w5 : Hid (Below w5.heap.size w5 v1) := below_on2 B_w5.out hb
      have B_we : Hid (Below we.heap.size we v1) := below_on2 B_we.out hb
      have B_weq : Hid (Below weq.heap.size weq v1) := below_on2 B_weq.out hb
      have B_w6a : Hid (Below w6a.heap.size w6a v1) := below_on2 B_w6a.out hb
      have B_w6 : Hid (Below w6.heap.size w6 v1) := below_on2 B_w6.out hb
      have B_w6q : Hid (Below w6q.heap.size w6q v1) := below_on2 B_w6q.out hb
      have B_w7a : Hid (Below w7a.heap.size w7a v1) := below_on2 B_w7a.out hb
      have B_w7 : Hid (Below w7.heap.size w7 v1) := below_on2 B_w7.out hb
      have B_wf : Hid (Below wf.heap.size wf v1) := below_on2 B_wf.out hb
      have B_w8 : Hid (Below w8.heap.size w8 v1) := below_on2 B_w8.out hb
      have B_wg : Hid (Below wg.heap.size wg v1) := below_on2 B_wg.out hb
      have B_wQ : Hid (Below wQ.heap.size wQ v1) := hb
      clear hb
      clear hHeld
      refine hK.out _ _ (fun _ => ?keep) (fun hHeld => ?_)
      case keep => exact (rowCells RF.out B_wg.out)
      have hHeld := hHeld rfl
      clear hK K
      try go_simp
      refine restL_two (i := 2) (j := 6) (by as_aux_lemma => kernel_rfl) rfl rfl (fun K hK => ?_) (fun K hK => ?_)
      · go_simp
        go_at_call 11
        have HC := (show Calls _ _ _ v1 (GPostN awR 0 wQ.heap.size v1) from (by have h := gStep_any awT awF LH LN (some ⟨w7.heap.size, 0, none⟩) 2 lhc 3 lnc 3 3 lsl v1 HLT.out (HGF.out.up B_wg.out) wQ.heap.size (fun B => (HGF.out.cells.newOr).mono hle9 (Nat.le_refl _)) (by first | exact Nat.le_refl _ | exact B_wQ.out.size); rw [aw_fold.2, aw_fold.1] at h; exact h))
        refine HC.mono ?_
        clear HC
        rintro e v2 ⟨RA, rn, rc, he, hga, hno, hb⟩
        obtain rfl : 3 = rn := hga.cl
        have he2 : e = .returned (.tuple #[.agg #[.int .i64 3, .int .i64 1, .int .i64 2, .slice RA 3 rc], .int .i64 0]) := he
        subst he2
        have hs_v2 : v1.heap.size ≤ v2.heap.size := hb.size
        have HRA : Hid (GAt v2 awR RA 3) := hga
        have HNO : Hid (NewOr RA 3 wQ.heap.size v1.heap.size) := hno
        clear he hga hno
        have B_w : Hid (Below w.heap.size w v2) := below_on2 B_w.out hb
        have B_wa : Hid (Below wa.heap.size wa v2) := below_on2 B_wa.out hb
        have B_w1 : Hid (Below w1.heap.size w1 v2) := below_on2 B_w1.out hb
        have B_wb : Hid (Below wb.heap.size wb v2) := below_on2 B_wb.out hb
        have B_w2 : Hid (Below w2.heap.size w2 v2) := below_on2 B_w2.out hb
        have B_w4 : Hid (Below w4.heap.size w4 v2) := below_on2 B_w4.out hb
        have B_wd : Hid (Below wd.heap.size wd v2) := below_on2 B_wd.out hb
        have B_w5 : Hid (Below w5.heap.size w5 v2) := below_on2 B_w5.out hb
        have B_we : Hid (Below we.heap.size we v2) := below_on2 B_we.out hb
        have B_weq : Hid (Below weq.heap.size weq v2) := below_on2 B_weq.out hb
        have B_w6a : Hid (Below w6a.heap.size w6a v2) := below_on2 B_w6a.out hb
        have B_w6 : Hid (Below w6.heap.size w6 v2) := below_on2 B_w6.out hb
        have B_w6q : Hid (Below w6q.heap.size w6q v2) := below_on2 B_w6q.out hb
        have B_w7a : Hid (Below w7a.heap.size w7a v2) := below_on2 B_w7a.out hb
        have B_w7 : Hid (Below w7.heap.size w7 v2) := below_on2 B_w7.out hb
        have B_wf : Hid (Below wf.heap.size wf v2) := below_on2 B_wf.out hb
        have B_w8 : Hid (Below w8.heap.size w8 v2) := below_on2 B_w8.out hb
        have B_wg : Hid (Below wg.heap.size wg v2) := below_on2 B_wg.out hb
        have B_wQ : Hid (Below wQ.heap.size wQ v2) := below_on2 B_wQ.out hb
        have B_v1 : Hid (Below v1.heap.size v1 v2) := hb
        clear hb
        clear hHeld
        refine hK.out _ _ (fun _ => ?keep) (fun hHeld => ?_)
        case keep => exact (rowCells RF.out B_wg.out)
        have hHeld := hHeld rfl
        clear hK K
        try go_simp
        refine restL_pure (i := 3) (v := ?ve2) rfl (by as_aux_lemma => kernel_rfl) (by as_aux_lemma => kernel_rfl) (by as_aux_lemma => kernel_rfl) (fun _ _ _ h => h) (Or.inl ⟨by rfl, ?ye2⟩) ?re2
        case ye2 => intro w' hSw; clear hSw; go_simp; try (with_reducible rfl)
        go_simp
        refine restL_pure (i := 4) (v := ?ve3) rfl (by as_aux_lemma => kernel_rfl) (by as_aux_lemma => kernel_rfl) (by as_aux_lemma => kernel_rfl) (fun _ _ _ h => h) (Or.inl ⟨by rfl, ?ye3⟩) ?re3
        case ye3 => intro w' hSw; clear hSw; go_simp; try (with_reducible rfl)
        go_simp
        refine restL_pure (i := 5) (v := ?ve4) rfl (by as_aux_lemma => kernel_rfl) (by as_aux_lemma => kernel_rfl) (by as_aux_lemma => kernel_rfl) (fun _ _ _ h => h) (Or.inl ⟨by rfl, ?ye4⟩) ?re4
        case ye4 => intro w' hSw; clear hSw; go_simp; try (with_reducible rfl)
        go_simp
        refine restL_one (i := 6) (by as_aux_lemma => kernel_rfl) rfl (fun K hK => ?_)
        go_simp
        have hb : Below v2.heap.size v2 (World.alloc v2 (.cells #[.int .i64 0, .int .i64 0, .int .i64 0, .slice none 0 0] 28)) := (Below.refl _ _).alloc (Nat.le_refl _) _
        have RB : Hid (Row (World.alloc v2 (.cells #[.int .i64 0, .int .i64 0, .int .i64 0, .slice none 0 0] 28)) v2.heap.size 28 [.int .i64 0, .int .i64 0, .int .i64 0, .slice none 0 0]) := Row.new v2 28 [.int .i64 0, .int .i64 0, .int .i64 0, .slice none 0 0]
        revert hb RB
        generalize (World.alloc v2 (.cells #[.int .i64 0, .int .i64 0, .int .i64 0, .slice none 0 0] 28)) = v3
        intro hb RB
        have hs_v3 : v2.heap.size ≤ v3.heap.size := hb.size
        have B_w : Hid (Below w.heap.size w v3) := below_on2 B_w.out hb
        have B_wa : Hid (Below wa.heap.size wa v3) := below_on2 B_wa.out hb
        have B_w1 : Hid (Below w1.heap.size w1 v3) := below_on2 B_w1.out hb
        have B_wb : Hid (Below wb.heap.size wb v3) := below_on2 B_wb.out hb
        have B_w2 : Hid (Below w2.heap.size w2 v3) := below_on2 B_w2.out hb
        have B_w4 : Hid (Below w4.heap.size w4 v3) := below_on2 B_w4.out hb
        have B_wd : Hid (Below wd.heap.size wd v3) := below_on2 B_wd.out hb
        have B_w5 : Hid (Below w5.heap.size w5 v3) := below_on2 B_w5.out hb
        have B_we : Hid (Below we.heap.size we v3) := below_on2 B_we.out hb
        have B_weq : Hid (Below weq.heap.size weq v3) := below_on2 B_weq.out hb
        have B_w6a : Hid (Below w6a.heap.size w6a v3) := below_on2 B_w6a.out hb
        have B_w6 : Hid (Below w6.heap.size w6 v3) := below_on2 B_w6.out hb
        have B_w6q : Hid (Below w6q.heap.size w6q v3) := below_on2 B_w6q.out hb
        have B_w7a : Hid (Below w7a.heap.size w7a v3) := below_on2 B_w7a.out hb
        have B_w7 : Hid (Below w7.heap.size w7 v3) := below_on2 B_w7.out hb
        have B_wf : Hid (Below wf.heap.size wf v3) := below_on2 B_wf.out hb
        have B_w8 : Hid (Below w8.heap.size w8 v3) := below_on2 B_w8.out hb
        have B_wg : Hid (Below wg.heap.size wg v3) := below_on2 B_wg.out hb
        have B_wQ : Hid (Below wQ.heap.size wQ v3) := below_on2 B_wQ.out hb
        have B_v1 : Hid (Below v1.heap.size v1 v3) := below_on2 B_v1.out hb
        have B_v2 : Hid (Below v2.heap.size v2 v3) := hb
        clear hb
        clear hHeld
        refine hK.out _ _ (fun _ => ?keep) (fun hHeld => ?_)
        case keep => exact (rowCells RF.out B_wg.out)
        have hHeld := hHeld rfl
        clear hK K
        try go_simp
        refine restL_one (i := 7) (by as_aux_lemma => kernel_rfl) rfl (fun K hK => ?_)
        have RBc : Hid (Row v3 (v2.heap.size) 28 [.int .i64 0, .int .i64 0, .int .i64 0, .slice none 0 0]) := RB.out
        have y0 := RBc.out.cell 0
        have y1 := RBc.out.cell 1
        have y2 := RBc.out.cell 2
        have y3 := RBc.out.cell 3
        have yl := RBc.out.lt
        simp only [List.getElem?_cons_zero, List.getElem?_cons_succ] at y0 y1 y2 y3
        have yf0 := RBc.out.frozen 0
        have yf1 := RBc.out.frozen 1
        have yf2 := RBc.out.frozen 2
        have yf3 := RBc.out.frozen 3
        go_simp
        refine hK.out _ _ (fun h => absurd h (by decide)) (fun _ => ?_)
        clear hK K
        try go_simp
        refine restL_pure (i := 8) (v := ?ve5) rfl (by as_aux_lemma => kernel_rfl) (by as_aux_lemma => kernel_rfl) (by as_aux_lemma => kernel_rfl) (fun _ _ _ h => h) (Or.inl ⟨by rfl, ?ye5⟩) ?re5
        case ye5 => intro w' hSw; clear hSw; go_simp; try (with_reducible rfl)
        go_simp
        refine restL_done (by as_aux_lemma => kernel_rfl) ?_ _
        have hle0 : wg.heap.size ≤ wQ.heap.size := hle9
        have hsz_wQ : wQ.heap.size ≤ v3.heap.size := B_wQ.out.size
        have hsz_v1 : v1.heap.size ≤ v3.heap.size := B_v1.out.size
        have hsz_v2 : v2.heap.size ≤ v3.heap.size := B_v2.out.size
        have HNB : NewOr RA 3 (v2.heap.size) (v2.heap.size + 1) := GAt.old HRA.out (Nat.le_refl _)
        clear y0 y1 y2 y3 yl yf0 yf1 yf2 yf3
        go_wp2_with fail
        go_meet
        case rel => exact ⟨v2.heap.size, RA, rc, rfl, rfl, ((((RBc.out.set 0 _).set 1 _).set 2 _).set 3 _), (GAt.farSet (GAt.farSet (GAt.farSet (GAt.farSet (HRA.out.up B_v2.out) HNB (p := ⟨v2.heap.size, 0, none⟩) (Nat.le_refl _) (Nat.lt_succ_self _) _) HNB (p := ⟨v2.heap.size, 1, none⟩) (Nat.le_refl _) (Nat.lt_succ_self _) _) HNB (p := ⟨v2.heap.size, 2, none⟩) (Nat.le_refl _) (Nat.lt_succ_self _) _) HNB (p := ⟨v2.heap.size, 3, none⟩) (Nat.le_refl _) (Nat.lt_succ_self _) _), (Below.setCell (Below.setCell (Below.setCell (Below.setCell B_wg.out (p := ⟨v2.heap.size, 0, none⟩) (by show _ ≤ v2.heap.size; omega) _) (p := ⟨v2.heap.size, 1, none⟩) (by show _ ≤ v2.heap.size; omega) _) (p := ⟨v2.heap.size, 2, none⟩) (by show _ ≤ v2.heap.size; omega) _) (p := ⟨v2.heap.size, 3, none⟩) (by show _ ≤ v2.heap.size; omega) _)⟩
      · go_simp
        have hb : Below v1.heap.size v1 (World.alloc v1 (.cells #[.int .i64 0, .int .i64 0, .int .i64 0, .slice none 0 0] 28)) := (Below.refl _ _).alloc (Nat.le_refl _) _
        have RB : Hid (Row (World.alloc v1 (.cells #[.int .i64 0, .int .i64 0, .int .i64 0, .slice none 0 0] 28)) v1.heap.size 28 [.int .i64 0, .int .i64 0, .int .i64 0, .slice none 0 0]) := Row.new v1 28 [.int .i64 0, .int .i64 0, .int .i64 0, .slice none 0 0]
        revert hb RB
        generalize (World.alloc v1 (.cells #[.int .i64 0, .int .i64 0, .int .i64 0, .slice none 0 0] 28)) = v2
        intro hb RB
        have hs_v2 : v1.heap.size ≤ v2.heap.size := hb.size
        have B_w : Hid (Below w.heap.size w v2) := below_on2 B_w.out hb
        have B_wa : Hid (Below wa.heap.size wa v2) := below_on2 B_wa.out hb
        have B_w1 : Hid (Below w1.heap.size w1 v2) := below_on2 B_w1.out hb
        have B_wb : Hid (Below wb.heap.size wb v2) := below_on2 B_wb.out hb
        have B_w2 : Hid (Below w2.heap.size w2 v2) := below_on2 B_w2.out hb
        have B_w4 : Hid (Below w4.heap.size w4 v2) := below_on2 B_w4.out hb
        have B_wd : Hid (Below wd.heap.size wd v2) := below_on2 B_wd.out hb
        have B_w5 : Hid (Below w5.heap.size w5 v2) := below_on2 B_w5.out hb
        have B_we : Hid (Below we.heap.size we v2) := below_on2 B_we.out hb
        have B_weq : Hid (Below weq.heap.size weq v2) := below_on2 B_weq.out hb
        have B_w6a : Hid (Below w6a.heap.size w6a v2) := below_on2 B_w6a.out hb
        have B_w6 : Hid (Below w6.heap.size w6 v2) := below_on2 B_w6.out hb
        have B_w6q : Hid (Below w6q.heap.size w6q v2) := below_on2 B_w6q.out hb
        have B_w7a : Hid (Below w7a.heap.size w7a v2) := below_on2 B_w7a.out hb
        have B_w7 : Hid (Below w7.heap.size w7 v2) := below_on2 B_w7.out hb
        have B_wf : Hid (Below wf.heap.size wf v2) := below_on2 B_wf.out hb
        have B_w8 : Hid (Below w8.heap.size w8 v2) := below_on2 B_w8.out hb
        have B_wg : Hid (Below wg.heap.size wg v2) := below_on2 B_wg.out hb
        have B_wQ : Hid (Below wQ.heap.size wQ v2) := below_on2 B_wQ.out hb
        have B_v1 : Hid (Below v1.heap.size v1 v2) := hb
        clear hb
        clear hHeld
        refine hK.out _ _ (fun _ => ?keep) (fun hHeld => ?_)
        case keep => exact (rowCells RF.out B_wg.out)
        have hHeld := hHeld rfl
        clear hK K
        try go_simp
        refine restL_one (i := 2) (by as_aux_lemma => kernel_rfl) rfl (fun K hK => ?_)
        go_simp
        go_at_call 11
        have hbl9 : v1.heap.size < v2.heap.size := (show Row v2 (v1.heap.size) _ _ from RB.out).lt
        have HC := (show Calls _ _ _ v2 (GPostN awR 0 wQ.heap.size v2) from (by have h := gStep_any awT awF LH LN (some ⟨w7.heap.size, 0, none⟩) 2 lhc 3 lnc 3 3 lsl v2 (HLT.out.up B_v1.out) (HGF.out.up B_wg.out) wQ.heap.size (fun B => (HGF.out.cells.newOr).mono hle9 (Nat.le_refl _)) (by first | exact Nat.le_refl _ | exact B_wQ.out.size); rw [aw_fold.2, aw_fold.1] at h; exact h))
        refine HC.mono ?_
        clear HC
        rintro e v3 ⟨RA, rn, rc, he, hga, hno, hb⟩
        obtain rfl : 3 = rn := hga.cl
        have he2 : e = .returned (.tuple #[.agg #[.int .i64 3, .int .i64 1, .int .i64 2, .slice RA 3 rc], .int .i64 0]) := he
        subst he2
        have hs_v3 : v2.heap.size ≤ v3.heap.size := hb.size
        have HRA : Hid (GAt v3 awR RA 3) := hga
        have HNO : Hid (NewOr RA 3 wQ.heap.size v2.heap.size) := hno
        clear he hga hno
        have B_w : Hid (Below w.heap.size w v3) := below_on2 B_w.out hb
        have B_wa : Hid (Below wa.heap.size wa v3) := below_on2 B_wa.out hb
        have B_w1 : Hid (Below w1.heap.size w1 v3) := below_on2 B_w1.out hb
        have B_wb : Hid (Below wb.heap.size wb v3) := below_on2 B_wb.out hb
        have B_w2 : Hid (Below w2.heap.size w2 v3) := below_on2 B_w2.out hb
        have B_w4 : Hid (Below w4.heap.size w4 v3) := below_on2 B_w4.out hb
        have B_wd : Hid (Below wd.heap.size wd v3) := below_on2 B_wd.out hb
        have B_w5 : Hid (Below w5.heap.size w5 v3) := below_on2 B_w5.out hb
        have B_we : Hid (Below we.heap.size we v3) := below_on2 B_we.out hb
        have B_weq : Hid (Below weq.heap.size weq v3) := below_on2 B_weq.out hb
        have B_w6a : Hid (Below w6a.heap.size w6a v3) := below_on2 B_w6a.out hb
        have B_w6 : Hid (Below w6.heap.size w6 v3) := below_on2 B_w6.out hb
        have B_w6q : Hid (Below w6q.heap.size w6q v3) := below_on2 B_w6q.out hb
        have B_w7a : Hid (Below w7a.heap.size w7a v3) := below_on2 B_w7a.out hb
        have B_w7 : Hid (Below w7.heap.size w7 v3) := below_on2 B_w7.out hb
        have B_wf : Hid (Below wf.heap.size wf v3) := below_on2 B_wf.out hb
        have B_w8 : Hid (Below w8.heap.size w8 v3) := below_on2 B_w8.out hb
        have B_wg : Hid (Below wg.heap.size wg v3) := below_on2 B_wg.out hb
        have B_wQ : Hid (Below wQ.heap.size wQ v3) := below_on2 B_wQ.out hb
        have B_v1 : Hid (Below v1.heap.size v1 v3) := below_on2 B_v1.out hb
        have B_v2 : Hid (Below v2.heap.size v2 v3) := hb
        clear hb
        clear hHeld
        refine hK.out _ _ (fun _ => ?keep) (fun hHeld => ?_)
        case keep => exact (rowCells RF.out B_wg.out)
        have hHeld := hHeld rfl
        clear hK K
        try go_simp
        refine restL_pure (i := 3) (v := ?ve6) rfl (by as_aux_lemma => kernel_rfl) (by as_aux_lemma => kernel_rfl) (by as_aux_lemma => kernel_rfl) (fun _ _ _ h => h) (Or.inl ⟨by rfl, ?ye6⟩) ?re6
        case ye6 => intro w' hSw; clear hSw; go_simp; try (with_reducible rfl)
        go_simp
        refine restL_pure (i := 4) (v := ?ve7) rfl (by as_aux_lemma => kernel_rfl) (by as_aux_lemma => kernel_rfl) (by as_aux_lemma => kernel_rfl) (fun _ _ _ h => h) (Or.inl ⟨by rfl, ?ye7⟩) ?re7
        case ye7 => intro w' hSw; clear hSw; go_simp; try (with_reducible rfl)
        go_simp
        refine restL_pure (i := 5) (v := ?ve8) rfl (by as_aux_lemma => kernel_rfl) (by as_aux_lemma => kernel_rfl) (by as_aux_lemma => kernel_rfl) (fun _ _ _ h => h) (Or.inl ⟨by rfl, ?ye8⟩) ?re8
        case ye8 => intro w' hSw; clear hSw; go_simp; try (with_reducible rfl)
        go_simp
        refine restL_one (i := 7) (by as_aux_lemma => kernel_rfl) rfl (fun K hK => ?_)
        have RBc : Hid (Row v3 (v1.heap.size) 28 [.int .i64 0, .int .i64 0, .int .i64 0, .slice none 0 0]) := (rowCells RB.out B_v2.out)
        have y0 := RBc.out.cell 0
        have y1 := RBc.out.cell 1
        have y2 := RBc.out.cell 2
        have y3 := RBc.out.cell 3
        have yl := RBc.out.lt
        simp only [List.getElem?_cons_zero, List.getElem?_cons_succ] at y0 y1 y2 y3
        have yf0 := RBc.out.frozen 0
        have yf1 := RBc.out.frozen 1
        have yf2 := RBc.out.frozen 2
        have yf3 := RBc.out.frozen 3
        go_simp
        refine hK.out _ _ (fun h => absurd h (by decide)) (fun _ => ?_)
        clear hK K
        try go_simp
        refine restL_pure (i := 8) (v := ?ve9) rfl (by as_aux_lemma => kernel_rfl) (by as_aux_lemma => kernel_rfl) (by as_aux_lemma => kernel_rfl) (fun _ _ _ h => h) (Or.inl ⟨by rfl, ?ye9⟩) ?re9
        case ye9 => intro w' hSw; clear hSw; go_simp; try (with_reducible rfl)
        go_simp
        refine restL_done (by as_aux_lemma => kernel_rfl) ?_ _
        have hle0 : wg.heap.size ≤ wQ.heap.size := hle9
        have hsz_wQ : wQ.heap.size ≤ v3.heap.size := B_wQ.out.size
        have hsz_v1 : v1.heap.size ≤ v3.heap.size := B_v1.out.size
        have hsz_v2 : v2.heap.size ≤ v3.heap.size := B_v2.out.size
        have hbl : v1.heap.size < v2.heap.size := hbl9
        have HNB : NewOr RA 3 (v1.heap.size) (v1.heap.size + 1) := HNO.out.of_lt' hbl (by omega)
        clear y0 y1 y2 y3 yl yf0 yf1 yf2 yf3
        go_wp2_with fail
        go_meet
        case rel => exact ⟨v1.heap.size, RA, rc, rfl, rfl, ((((RBc.out.set 0 _).set 1 _).set 2 _).set 3 _), (GAt.farSet (GAt.farSet (GAt.farSet (GAt.farSet HRA.out HNB (p := ⟨v1.heap.size, 0, none⟩) (Nat.le_refl _) (Nat.lt_succ_self _) _) HNB (p := ⟨v1.heap.size, 1, none⟩) (Nat.le_refl _) (Nat.lt_succ_self _) _) HNB (p := ⟨v1.heap.size, 2, none⟩) (Nat.le_refl _) (Nat.lt_succ_self _) _) HNB (p := ⟨v1.heap.size, 3, none⟩) (Nat.le_refl _) (Nat.lt_succ_self _) _), (Below.setCell (Below.setCell (Below.setCell (Below.setCell B_wg.out (p := ⟨v1.heap.size, 0, none⟩) (by show _ ≤ v1.heap.size; omega) _) (p := ⟨v1.heap.size, 1, none⟩) (by show _ ≤ v1.heap.size; omega) _) (p := ⟨v1.heap.size, 2, none⟩) (by show _ ≤ v1.heap.size; omega) _) (p := ⟨v1.heap.size, 3, none⟩) (by show _ ≤ v1.heap.size; omega) _)⟩
    · go_simp
      have hb : Below wQ.heap.size wQ (World.alloc wQ (.cells #[.int .i64 0, .int .i64 0, .int .i64 0, .slice none 0 0] 28)) := (Below.refl _ _).alloc (Nat.le_refl _) _
      have RB : Hid (Row (World.alloc wQ (.cells #[.int .i64 0, .int .i64 0, .int .i64 0, .slice none 0 0] 28)) wQ.heap.size 28 [.int .i64 0, .int .i64 0, .int .i64 0, .slice none 0 0]) := Row.new wQ 28 [.int .i64 0, .int .i64 0, .int .i64 0, .slice none 0 0]
      revert hb RB
      generalize (World.alloc wQ (.cells #[.int .i64 0, .int .i64 0, .int .i64 0, .slice none 0 0] 28)) = v1
      intro hb RB
      have hs_v1 : wQ.heap.size ≤ v1.heap.size := hb.size
      have B_w : Hid (Below w.heap.size w v1) := below_on2 B_w.out hb
      have B_wa : Hid (Below wa.heap.size wa v1) := below_on2 B_wa.out hb
      have B_w1 : Hid (Below w1.heap.size w1 v1) := below_on2 B_w1.out hb
      have B_wb : Hid (Below wb.heap.size wb v1) := below_on2 B_wb.out hb
      have B_w2 : Hid (Below w2.heap.size w2 v1) := below_on2 B_w2.out hb
      have B_w4 : Hid (Below w4.heap.size w4 v1) := below_on2 B_w4.out hb
      have B_wd : Hid (Below wd.heap.size wd v1) := below_on2 B_wd.out hb
      have B_w5 : Hid (Below w5.heap.size w5 v1) := below_on2 B_w5.out hb
      have B_we : Hid (Below we.heap.size we v1) := below_on2 B_we.out hb
      have B_weq : Hid (Below weq.heap.size weq v1) := below_on2 B_weq.out hb
      have B_w6a : Hid (Below w6a.heap.size w6a v1) := below_on2 B_w6a.out hb
      have B_w6 : Hid (Below w6.heap.size w6 v1) := below_on2 B_w6.out hb
      have B_w6q : Hid (Below w6q.heap.size w6q v1) := below_on2 B_w6q.out hb
      have B_w7a : Hid (Below w7a.heap.size w7a v1) := below_on2 B_w7a.out hb
      have B_w7 : Hid (Below w7.heap.size w7 v1) := below_on2 B_w7.out hb
      have B_wf : Hid (Below wf.heap.size wf v1) := below_on2 B_wf.out hb
      have B_w8 : Hid (Below w8.heap.size w8 v1) := below_on2 B_w8.out hb
      have B_wg : Hid (Below wg.heap.size wg v1) := below_on2 B_wg.out hb
      have B_wQ : Hid (Below wQ.heap.size wQ v1) := hb
      clear hb
      clear hHeld
      refine hK.out _ _ (fun _ => ?keep) (fun hHeld => ?_)
      case keep => exact (rowCells RF.out B_wg.out)
      have hHeld := hHeld rfl
      clear hK K
      try go_simp
      refine restL_one (i := 0) (by as_aux_lemma => kernel_rfl) rfl (fun K hK => ?_)
      go_simp
      go_at_call 23
      refine (leftN_any v1).mono ?_
      rintro e v2 ⟨LH, LN, lhc, lnc, lsl, rfl, hlt, hb⟩
      have HLT : Hid (TAt v2 awT LH LN 2 3 lsl) := hlt
      clear hlt
      have hs_v2 : v1.heap.size ≤ v2.heap.size := hb.size
      have B_w : Hid (Below w.heap.size w v2) := below_on2 B_w.out hb
      have B_wa : Hid (Below wa.heap.size wa v2) := below_on2 B_wa.out hb
      have B_w1 : Hid (Below w1.heap.size w1 v2) := below_on2 B_w1.out hb
      have B_wb : Hid (Below wb.heap.size wb v2) := below_on2 B_wb.out hb
      have B_w2 : Hid (Below w2.heap.size w2 v2) := below_on2 B_w2.out hb
      have B_w4 : Hid (Below w4.heap.size w4 v2) := below_on2 B_w4.out hb
      have B_wd : Hid (Below wd.heap.size wd v2) := below_on2 B_wd.out hb
      have B_w5 : Hid (Below w5.heap.size w5 v2) := below_on2 B_w5.out hb
      have B_we : Hid (Below we.heap.size we v2) := below_on2 B_we.out hb
      have B_weq : Hid (Below weq.heap.size weq v2) := below_on2 B_weq.out hb
      have B_w6a : Hid (Below w6a.heap.size w6a v2) := below_on2 B_w6a.out hb
      have B_w6 : Hid (Below w6.heap.size w6 v2) := below_on2 B_w6.out hb
      have B_w6q : Hid (Below w6q.heap.size w6q v2) := below_on2 B_w6q.out hb
      have B_w7a : Hid (Below w7a.heap.size w7a v2) := below_on2 B_w7a.out hb
      have B_w7 : Hid (Below w7.heap.size w7 v2) := below_on2 B_w7.out hb
      have B_wf : Hid (Below wf.heap.size wf v2) := below_on2 B_wf.out hb
      have B_w8 : Hid (Below w8.heap.size w8 v2) := below_on2 B_w8.out hb
      have B_wg : Hid (Below wg.heap.size wg v2) := below_on2 B_wg.out hb
      have B_wQ : Hid (Below wQ.heap.size wQ v2) := below_on2 B_wQ.out hb
      have B_v1 : Hid (Below v1.heap.size v1 v2) := hb
      clear hb
      clear hHeld
      refine hK.out _ _ (fun _ => ?keep) (fun hHeld => ?_)
      case keep => exact (rowCells RF.out B_wg.out)
      have hHeld := hHeld rfl
      clear hK K
      try go_simp
      refine restL_one (i := 2) (by as_aux_lemma => kernel_rfl) rfl (fun K hK => ?_)
      go_simp
      go_at_call 11
      have hbl9 : wQ.heap.size < v2.heap.size := (show Row v2 (wQ.heap.size) _ _ from (rowCells RB.out B_v1.out)).lt
      have HC := (show Calls _ _ _ v2 (GPostN awR 0 wQ.heap.size v2) from (by have h := gStep_any awT awF LH LN (some ⟨w7.heap.size, 0, none⟩) 2 lhc 3 lnc 3 3 lsl v2 HLT.out (HGF.out.up B_wg.out) wQ.heap.size (fun B => (HGF.out.cells.newOr).mono hle9 (Nat.le_refl _)) (by first | exact Nat.le_refl _ | exact B_wQ.out.size); rw [aw_fold.2, aw_fold.1] at h; exact h))
      refine HC.mono ?_
      clear HC
      rintro e v3 ⟨RA, rn, rc, he, hga, hno, hb⟩
      obtain rfl : 3 = rn := hga.cl
      have he2 : e = .returned (.tuple #[.agg #[.int .i64 3, .int .i64 1, .int .i64 2, .slice RA 3 rc], .int .i64 0]) := he
      subst he2
      have hs_v3 : v2.heap.size ≤ v3.heap.size := hb.size
      have HRA : Hid (GAt v3 awR RA 3) := hga
      have HNO : Hid (NewOr RA 3 wQ.heap.size v2.heap.size) := hno
      clear he hga hno
      have B_w : Hid (Below w.heap.size w v3) := below_on2 B_w.out hb
      have B_wa : Hid (Below wa.heap.size wa v3) := below_on2 B_wa.out hb
      have B_w1 : Hid (Below w1.heap.size w1 v3) := below_on2 B_w1.out hb
      have B_wb : Hid (Below wb.heap.size wb v3) := below_on2 B_wb.out hb
      have B_w2 : Hid (Below w2.heap.size w2 v3) := below_on2 B_w2.out hb
      have B_w4 : Hid (Below w4.heap.size w4 v3) := below_on2 B_w4.out hb
      have B_wd : Hid (Below wd.heap.size wd v3) := below_on2 B_wd.out hb
      have B_w5 : Hid (Below w5.heap.size w5 v3) := below_on2 B_w5.out hb
      have B_we : Hid (Below we.heap.size we v3) := below_on2 B_we.out hb
      have B_weq : Hid (Below weq.heap.size weq v3) := below_on2 B_weq.out hb
      have B_w6a : Hid (Below w6a.heap.size w6a v3) := below_on2 B_w6a.out hb
      have B_w6 : Hid (Below w6.heap.size w6 v3) := below_on2 B_w6.out hb
      have B_w6q : Hid (Below w6q.heap.size w6q v3) := below_on2 B_w6q.out hb
      have B_w7a : Hid (Below w7a.heap.size w7a v3) := below_on2 B_w7a.out hb
      have B_w7 : Hid (Below w7.heap.size w7 v3) := below_on2 B_w7.out hb
      have B_wf : Hid (Below wf.heap.size wf v3) := below_on2 B_wf.out hb
      have B_w8 : Hid (Below w8.heap.size w8 v3) := below_on2 B_w8.out hb
      have B_wg : Hid (Below wg.heap.size wg v3) := below_on2 B_wg.out hb
      have B_wQ : Hid (Below wQ.heap.size wQ v3) := below_on2 B_wQ.out hb
      have B_v1 : Hid (Below v1.heap.size v1 v3) := below_on2 B_v1.out hb
      have B_v2 : Hid (Below v2.heap.size v2 v3) := hb
      clear hb
      clear hHeld
      refine hK.out _ _ (fun _ => ?keep) (fun hHeld => ?_)
      case keep => exact (rowCells RF.out B_wg.out)
      have hHeld := hHeld rfl
      clear hK K
      try go_simp
      refine restL_pure (i := 3) (v := ?ve10) rfl (by as_aux_lemma => kernel_rfl) (by as_aux_lemma => kernel_rfl) (by as_aux_lemma => kernel_rfl) (fun _ _ _ h => h) (Or.inl ⟨by rfl, ?ye10⟩) ?re10
      case ye10 => intro w' hSw; clear hSw; go_simp; try (with_reducible rfl)
      go_simp
      refine restL_pure (i := 4) (v := ?ve11) rfl (by as_aux_lemma => kernel_rfl) (by as_aux_lemma => kernel_rfl) (by as_aux_lemma => kernel_rfl) (fun _ _ _ h => h) (Or.inl ⟨by rfl, ?ye11⟩) ?re11
      case ye11 => intro w' hSw; clear hSw; go_simp; try (with_reducible rfl)
      go_simp
      refine restL_pure (i := 5) (v := ?ve12) rfl (by as_aux_lemma => kernel_rfl) (by as_aux_lemma => kernel_rfl) (by as_aux_lemma => kernel_rfl) (fun _ _ _ h => h) (Or.inl ⟨by rfl, ?ye12⟩) ?re12
      case ye12 => intro w' hSw; clear hSw; go_simp; try (with_reducible rfl)
      go_simp
      refine restL_one (i := 7) (by as_aux_lemma => kernel_rfl) rfl (fun K hK => ?_)
      have RBc : Hid (Row v3 (wQ.heap.size) 28 [.int .i64 0, .int .i64 0, .int .i64 0, .slice none 0 0]) := (rowCells RB.out B_v1.out)
      have y0 := RBc.out.cell 0
      have y1 := RBc.out.cell 1
      have y2 := RBc.out.cell 2
      have y3 := RBc.out.cell 3
      have yl := RBc.out.lt
      simp only [List.getElem?_cons_zero, List.getElem?_cons_succ] at y0 y1 y2 y3
      have yf0 := RBc.out.frozen 0
      have yf1 := RBc.out.frozen 1
      have yf2 := RBc.out.frozen 2
      have yf3 := RBc.out.frozen 3
      go_simp
      refine hK.out _ _ (fun h => absurd h (by decide)) (fun _ => ?_)
      clear hK K
      try go_simp
      refine restL_pure (i := 8) (v := ?ve13) rfl (by as_aux_lemma => kernel_rfl) (by as_aux_lemma => kernel_rfl) (by as_aux_lemma => kernel_rfl) (fun _ _ _ h => h) (Or.inl ⟨by rfl, ?ye13⟩) ?re13
      case ye13 => intro w' hSw; clear hSw; go_simp; try (with_reducible rfl)
      go_simp
      refine restL_done (by as_aux_lemma => kernel_rfl) ?_ _
      have hle0 : wg.heap.size ≤ wQ.heap.size := hle9
      have hsz_wQ : wQ.heap.size ≤ v3.heap.size := B_wQ.out.size
      have hsz_v1 : v1.heap.size ≤ v3.heap.size := B_v1.out.size
      have hsz_v2 : v2.heap.size ≤ v3.heap.size := B_v2.out.size
      have hbl : wQ.heap.size < v2.heap.size := hbl9
      have HNB : NewOr RA 3 (wQ.heap.size) (wQ.heap.size + 1) := HNO.out.of_lt' hbl (by omega)
      clear y0 y1 y2 y3 yl yf0 yf1 yf2 yf3
      go_wp2_with fail
      go_meet
      case rel => exact ⟨wQ.heap.size, RA, rc, rfl, rfl, ((((RBc.out.set 0 _).set 1 _).set 2 _).set 3 _), (GAt.farSet (GAt.farSet (GAt.farSet (GAt.farSet HRA.out HNB (p := ⟨wQ.heap.size, 0, none⟩) (Nat.le_refl _) (Nat.lt_succ_self _) _) HNB (p := ⟨wQ.heap.size, 1, none⟩) (Nat.le_refl _) (Nat.lt_succ_self _) _) HNB (p := ⟨wQ.heap.size, 2, none⟩) (Nat.le_refl _) (Nat.lt_succ_self _) _) HNB (p := ⟨wQ.heap.size, 3, none⟩) (Nat.le_refl _) (Nat.lt_succ_self _) _), (Below.setCell (Below.setCell (Below.setCell (Below.setCell B_wg.out (p := ⟨wQ.heap.size, 0, none⟩) (by show _ ≤ wQ.heap.size; omega) _) (p := ⟨wQ.heap.size, 1, none⟩) (by show _ ≤ wQ.heap.size; omega) _) (p := ⟨wQ.heap.size, 2, none⟩) (by show _ ≤ wQ.heap.size; omega) _) (p := ⟨wQ.heap.size, 3, none⟩) (by show _ ≤ wQ.heap.size; omega) _)⟩
  obtain ⟨b10, A10, c10, rfl, rfl, h1, h2, hb⟩ := hcut
  obtain ⟨w10, rfl⟩ : ∃ w10 : World, w10 = wc := ⟨_, rfl⟩
  have R10 : Hid (Row w10 b10 28 [.int .i64 3, .int .i64 1, .int .i64 2, .slice A10 3 c10]) := h1
  have HG10 : Hid (GAt w10 awR A10 3) := h2
  clear h1 h2
  have B_w : Hid (Below w.heap.size w w10) := below_on2 B_w.out hb
  have B_wa : Hid (Below wa.heap.size wa w10) := below_on2 B_wa.out hb
  have B_w1 : Hid (Below w1.heap.size w1 w10) := below_on2 B_w1.out hb
  have B_wb : Hid (Below wb.heap.size wb w10) := below_on2 B_wb.out hb
  have B_w2 : Hid (Below w2.heap.size w2 w10) := below_on2 B_w2.out hb
  have B_w4 : Hid (Below w4.heap.size w4 w10) := below_on2 B_w4.out hb
  have B_wd : Hid (Below wd.heap.size wd w10) := below_on2 B_wd.out hb
  have B_w5 : Hid (Below w5.heap.size w5 w10) := below_on2 B_w5.out hb
  have B_we : Hid (Below we.heap.size we w10) := below_on2 B_we.out hb
  have B_weq : Hid (Below weq.heap.size weq w10) := below_on2 B_weq.out hb
  have B_w6a : Hid (Below w6a.heap.size w6a w10) := below_on2 B_w6a.out hb
  have B_w6 : Hid (Below w6.heap.size w6 w10) := below_on2 B_w6.out hb
  have B_w6q : Hid (Below w6q.heap.size w6q w10) := below_on2 B_w6q.out hb
  have B_w7a : Hid (Below w7a.heap.size w7a w10) := below_on2 B_w7a.out hb
  have B_w7 : Hid (Below w7.heap.size w7 w10) := below_on2 B_w7.out hb
  have B_wf : Hid (Below wf.heap.size wf w10) := below_on2 B_wf.out hb
  have B_w8 : Hid (Below w8.heap.size w8 w10) := below_on2 B_w8.out hb
  have B_wg : Hid (Below wg.heap.size wg w10) := hb
  clear hb
  go_upto_region 11 with fail
  refine wp_region_L (fun w' => Row w' (w1.heap.size) 28 [.int .i64 3, .int .i64 1, .int .i64 0, .slice (some ⟨w.heap.size, 0, none⟩) 3 3]) [] (by as_aux_lemma => kernel_rfl) (by exact Row.drew (rowCells RG.out B_wb.out)) (fun hHeld => ?_)
  have B_w : Hid (Below w.heap.size w (World.drew w10)) := B_w.out.drew
  have B_wa : Hid (Below wa.heap.size wa (World.drew w10)) := B_wa.out.drew
  have B_w1 : Hid (Below w1.heap.size w1 (World.drew w10)) := B_w1.out.drew
  have B_wb : Hid (Below wb.heap.size wb (World.drew w10)) := B_wb.out.drew
  have B_w2 : Hid (Below w2.heap.size w2 (World.drew w10)) := B_w2.out.drew
  have B_w4 : Hid (Below w4.heap.size w4 (World.drew w10)) := B_w4.out.drew
  have B_wd : Hid (Below wd.heap.size wd (World.drew w10)) := B_wd.out.drew
  have B_w5 : Hid (Below w5.heap.size w5 (World.drew w10)) := B_w5.out.drew
  have B_we : Hid (Below we.heap.size we (World.drew w10)) := B_we.out.drew
  have B_weq : Hid (Below weq.heap.size weq (World.drew w10)) := B_weq.out.drew
  have B_w6a : Hid (Below w6a.heap.size w6a (World.drew w10)) := B_w6a.out.drew
  have B_w6 : Hid (Below w6.heap.size w6 (World.drew w10)) := B_w6.out.drew
  have B_w6q : Hid (Below w6q.heap.size w6q (World.drew w10)) := B_w6q.out.drew
  have B_w7a : Hid (Below w7a.heap.size w7a (World.drew w10)) := B_w7a.out.drew
  have B_w7 : Hid (Below w7.heap.size w7 (World.drew w10)) := B_w7.out.drew
  have B_wf : Hid (Below wf.heap.size wf (World.drew w10)) := B_wf.out.drew
  have B_w8 : Hid (Below w8.heap.size w8 (World.drew w10)) := B_w8.out.drew
  have B_wg : Hid (Below wg.heap.size wg (World.drew w10)) := B_wg.out.drew
  have B_w10 : Hid (Below w10.heap.size w10 (World.drew w10)) := (Below.refl _ _).drew
  revert hHeld B_w B_wa B_w1 B_wb B_w2 B_w4 B_wd B_w5 B_we B_weq B_w6a B_w6 B_w6q B_w7a B_w7 B_wf B_w8 B_wg B_w10
  generalize World.drew w10 = w10q
  intro hHeld B_w B_wa B_w1 B_wb B_w2 B_w4 B_wd B_w5 B_we B_weq B_w6a B_w6 B_w6q B_w7a B_w7 B_wf B_w8 B_wg B_w10
  refine restL_take (i := 1) (v := ?vf1) [] rfl (by as_aux_lemma => kernel_rfl) (by as_aux_lemma => kernel_rfl) (by as_aux_lemma => kernel_rfl) (by as_aux_lemma => kernel_rfl) (fun _ _ _ h => h) (Or.inl ⟨by rfl, ?yf1⟩) hHeld ?rf1
  case yf1 =>
    intro w' hSw
    have hS0 := hSw
    clear hSw
    have hT0 : Hid (Row w' (w1.heap.size) 28 [.int .i64 3, .int .i64 1, .int .i64 0, .slice (some ⟨w.heap.size, 0, none⟩) 3 3]) := hS0
    clear hS0
    have z0_0 := hT0.out.cell 0
    have z0_1 := hT0.out.cell 1
    have z0_2 := hT0.out.cell 2
    have z0_3 := hT0.out.cell 3
    have z0_l := hT0.out.lt
    simp only [List.getElem?_cons_zero, List.getElem?_cons_succ] at z0_0 z0_1 z0_2 z0_3
    go_simp
    try (with_reducible rfl)
  go_simp
  refine restL_one (i := 0) (by as_aux_lemma => kernel_rfl) rfl (fun K hK => ?_)
  go_simp
  go_at_call 23
  refine (leftN_any w10q).mono ?_
  rintro e w11a ⟨LH11, LN11, lhc11, lnc11, lsl11, rfl, hlt, hb⟩
  have HLT11 : Hid (TAt w11a awT LH11 LN11 2 3 lsl11) := hlt
  clear hlt
  have B_w : Hid (Below w.heap.size w w11a) := below_on2 B_w.out hb
  have B_wa : Hid (Below wa.heap.size wa w11a) := below_on2 B_wa.out hb
  have B_w1 : Hid (Below w1.heap.size w1 w11a) := below_on2 B_w1.out hb
  have B_wb : Hid (Below wb.heap.size wb w11a) := below_on2 B_wb.out hb
  have B_w2 : Hid (Below w2.heap.size w2 w11a) := below_on2 B_w2.out hb
  have B_w4 : Hid (Below w4.heap.size w4 w11a) := below_on2 B_w4.out hb
  have B_wd : Hid (Below wd.heap.size wd w11a) := below_on2 B_wd.out hb
  have B_w5 : Hid (Below w5.heap.size w5 w11a) := below_on2 B_w5.out hb
  have B_we : Hid (Below we.heap.size we w11a) := below_on2 B_we.out hb
  have B_weq : Hid (Below weq.heap.size weq w11a) := below_on2 B_weq.out hb
  have B_w6a : Hid (Below w6a.heap.size w6a w11a) := below_on2 B_w6a.out hb
  have B_w6 : Hid (Below w6.heap.size w6 w11a) := below_on2 B_w6.out hb
  have B_w6q : Hid (Below w6q.heap.size w6q w11a) := below_on2 B_w6q.out hb
  have B_w7a : Hid (Below w7a.heap.size w7a w11a) := below_on2 B_w7a.out hb
  have B_w7 : Hid (Below w7.heap.size w7 w11a) := below_on2 B_w7.out hb
  have B_wf : Hid (Below wf.heap.size wf w11a) := below_on2 B_wf.out hb
  have B_w8 : Hid (Below w8.heap.size w8 w11a) := below_on2 B_w8.out hb
  have B_wg : Hid (Below wg.heap.size wg w11a) := below_on2 B_wg.out hb
  have B_w10 : Hid (Below w10.heap.size w10 w11a) := below_on2 B_w10.out hb
  have B_w10q : Hid (Below w10q.heap.size w10q w11a) := hb
  clear hb
  clear hHeld
  refine hK.out _ _ (fun _ => ?keep) (fun hHeld => ?_)
  case keep => exact (rowCells RG.out B_wb.out)
  have hHeld := hHeld rfl
  clear hK K
  try go_simp
  refine restL_one (i := 2) (by as_aux_lemma => kernel_rfl) rfl (fun K hK => ?_)
  go_simp
  go_at_call 18
  have HC := gGard_any awT awG LH11 LN11 (some ⟨w.heap.size, 0, none⟩) 2 lhc11 3 lnc11 3 3 lsl11 w11a HLT11.out (HG.out.up B_w1.out)
  rw [aw_gard.2.1, aw_gard.1] at HC
  refine HC.mono ?_
  clear HC
  rintro e w11 ⟨rfl, hb⟩
  have B_w : Hid (Below w.heap.size w w11) := below_on2 B_w.out hb
  have B_wa : Hid (Below wa.heap.size wa w11) := below_on2 B_wa.out hb
  have B_w1 : Hid (Below w1.heap.size w1 w11) := below_on2 B_w1.out hb
  have B_wb : Hid (Below wb.heap.size wb w11) := below_on2 B_wb.out hb
  have B_w2 : Hid (Below w2.heap.size w2 w11) := below_on2 B_w2.out hb
  have B_w4 : Hid (Below w4.heap.size w4 w11) := below_on2 B_w4.out hb
  have B_wd : Hid (Below wd.heap.size wd w11) := below_on2 B_wd.out hb
  have B_w5 : Hid (Below w5.heap.size w5 w11) := below_on2 B_w5.out hb
  have B_we : Hid (Below we.heap.size we w11) := below_on2 B_we.out hb
  have B_weq : Hid (Below weq.heap.size weq w11) := below_on2 B_weq.out hb
  have B_w6a : Hid (Below w6a.heap.size w6a w11) := below_on2 B_w6a.out hb
  have B_w6 : Hid (Below w6.heap.size w6 w11) := below_on2 B_w6.out hb
  have B_w6q : Hid (Below w6q.heap.size w6q w11) := below_on2 B_w6q.out hb
  have B_w7a : Hid (Below w7a.heap.size w7a w11) := below_on2 B_w7a.out hb
  have B_w7 : Hid (Below w7.heap.size w7 w11) := below_on2 B_w7.out hb
  have B_wf : Hid (Below wf.heap.size wf w11) := below_on2 B_wf.out hb
  have B_w8 : Hid (Below w8.heap.size w8 w11) := below_on2 B_w8.out hb
  have B_wg : Hid (Below wg.heap.size wg w11) := below_on2 B_wg.out hb
  have B_w10 : Hid (Below w10.heap.size w10 w11) := below_on2 B_w10.out hb
  have B_w10q : Hid (Below w10q.heap.size w10q w11) := below_on2 B_w10q.out hb
  have B_w11a : Hid (Below w11a.heap.size w11a w11) := hb
  clear hb
  clear hHeld
  refine hK.out _ _ (fun _ => ?keep) (fun hHeld => ?_)
  case keep => exact (rowCells RG.out B_wb.out)
  have hHeld := hHeld rfl
  clear hK K
  try go_simp
  refine restL_pure (i := 3) (v := ?vf2) rfl (by as_aux_lemma => kernel_rfl) (by as_aux_lemma => kernel_rfl) (by as_aux_lemma => kernel_rfl) (fun _ _ _ h => h) (Or.inl ⟨by rfl, ?yf2⟩) ?rf2
  case yf2 => intro w' hSw; clear hSw; go_simp; try (with_reducible rfl)
  go_simp
  refine restL_pure (i := 4) (v := ?vf3) rfl (by as_aux_lemma => kernel_rfl) (by as_aux_lemma => kernel_rfl) (by as_aux_lemma => kernel_rfl) (fun _ _ _ h => h) (Or.inl ⟨by rfl, ?yf3⟩) ?rf3
  case yf3 => intro w' hSw; clear hSw; go_simp; try (with_reducible rfl)
  go_simp
  refine restL_pure (i := 5) (v := ?vf4) rfl (by as_aux_lemma => kernel_rfl) (by as_aux_lemma => kernel_rfl) (by as_aux_lemma => kernel_rfl) (fun _ _ _ h => h) (Or.inl ⟨by rfl, ?yf4⟩) ?rf4
  case yf4 => intro w' hSw; clear hSw; go_simp; try (with_reducible rfl)
  go_simp
  refine restL_pure (i := 6) (v := ?vf5) rfl (by as_aux_lemma => kernel_rfl) (by as_aux_lemma => kernel_rfl) (by as_aux_lemma => kernel_rfl) (fun _ _ _ h => h) (Or.inl ⟨by rfl, ?yf5⟩) ?rf5
  case yf5 => intro w' hSw; clear hSw; go_simp; try (with_reducible rfl)
  go_simp
  refine restL_pure (i := 7) (v := ?vf6) rfl (by as_aux_lemma => kernel_rfl) (by as_aux_lemma => kernel_rfl) (by as_aux_lemma => kernel_rfl) (fun _ _ _ h => h) (Or.inl ⟨by rfl, ?yf6⟩) ?rf6
  case yf6 => intro w' hSw; clear hSw; go_simp; try (with_reducible rfl)
  go_simp
  refine restL_done (by as_aux_lemma => kernel_rfl) ?_ _
  go_wp2_with fail
  refine (leftN_any w11).mono ?_
  rintro e w12 ⟨LH12, LN12, lhc12, lnc12, lsl12, rfl, hlt, hb⟩
  have HLT12 : Hid (TAt w12 awT LH12 LN12 2 3 lsl12) := hlt
  clear hlt
  have B_w : Hid (Below w.heap.size w w12) := below_on2 B_w.out hb
  have B_wa : Hid (Below wa.heap.size wa w12) := below_on2 B_wa.out hb
  have B_w1 : Hid (Below w1.heap.size w1 w12) := below_on2 B_w1.out hb
  have B_wb : Hid (Below wb.heap.size wb w12) := below_on2 B_wb.out hb
  have B_w2 : Hid (Below w2.heap.size w2 w12) := below_on2 B_w2.out hb
  have B_w4 : Hid (Below w4.heap.size w4 w12) := below_on2 B_w4.out hb
  have B_wd : Hid (Below wd.heap.size wd w12) := below_on2 B_wd.out hb
  have B_w5 : Hid (Below w5.heap.size w5 w12) := below_on2 B_w5.out hb
  have B_we : Hid (Below we.heap.size we w12) := below_on2 B_we.out hb
  have B_weq : Hid (Below weq.heap.size weq w12) := below_on2 B_weq.out hb
  have B_w6a : Hid (Below w6a.heap.size w6a w12) := below_on2 B_w6a.out hb
  have B_w6 : Hid (Below w6.heap.size w6 w12) := below_on2 B_w6.out hb
  have B_w6q : Hid (Below w6q.heap.size w6q w12) := below_on2 B_w6q.out hb
  have B_w7a : Hid (Below w7a.heap.size w7a w12) := below_on2 B_w7a.out hb
  have B_w7 : Hid (Below w7.heap.size w7 w12) := below_on2 B_w7.out hb
  have B_wf : Hid (Below wf.heap.size wf w12) := below_on2 B_wf.out hb
  have B_w8 : Hid (Below w8.heap.size w8 w12) := below_on2 B_w8.out hb
  have B_wg : Hid (Below wg.heap.size wg w12) := below_on2 B_wg.out hb
  have B_w10 : Hid (Below w10.heap.size w10 w12) := below_on2 B_w10.out hb
  have B_w10q : Hid (Below w10q.heap.size w10q w12) := below_on2 B_w10q.out hb
  have B_w11a : Hid (Below w11a.heap.size w11a w12) := below_on2 B_w11a.out hb
  have B_w11 : Hid (Below w11.heap.size w11 w12) := hb
  clear hb
  go_wp2_with fail
  have RI13 : Hid (Row (World.alloc w12 (.cells #[.int .i64 0, .int .i64 1, .int .i64 0] 3)) (w12.heap.size) 3 [.int .i64 0, .int .i64 1, .int .i64 0]) := by
    have h0 := Row.new w12 3 [.int .i64 0, .int .i64 1, .int .i64 0]
    try simp only [World.size_alloc] at h0
    exact h0
  have hgr9 : Below w12.heap.size w12 (World.alloc w12 (.cells #[.int .i64 0, .int .i64 1, .int .i64 0] 3)) := by go_grown
  have B_w : Hid (Below w.heap.size w (World.alloc w12 (.cells #[.int .i64 0, .int .i64 1, .int .i64 0] 3))) := below_on2 B_w.out hgr9
  have B_wa : Hid (Below wa.heap.size wa (World.alloc w12 (.cells #[.int .i64 0, .int .i64 1, .int .i64 0] 3))) := below_on2 B_wa.out hgr9
  have B_w1 : Hid (Below w1.heap.size w1 (World.alloc w12 (.cells #[.int .i64 0, .int .i64 1, .int .i64 0] 3))) := below_on2 B_w1.out hgr9
  have B_wb : Hid (Below wb.heap.size wb (World.alloc w12 (.cells #[.int .i64 0, .int .i64 1, .int .i64 0] 3))) := below_on2 B_wb.out hgr9
  have B_w2 : Hid (Below w2.heap.size w2 (World.alloc w12 (.cells #[.int .i64 0, .int .i64 1, .int .i64 0] 3))) := below_on2 B_w2.out hgr9
  have B_w4 : Hid (Below w4.heap.size w4 (World.alloc w12 (.cells #[.int .i64 0, .int .i64 1, .int .i64 0] 3))) := below_on2 B_w4.out hgr9
  have B_wd : Hid (Below wd.heap.size wd (World.alloc w12 (.cells #[.int .i64 0, .int .i64 1, .int .i64 0] 3))) := below_on2 B_wd.out hgr9
  have B_w5 : Hid (Below w5.heap.size w5 (World.alloc w12 (.cells #[.int .i64 0, .int .i64 1, .int .i64 0] 3))) := below_on2 B_w5.out hgr9
  have B_we : Hid (Below we.heap.size we (World.alloc w12 (.cells #[.int .i64 0, .int .i64 1, .int .i64 0] 3))) := below_on2 B_we.out hgr9
  have B_weq : Hid (Below weq.heap.size weq (World.alloc w12 (.cells #[.int .i64 0, .int .i64 1, .int .i64 0] 3))) := below_on2 B_weq.out hgr9
  have B_w6a : Hid (Below w6a.heap.size w6a (World.alloc w12 (.cells #[.int .i64 0, .int .i64 1, .int .i64 0] 3))) := below_on2 B_w6a.out hgr9
  have B_w6 : Hid (Below w6.heap.size w6 (World.alloc w12 (.cells #[.int .i64 0, .int .i64 1, .int .i64 0] 3))) := below_on2 B_w6.out hgr9
  have B_w6q : Hid (Below w6q.heap.size w6q (World.alloc w12 (.cells #[.int .i64 0, .int .i64 1, .int .i64 0] 3))) := below_on2 B_w6q.out hgr9
  have B_w7a : Hid (Below w7a.heap.size w7a (World.alloc w12 (.cells #[.int .i64 0, .int .i64 1, .int .i64 0] 3))) := below_on2 B_w7a.out hgr9
  have B_w7 : Hid (Below w7.heap.size w7 (World.alloc w12 (.cells #[.int .i64 0, .int .i64 1, .int .i64 0] 3))) := below_on2 B_w7.out hgr9
  have B_wf : Hid (Below wf.heap.size wf (World.alloc w12 (.cells #[.int .i64 0, .int .i64 1, .int .i64 0] 3))) := below_on2 B_wf.out hgr9
  have B_w8 : Hid (Below w8.heap.size w8 (World.alloc w12 (.cells #[.int .i64 0, .int .i64 1, .int .i64 0] 3))) := below_on2 B_w8.out hgr9
  have B_wg : Hid (Below wg.heap.size wg (World.alloc w12 (.cells #[.int .i64 0, .int .i64 1, .int .i64 0] 3))) := below_on2 B_wg.out hgr9
  have B_w10 : Hid (Below w10.heap.size w10 (World.alloc w12 (.cells #[.int .i64 0, .int .i64 1, .int .i64 0] 3))) := below_on2 B_w10.out hgr9
  have B_w10q : Hid (Below w10q.heap.size w10q (World.alloc w12 (.cells #[.int .i64 0, .int .i64 1, .int .i64 0] 3))) := below_on2 B_w10q.out hgr9
  have B_w11a : Hid (Below w11a.heap.size w11a (World.alloc w12 (.cells #[.int .i64 0, .int .i64 1, .int .i64 0] 3))) := below_on2 B_w11a.out hgr9
  have B_w11 : Hid (Below w11.heap.size w11 (World.alloc w12 (.cells #[.int .i64 0, .int .i64 1, .int .i64 0] 3))) := below_on2 B_w11.out hgr9
  have B_w12 : Hid (Below w12.heap.size w12 (World.alloc w12 (.cells #[.int .i64 0, .int .i64 1, .int .i64 0] 3))) := hgr9
  clear hgr9
  revert RI13 B_w B_wa B_w1 B_wb B_w2 B_w4 B_wd B_w5 B_we B_weq B_w6a B_w6 B_w6q B_w7a B_w7 B_wf B_w8 B_wg B_w10 B_w10q B_w11a B_w11 B_w12
  generalize (World.alloc w12 (.cells #[.int .i64 0, .int .i64 1, .int .i64 0] 3)) = wh
  intro RI13 B_w B_wa B_w1 B_wb B_w2 B_w4 B_wd B_w5 B_we B_weq B_w6a B_w6 B_w6q B_w7a B_w7 B_wf B_w8 B_wg B_w10 B_w10q B_w11a B_w11 B_w12
  refine (rowN_any [0, 1, 0] (some ⟨w12.heap.size, 0, none⟩) 3 3 wh (RI13.out.rd rfl) (by omega)).mono ?_
  rintro e w13 ⟨he, hga, hb⟩
  have he2 : e = .returned (.agg #[.int .i64 3, .int .i64 1, .int .i64 0, .slice (some ⟨w12.heap.size, 0, none⟩) 3 3]) := he
  subst he2
  have HG13 : Hid (GAt w13 ⟨3, 1, 0, [0, 1, 0]⟩ (some ⟨w12.heap.size, 0, none⟩) 3) := hga
  clear he hga
  have B_w : Hid (Below w.heap.size w w13) := below_on2 B_w.out hb
  have B_wa : Hid (Below wa.heap.size wa w13) := below_on2 B_wa.out hb
  have B_w1 : Hid (Below w1.heap.size w1 w13) := below_on2 B_w1.out hb
  have B_wb : Hid (Below wb.heap.size wb w13) := below_on2 B_wb.out hb
  have B_w2 : Hid (Below w2.heap.size w2 w13) := below_on2 B_w2.out hb
  have B_w4 : Hid (Below w4.heap.size w4 w13) := below_on2 B_w4.out hb
  have B_wd : Hid (Below wd.heap.size wd w13) := below_on2 B_wd.out hb
  have B_w5 : Hid (Below w5.heap.size w5 w13) := below_on2 B_w5.out hb
  have B_we : Hid (Below we.heap.size we w13) := below_on2 B_we.out hb
  have B_weq : Hid (Below weq.heap.size weq w13) := below_on2 B_weq.out hb
  have B_w6a : Hid (Below w6a.heap.size w6a w13) := below_on2 B_w6a.out hb
  have B_w6 : Hid (Below w6.heap.size w6 w13) := below_on2 B_w6.out hb
  have B_w6q : Hid (Below w6q.heap.size w6q w13) := below_on2 B_w6q.out hb
  have B_w7a : Hid (Below w7a.heap.size w7a w13) := below_on2 B_w7a.out hb
  have B_w7 : Hid (Below w7.heap.size w7 w13) := below_on2 B_w7.out hb
  have B_wf : Hid (Below wf.heap.size wf w13) := below_on2 B_wf.out hb
  have B_w8 : Hid (Below w8.heap.size w8 w13) := below_on2 B_w8.out hb
  have B_wg : Hid (Below wg.heap.size wg w13) := below_on2 B_wg.out hb
  have B_w10 : Hid (Below w10.heap.size w10 w13) := below_on2 B_w10.out hb
  have B_w10q : Hid (Below w10q.heap.size w10q w13) := below_on2 B_w10q.out hb
  have B_w11a : Hid (Below w11a.heap.size w11a w13) := below_on2 B_w11a.out hb
  have B_w11 : Hid (Below w11.heap.size w11 w13) := below_on2 B_w11.out hb
  have B_w12 : Hid (Below w12.heap.size w12 w13) := below_on2 B_w12.out hb
  have B_wh : Hid (Below wh.heap.size wh w13) := hb
  clear hb
  go_wp2_with fail
  have HC := gGard_any awT awM LH12 LN12 (some ⟨w12.heap.size, 0, none⟩) 2 lhc12 3 lnc12 3 3 lsl12 w13 (HLT12.out.up B_w12.out) HG13.out
  rw [aw_gard.2.2.2, aw_gard.2.2.1] at HC
  refine HC.mono ?_
  clear HC
  rintro e w14 ⟨rfl, hb⟩
  have B_w : Hid (Below w.heap.size w w14) := below_on2 B_w.out hb
  have B_wa : Hid (Below wa.heap.size wa w14) := below_on2 B_wa.out hb
  have B_w1 : Hid (Below w1.heap.size w1 w14) := below_on2 B_w1.out hb
  have B_wb : Hid (Below wb.heap.size wb w14) := below_on2 B_wb.out hb
  have B_w2 : Hid (Below w2.heap.size w2 w14) := below_on2 B_w2.out hb
  have B_w4 : Hid (Below w4.heap.size w4 w14) := below_on2 B_w4.out hb
  have B_wd : Hid (Below wd.heap.size wd w14) := below_on2 B_wd.out hb
  have B_w5 : Hid (Below w5.heap.size w5 w14) := below_on2 B_w5.out hb
  have B_we : Hid (Below we.heap.size we w14) := below_on2 B_we.out hb
  have B_weq : Hid (Below weq.heap.size weq w14) := below_on2 B_weq.out hb
  have B_w6a : Hid (Below w6a.heap.size w6a w14) := below_on2 B_w6a.out hb
  have B_w6 : Hid (Below w6.heap.size w6 w14) := below_on2 B_w6.out hb
  have B_w6q : Hid (Below w6q.heap.size w6q w14) := below_on2 B_w6q.out hb
  have B_w7a : Hid (Below w7a.heap.size w7a w14) := below_on2 B_w7a.out hb
  have B_w7 : Hid (Below w7.heap.size w7 w14) := below_on2 B_w7.out hb
  have B_wf : Hid (Below wf.heap.size wf w14) := below_on2 B_wf.out hb
  have B_w8 : Hid (Below w8.heap.size w8 w14) := below_on2 B_w8.out hb
  have B_wg : Hid (Below wg.heap.size wg w14) := below_on2 B_wg.out hb
  have B_w10 : Hid (Below w10.heap.size w10 w14) := below_on2 B_w10.out hb
  have B_w10q : Hid (Below w10q.heap.size w10q w14) := below_on2 B_w10q.out hb
  have B_w11a : Hid (Below w11a.heap.size w11a w14) := below_on2 B_w11a.out hb
  have B_w11 : Hid (Below w11.heap.size w11 w14) := below_on2 B_w11.out hb
  have B_w12 : Hid (Below w12.heap.size w12 w14) := below_on2 B_w12.out hb
  have B_wh : Hid (Below wh.heap.size wh w14) := below_on2 B_wh.out hb
  have B_w13 : Hid (Below w13.heap.size w13 w14) := hb
  clear hb
  go_upto_region 13 with fail
  have HR14 : Rd w14 w14.heap.size 1 A10 3 (ints [1, 1, 0]) := (HG10.out.up B_w10.out).cells
  obtain ⟨ad, rfl, hab, hx0⟩ := HR14.int (k := 0) (by omega)
  obtain ⟨_, e1, _, hx1⟩ := HR14.int (k := 1) (by omega)
  cases e1
  obtain ⟨_, e1, _, hx2⟩ := HR14.int (k := 2) (by omega)
  cases e1
  have HX : Hid (∀ W9, Below w14.heap.size w14 W9 → W9.cell? ad = some (.int .i64 1) ∧ W9.cell? ⟨ad.block, ad.off + 1, none⟩ = some (.int .i64 1) ∧ W9.cell? ⟨ad.block, ad.off + 2, none⟩ = some (.int .i64 0)) := by
    intro W9 h9
    have q0 := (h9.cell (p := ad.add 0) (by rw [add_block]; exact hab)).trans hx0
    have q1 := (h9.cell (p := ad.add 1) (by rw [add_block]; exact hab)).trans hx1
    have q2 := (h9.cell (p := ad.add 2) (by rw [add_block]; exact hab)).trans hx2
    exact ⟨by rw [add_nilA] at q0; exact q0, q1, q2⟩
  clear HR14 hx0 hx1 hx2 hab
  (try simp only [List.append_eq, List.cons_append, List.nil_append])
  refine wp_region_L (fun w' => Row w' (b2) 28 [.int .i64 3, .int .i64 1, .int .i64 0, .slice A2 3 c2] ∧ Row w' (b4) 28 [.int .i64 3, .int .i64 1, .int .i64 0, .slice A4 3 c4] ∧ Row w' (b10) 28 [.int .i64 3, .int .i64 1, .int .i64 2, .slice (some ad) 3 c10] ∧ w'.cell? ad = some (.int .i64 1) ∧ w'.cell? ⟨ad.block, ad.off + 1, none⟩ = some (.int .i64 1) ∧ w'.cell? ⟨ad.block, ad.off + 2, none⟩ = some (.int .i64 0)) [] (by as_aux_lemma => kernel_rfl) (by exact ⟨Row.drew (rowCells R2.out B_w2.out), Row.drew (rowCells R4.out B_w4.out), Row.drew (rowCells R10.out B_w10.out), (HX.out _ (Below.refl _ _)).1, (HX.out _ (Below.refl _ _)).2.1, (HX.out _ (Below.refl _ _)).2.2⟩) (fun hHeld => ?_)
  have B_w : Hid (Below w.heap.size w (World.drew w14)) := B_w.out.drew
  have B_wa : Hid (Below wa.heap.size wa (World.drew w14)) := B_wa.out.drew
  have B_w1 : Hid (Below w1.heap.size w1 (World.drew w14)) := B_w1.out.drew
  have B_wb : Hid (Below wb.heap.size wb (World.drew w14)) := B_wb.out.drew
  have B_w2 : Hid (Below w2.heap.size w2 (World.drew w14)) := B_w2.out.drew
  have B_w4 : Hid (Below w4.heap.size w4 (World.drew w14)) := B_w4.out.drew
  have B_wd : Hid (Below wd.heap.size wd (World.drew w14)) := B_wd.out.drew
  have B_w5 : Hid (Below w5.heap.size w5 (World.drew w14)) := B_w5.out.drew
  have B_we : Hid (Below we.heap.size we (World.drew w14)) := B_we.out.drew
  have B_weq : Hid (Below weq.heap.size weq (World.drew w14)) := B_weq.out.drew
  have B_w6a : Hid (Below w6a.heap.size w6a (World.drew w14)) := B_w6a.out.drew
  have B_w6 : Hid (Below w6.heap.size w6 (World.drew w14)) := B_w6.out.drew
  have B_w6q : Hid (Below w6q.heap.size w6q (World.drew w14)) := B_w6q.out.drew
  have B_w7a : Hid (Below w7a.heap.size w7a (World.drew w14)) := B_w7a.out.drew
  have B_w7 : Hid (Below w7.heap.size w7 (World.drew w14)) := B_w7.out.drew
  have B_wf : Hid (Below wf.heap.size wf (World.drew w14)) := B_wf.out.drew
  have B_w8 : Hid (Below w8.heap.size w8 (World.drew w14)) := B_w8.out.drew
  have B_wg : Hid (Below wg.heap.size wg (World.drew w14)) := B_wg.out.drew
  have B_w10 : Hid (Below w10.heap.size w10 (World.drew w14)) := B_w10.out.drew
  have B_w10q : Hid (Below w10q.heap.size w10q (World.drew w14)) := B_w10q.out.drew
  have B_w11a : Hid (Below w11a.heap.size w11a (World.drew w14)) := B_w11a.out.drew
  have B_w11 : Hid (Below w11.heap.size w11 (World.drew w14)) := B_w11.out.drew
  have B_w12 : Hid (Below w12.heap.size w12 (World.drew w14)) := B_w12.out.drew
  have B_wh : Hid (Below wh.heap.size wh (World.drew w14)) := B_wh.out.drew
  have B_w13 : Hid (Below w13.heap.size w13 (World.drew w14)) := B_w13.out.drew
  have B_w14 : Hid (Below w14.heap.size w14 (World.drew w14)) := (Below.refl _ _).drew
  revert hHeld B_w B_wa B_w1 B_wb B_w2 B_w4 B_wd B_w5 B_we B_weq B_w6a B_w6 B_w6q B_w7a B_w7 B_wf B_w8 B_wg B_w10 B_w10q B_w11a B_w11 B_w12 B_wh B_w13 B_w14
  generalize World.drew w14 = w14q
  intro hHeld B_w B_wa B_w1 B_wb B_w2 B_w4 B_wd B_w5 B_we B_weq B_w6a B_w6 B_w6q B_w7a B_w7 B_wf B_w8 B_wg B_w10 B_w10q B_w11a B_w11 B_w12 B_wh B_w13 B_w14
  refine restL_pure (i := 0) (v := ?vg1) rfl (by as_aux_lemma => kernel_rfl) (by as_aux_lemma => kernel_rfl) (by as_aux_lemma => kernel_rfl) (fun _ _ _ h => h) (Or.inl ⟨by rfl, ?yg1⟩) ?rg1
  case yg1 => intro w' hSw; clear hSw; go_simp; try (with_reducible rfl)
  go_simp
  refine restL_pure (i := 1) (v := ?vg2) rfl (by as_aux_lemma => kernel_rfl) (by as_aux_lemma => kernel_rfl) (by as_aux_lemma => kernel_rfl) (fun _ _ _ h => h) (Or.inl ⟨by rfl, ?yg2⟩) ?rg2
  case yg2 => intro w' hSw; clear hSw; go_simp; try (with_reducible rfl)
  go_simp
  refine restL_pure (i := 2) (v := ?vg3) rfl (by as_aux_lemma => kernel_rfl) (by as_aux_lemma => kernel_rfl) (by as_aux_lemma => kernel_rfl) (fun _ _ _ h => h) (Or.inl ⟨by rfl, ?yg3⟩) ?rg3
  case yg3 => intro w' hSw; clear hSw; go_simp; try (with_reducible rfl)
  go_simp
  refine restL_take (i := 3) (v := ?vg4) [] rfl (by as_aux_lemma => kernel_rfl) (by as_aux_lemma => kernel_rfl) (by as_aux_lemma => kernel_rfl) (by as_aux_lemma => kernel_rfl) (fun _ _ _ h => h) (Or.inl ⟨by first | rfl | (go_simp; done), ?yg4⟩) hHeld ?rg4
  case yg4 =>
    intro w' hSw
    obtain ⟨hS0, hS1, hS2, hF0, hF1, hF2⟩ := hSw
    have hT0 : Hid (Row w' (b2) 28 [.int .i64 3, .int .i64 1, .int .i64 0, .slice A2 3 c2]) := hS0
    clear hS0
    have z0_0 := hT0.out.cell 0
    have z0_1 := hT0.out.cell 1
    have z0_2 := hT0.out.cell 2
    have z0_3 := hT0.out.cell 3
    have z0_l := hT0.out.lt
    simp only [List.getElem?_cons_zero, List.getElem?_cons_succ] at z0_0 z0_1 z0_2 z0_3
    have hT1 : Hid (Row w' (b4) 28 [.int .i64 3, .int .i64 1, .int .i64 0, .slice A4 3 c4]) := hS1
    clear hS1
    have z1_0 := hT1.out.cell 0
    have z1_1 := hT1.out.cell 1
    have z1_2 := hT1.out.cell 2
    have z1_3 := hT1.out.cell 3
    have z1_l := hT1.out.lt
    simp only [List.getElem?_cons_zero, List.getElem?_cons_succ] at z1_0 z1_1 z1_2 z1_3
    have hT2 : Hid (Row w' (b10) 28 [.int .i64 3, .int .i64 1, .int .i64 2, .slice (some ad) 3 c10]) := hS2
    clear hS2
    have z2_0 := hT2.out.cell 0
    have z2_1 := hT2.out.cell 1
    have z2_2 := hT2.out.cell 2
    have z2_3 := hT2.out.cell 3
    have z2_l := hT2.out.lt
    simp only [List.getElem?_cons_zero, List.getElem?_cons_succ] at z2_0 z2_1 z2_2 z2_3
    go_simp
    try (with_reducible rfl)
  go_simp
  refine restL_one (i := 4) (by as_aux_lemma => kernel_rfl) rfl (fun K hK => ?_)
  go_simp
  have hb : Below w14q.heap.size w14q (World.alloc w14q (.cells #[.int .i64 0, .int .i64 1, .int .i64 0] 3)) := (Below.refl _ _).alloc (Nat.le_refl _) _
  have RI15 : Hid (Row (World.alloc w14q (.cells #[.int .i64 0, .int .i64 1, .int .i64 0] 3)) w14q.heap.size 3 [.int .i64 0, .int .i64 1, .int .i64 0]) := Row.new w14q 3 [.int .i64 0, .int .i64 1, .int .i64 0]
  revert hb RI15
  generalize (World.alloc w14q (.cells #[.int .i64 0, .int .i64 1, .int .i64 0] 3)) = wi
  intro hb RI15
  have B_w : Hid (Below w.heap.size w wi) := below_on2 B_w.out hb
  have B_wa : Hid (Below wa.heap.size wa wi) := below_on2 B_wa.out hb
  have B_w1 : Hid (Below w1.heap.size w1 wi) := below_on2 B_w1.out hb
  have B_wb : Hid (Below wb.heap.size wb wi) := below_on2 B_wb.out hb
  have B_w2 : Hid (Below w2.heap.size w2 wi) := below_on2 B_w2.out hb
  have B_w4 : Hid (Below w4.heap.size w4 wi) := below_on2 B_w4.out hb
  have B_wd : Hid (Below wd.heap.size wd wi) := below_on2 B_wd.out hb
  have B_w5 : Hid (Below w5.heap.size w5 wi) := below_on2 B_w5.out hb
  have B_we : Hid (Below we.heap.size we wi) := below_on2 B_we.out hb
  have B_weq : Hid (Below weq.heap.size weq wi) := below_on2 B_weq.out hb
  have B_w6a : Hid (Below w6a.heap.size w6a wi) := below_on2 B_w6a.out hb
  have B_w6 : Hid (Below w6.heap.size w6 wi) := below_on2 B_w6.out hb
  have B_w6q : Hid (Below w6q.heap.size w6q wi) := below_on2 B_w6q.out hb
  have B_w7a : Hid (Below w7a.heap.size w7a wi) := below_on2 B_w7a.out hb
  have B_w7 : Hid (Below w7.heap.size w7 wi) := below_on2 B_w7.out hb
  have B_wf : Hid (Below wf.heap.size wf wi) := below_on2 B_wf.out hb
  have B_w8 : Hid (Below w8.heap.size w8 wi) := below_on2 B_w8.out hb
  have B_wg : Hid (Below wg.heap.size wg wi) := below_on2 B_wg.out hb
  have B_w10 : Hid (Below w10.heap.size w10 wi) := below_on2 B_w10.out hb
  have B_w10q : Hid (Below w10q.heap.size w10q wi) := below_on2 B_w10q.out hb
  have B_w11a : Hid (Below w11a.heap.size w11a wi) := below_on2 B_w11a.out hb
  have B_w11 : Hid (Below w11.heap.size w11 wi) := below_on2 B_w11.out hb
  have B_w12 : Hid (Below w12.heap.size w12 wi) := below_on2 B_w12.out hb
  have B_wh : Hid (Below wh.heap.size wh wi) := below_on2 B_wh.out hb
  have B_w13 : Hid (Below w13.heap.size w13 wi) := below_on2 B_w13.out hb
  have B_w14 : Hid (Below w14.heap.size w14 wi) := below_on2 B_w14.out hb
  have B_w14q : Hid (Below w14q.heap.size w14q wi) := hb
  clear hb
  clear hHeld
  refine hK.out _ _ (fun _ => ?keep) (fun hHeld => ?_)
  case keep => exact ⟨(rowCells R2.out B_w2.out), (rowCells R4.out B_w4.out), (rowCells R10.out B_w10.out), (HX.out _ B_w14.out).1, (HX.out _ B_w14.out).2.1, (HX.out _ B_w14.out).2.2⟩
  have hHeld := hHeld rfl
  clear hK K
  try go_simp
  refine restL_one (i := 5) (by as_aux_lemma => kernel_rfl) rfl (fun K hK => ?_)
  go_simp
  go_at_call 22
  refine (rowN_any [0, 1, 0] (some ⟨w14q.heap.size, 0, none⟩) 3 3 wi (RI15.out.rd rfl) (by omega)).mono ?_
  rintro e w15 ⟨he, hga, hb⟩
  have he2 : e = .returned (.agg #[.int .i64 3, .int .i64 1, .int .i64 0, .slice (some ⟨w14q.heap.size, 0, none⟩) 3 3]) := he
  subst he2
  have HG15 : Hid (GAt w15 ⟨3, 1, 0, [0, 1, 0]⟩ (some ⟨w14q.heap.size, 0, none⟩) 3) := hga
  clear he hga
  have B_w : Hid (Below w.heap.size w w15) := below_on2 B_w.out hb
  have B_wa : Hid (Below wa.heap.size wa w15) := below_on2 B_wa.out hb
  have B_w1 : Hid (Below w1.heap.size w1 w15) := below_on2 B_w1.out hb
  have B_wb : Hid (Below wb.heap.size wb w15) := below_on2 B_wb.out hb
  have B_w2 : Hid (Below w2.heap.size w2 w15) := below_on2 B_w2.out hb
  have B_w4 : Hid (Below w4.heap.size w4 w15) := below_on2 B_w4.out hb
  have B_wd : Hid (Below wd.heap.size wd w15) := below_on2 B_wd.out hb
  have B_w5 : Hid (Below w5.heap.size w5 w15) := below_on2 B_w5.out hb
  have B_we : Hid (Below we.heap.size we w15) := below_on2 B_we.out hb
  have B_weq : Hid (Below weq.heap.size weq w15) := below_on2 B_weq.out hb
  have B_w6a : Hid (Below w6a.heap.size w6a w15) := below_on2 B_w6a.out hb
  have B_w6 : Hid (Below w6.heap.size w6 w15) := below_on2 B_w6.out hb
  have B_w6q : Hid (Below w6q.heap.size w6q w15) := below_on2 B_w6q.out hb
  have B_w7a : Hid (Below w7a.heap.size w7a w15) := below_on2 B_w7a.out hb
  have B_w7 : Hid (Below w7.heap.size w7 w15) := below_on2 B_w7.out hb
  have B_wf : Hid (Below wf.heap.size wf w15) := below_on2 B_wf.out hb
  have B_w8 : Hid (Below w8.heap.size w8 w15) := below_on2 B_w8.out hb
  have B_wg : Hid (Below wg.heap.size wg w15) := below_on2 B_wg.out hb
  have B_w10 : Hid (Below w10.heap.size w10 w15) := below_on2 B_w10.out hb
  have B_w10q : Hid (Below w10q.heap.size w10q w15) := below_on2 B_w10q.out hb
  have B_w11a : Hid (Below w11a.heap.size w11a w15) := below_on2 B_w11a.out hb
  have B_w11 : Hid (Below w11.heap.size w11 w15) := below_on2 B_w11.out hb
  have B_w12 : Hid (Below w12.heap.size w12 w15) := below_on2 B_w12.out hb
  have B_wh : Hid (Below wh.heap.size wh w15) := below_on2 B_wh.out hb
  have B_w13 : Hid (Below w13.heap.size w13 w15) := below_on2 B_w13.out hb
  have B_w14 : Hid (Below w14.heap.size w14 w15) := below_on2 B_w14.out hb
  have B_w14q : Hid (Below w14q.heap.size w14q w15) := below_on2 B_w14q.out hb
  have B_wi : Hid (Below wi.heap.size wi w15) := hb
  clear hb
  clear hHeld
  refine hK.out _ _ (fun _ => ?keep) (fun hHeld => ?_)
  case keep => exact ⟨(rowCells R2.out B_w2.out), (rowCells R4.out B_w4.out), (rowCells R10.out B_w10.out), (HX.out _ B_w14.out).1, (HX.out _ B_w14.out).2.1, (HX.out _ B_w14.out).2.2⟩
  have hHeld := hHeld rfl
  clear hK K
  try go_simp
  refine restL_one (i := 6) (by as_aux_lemma => kernel_rfl) rfl (fun K hK => ?_)
  go_simp
  go_at_call 13
  have HC := rGSame_any awM awM A2 (some ⟨w14q.heap.size, 0, none⟩) 3 c2 3 3 w15 (HG2.out.up B_w2.out) HG15.out
  rw [(sameG_iff awM awM).2 rfl] at HC
  refine HC.mono ?_
  clear HC
  rintro e w16 ⟨rfl, hb⟩
  have B_w : Hid (Below w.heap.size w w16) := below_on2 B_w.out hb
  have B_wa : Hid (Below wa.heap.size wa w16) := below_on2 B_wa.out hb
  have B_w1 : Hid (Below w1.heap.size w1 w16) := below_on2 B_w1.out hb
  have B_wb : Hid (Below wb.heap.size wb w16) := below_on2 B_wb.out hb
  have B_w2 : Hid (Below w2.heap.size w2 w16) := below_on2 B_w2.out hb
  have B_w4 : Hid (Below w4.heap.size w4 w16) := below_on2 B_w4.out hb
  have B_wd : Hid (Below wd.heap.size wd w16) := below_on2 B_wd.out hb
  have B_w5 : Hid (Below w5.heap.size w5 w16) := below_on2 B_w5.out hb
  have B_we : Hid (Below we.heap.size we w16) := below_on2 B_we.out hb
  have B_weq : Hid (Below weq.heap.size weq w16) := below_on2 B_weq.out hb
  have B_w6a : Hid (Below w6a.heap.size w6a w16) := below_on2 B_w6a.out hb
  have B_w6 : Hid (Below w6.heap.size w6 w16) := below_on2 B_w6.out hb
  have B_w6q : Hid (Below w6q.heap.size w6q w16) := below_on2 B_w6q.out hb
  have B_w7a : Hid (Below w7a.heap.size w7a w16) := below_on2 B_w7a.out hb
  have B_w7 : Hid (Below w7.heap.size w7 w16) := below_on2 B_w7.out hb
  have B_wf : Hid (Below wf.heap.size wf w16) := below_on2 B_wf.out hb
  have B_w8 : Hid (Below w8.heap.size w8 w16) := below_on2 B_w8.out hb
  have B_wg : Hid (Below wg.heap.size wg w16) := below_on2 B_wg.out hb
  have B_w10 : Hid (Below w10.heap.size w10 w16) := below_on2 B_w10.out hb
  have B_w10q : Hid (Below w10q.heap.size w10q w16) := below_on2 B_w10q.out hb
  have B_w11a : Hid (Below w11a.heap.size w11a w16) := below_on2 B_w11a.out hb
  have B_w11 : Hid (Below w11.heap.size w11 w16) := below_on2 B_w11.out hb
  have B_w12 : Hid (Below w12.heap.size w12 w16) := below_on2 B_w12.out hb
  have B_wh : Hid (Below wh.heap.size wh w16) := below_on2 B_wh.out hb
  have B_w13 : Hid (Below w13.heap.size w13 w16) := below_on2 B_w13.out hb
  have B_w14 : Hid (Below w14.heap.size w14 w16) := below_on2 B_w14.out hb
  have B_w14q : Hid (Below w14q.heap.size w14q w16) := below_on2 B_w14q.out hb
  have B_wi : Hid (Below wi.heap.size wi w16) := below_on2 B_wi.out hb
  have B_w15 : Hid (Below w15.heap.size w15 w16) := hb
  clear hb
  clear hHeld
  refine hK.out _ _ (fun _ => ?keep) (fun hHeld => ?_)
  case keep => exact ⟨(rowCells R2.out B_w2.out), (rowCells R4.out B_w4.out), (rowCells R10.out B_w10.out), (HX.out _ B_w14.out).1, (HX.out _ B_w14.out).2.1, (HX.out _ B_w14.out).2.2⟩
  have hHeld := hHeld rfl
  clear hK K
  try go_simp
  refine restL_pure (i := 7) (v := ?vg5) rfl (by as_aux_lemma => kernel_rfl) (by as_aux_lemma => kernel_rfl) (by as_aux_lemma => kernel_rfl) (fun _ _ _ h => h) (Or.inl ⟨by rfl, ?yg5⟩) ?rg5
  case yg5 => intro w' hSw; clear hSw; go_simp; try (with_reducible rfl)
  go_simp
  refine restL_pure (i := 8) (v := ?vg6) rfl (by as_aux_lemma => kernel_rfl) (by as_aux_lemma => kernel_rfl) (by as_aux_lemma => kernel_rfl) (fun _ _ _ h => h) (Or.inl ⟨by rfl, ?yg6⟩) ?rg6
  case yg6 => intro w' hSw; clear hSw; go_simp; try (with_reducible rfl)
  go_simp
  refine restL_pure (i := 9) (v := ?vg7) rfl (by as_aux_lemma => kernel_rfl) (by as_aux_lemma => kernel_rfl) (by as_aux_lemma => kernel_rfl) (fun _ _ _ h => h) (Or.inl ⟨by first | rfl | (go_simp; done), ?yg7⟩) ?rg7
  case yg7 => intro w' hSw; clear hSw; go_simp; try (with_reducible rfl)
  go_simp
  refine restL_pure (i := 10) (v := ?vg8) rfl (by as_aux_lemma => kernel_rfl) (by as_aux_lemma => kernel_rfl) (by as_aux_lemma => kernel_rfl) (fun _ _ _ h => h) (Or.inl ⟨by first | rfl | (go_simp; done), ?yg8⟩) ?rg8
  case yg8 => intro w' hSw; clear hSw; go_simp; try (with_reducible rfl)
  go_simp
  refine restL_pure (i := 11) (v := ?vg9) rfl (by as_aux_lemma => kernel_rfl) (by as_aux_lemma => kernel_rfl) (by as_aux_lemma => kernel_rfl) (fun _ _ _ h => h) (Or.inl ⟨by rfl, ?yg9⟩) ?rg9
  case yg9 => intro w' hSw; clear hSw; go_simp; try (with_reducible rfl)
  go_simp
  refine restL_pure (i := 12) (v := ?vg10) rfl (by as_aux_lemma => kernel_rfl) (by as_aux_lemma => kernel_rfl) (by as_aux_lemma => kernel_rfl) (fun _ _ _ h => h) (Or.inl ⟨by rfl, ?yg10⟩) ?rg10
  case yg10 => intro w' hSw; clear hSw; go_simp; try (with_reducible rfl)
  go_simp
  refine restL_take (i := 13) (v := ?vg11) [] rfl (by as_aux_lemma => kernel_rfl) (by as_aux_lemma => kernel_rfl) (by as_aux_lemma => kernel_rfl) (by as_aux_lemma => kernel_rfl) (fun _ _ _ h => h) (Or.inl ⟨by first | rfl | (go_simp; done), ?yg11⟩) hHeld ?rg11
  case yg11 =>
    intro w' hSw
    obtain ⟨hS0, hS1, hS2, hF0, hF1, hF2⟩ := hSw
    have hT0 : Hid (Row w' (b2) 28 [.int .i64 3, .int .i64 1, .int .i64 0, .slice A2 3 c2]) := hS0
    clear hS0
    have z0_0 := hT0.out.cell 0
    have z0_1 := hT0.out.cell 1
    have z0_2 := hT0.out.cell 2
    have z0_3 := hT0.out.cell 3
    have z0_l := hT0.out.lt
    simp only [List.getElem?_cons_zero, List.getElem?_cons_succ] at z0_0 z0_1 z0_2 z0_3
    have hT1 : Hid (Row w' (b4) 28 [.int .i64 3, .int .i64 1, .int .i64 0, .slice A4 3 c4]) := hS1
    clear hS1
    have z1_0 := hT1.out.cell 0
    have z1_1 := hT1.out.cell 1
    have z1_2 := hT1.out.cell 2
    have z1_3 := hT1.out.cell 3
    have z1_l := hT1.out.lt
    simp only [List.getElem?_cons_zero, List.getElem?_cons_succ] at z1_0 z1_1 z1_2 z1_3
    have hT2 : Hid (Row w' (b10) 28 [.int .i64 3, .int .i64 1, .int .i64 2, .slice (some ad) 3 c10]) := hS2
    clear hS2
    have z2_0 := hT2.out.cell 0
    have z2_1 := hT2.out.cell 1
    have z2_2 := hT2.out.cell 2
    have z2_3 := hT2.out.cell 3
    have z2_l := hT2.out.lt
    simp only [List.getElem?_cons_zero, List.getElem?_cons_succ] at z2_0 z2_1 z2_2 z2_3
    go_simp
    try (with_reducible rfl)
  go_simp
  refine restL_one (i := 14) (by as_aux_lemma => kernel_rfl) rfl (fun K hK => ?_)
  go_simp
  have hb : Below w16.heap.size w16 (World.alloc w16 (.cells #[.int .i64 0, .int .i64 0, .int .i64 0] 3)) := (Below.refl _ _).alloc (Nat.le_refl _) _
  have RI17 : Hid (Row (World.alloc w16 (.cells #[.int .i64 0, .int .i64 0, .int .i64 0] 3)) w16.heap.size 3 [.int .i64 0, .int .i64 0, .int .i64 0]) := Row.new w16 3 [.int .i64 0, .int .i64 0, .int .i64 0]
  revert hb RI17
  generalize (World.alloc w16 (.cells #[.int .i64 0, .int .i64 0, .int .i64 0] 3)) = wj
  intro hb RI17
  have B_w : Hid (Below w.heap.size w wj) := below_on2 B_w.out hb
  have B_wa : Hid (Below wa.heap.size wa wj) := below_on2 B_wa.out hb
  have B_w1 : Hid (Below w1.heap.size w1 wj) := below_on2 B_w1.out hb
  have B_wb : Hid (Below wb.heap.size wb wj) := below_on2 B_wb.out hb
  have B_w2 : Hid (Below w2.heap.size w2 wj) := below_on2 B_w2.out hb
  have B_w4 : Hid (Below w4.heap.size w4 wj) := below_on2 B_w4.out hb
  have B_wd : Hid (Below wd.heap.size wd wj) := below_on2 B_wd.out hb
  have B_w5 : Hid (Below w5.heap.size w5 wj) := below_on2 B_w5.out hb
  have B_we : Hid (Below we.heap.size we wj) := below_on2 B_we.out hb
  have B_weq : Hid (Below weq.heap.size weq wj) := below_on2 B_weq.out hb
  have B_w6a : Hid (Below w6a.heap.size w6a wj) := below_on2 B_w6a.out hb
  have B_w6 : Hid (Below w6.heap.size w6 wj) := below_on2 B_w6.out hb
  have B_w6q : Hid (Below w6q.heap.size w6q wj) := below_on2 B_w6q.out hb
  have B_w7a : Hid (Below w7a.heap.size w7a wj) := below_on2 B_w7a.out hb
  have B_w7 : Hid (Below w7.heap.size w7 wj) := below_on2 B_w7.out hb
  have B_wf : Hid (Below wf.heap.size wf wj) := below_on2 B_wf.out hb
  have B_w8 : Hid (Below w8.heap.size w8 wj) := below_on2 B_w8.out hb
  have B_wg : Hid (Below wg.heap.size wg wj) := below_on2 B_wg.out hb
  have B_w10 : Hid (Below w10.heap.size w10 wj) := below_on2 B_w10.out hb
  have B_w10q : Hid (Below w10q.heap.size w10q wj) := below_on2 B_w10q.out hb
  have B_w11a : Hid (Below w11a.heap.size w11a wj) := below_on2 B_w11a.out hb
  have B_w11 : Hid (Below w11.heap.size w11 wj) := below_on2 B_w11.out hb
  have B_w12 : Hid (Below w12.heap.size w12 wj) := below_on2 B_w12.out hb
  have B_wh : Hid (Below wh.heap.size wh wj) := below_on2 B_wh.out hb
  have B_w13 : Hid (Below w13.heap.size w13 wj) := below_on2 B_w13.out hb
  have B_w14 : Hid (Below w14.heap.size w14 wj) := below_on2 B_w14.out hb
  have B_w14q : Hid (Below w14q.heap.size w14q wj) := below_on2 B_w14q.out hb
  have B_wi : Hid (Below wi.heap.size wi wj) := below_on2 B_wi.out hb
  have B_w15 : Hid (Below w15.heap.size w15 wj) := below_on2 B_w15.out hb
  have B_w16 : Hid (Below w16.heap.size w16 wj) := hb
  clear hb
  clear hHeld
  refine hK.out _ _ (fun _ => ?keep) (fun hHeld => ?_)
  case keep => exact ⟨(rowCells R2.out B_w2.out), (rowCells R4.out B_w4.out), (rowCells R10.out B_w10.out), (HX.out _ B_w14.out).1, (HX.out _ B_w14.out).2.1, (HX.out _ B_w14.out).2.2⟩
  have hHeld := hHeld rfl
  clear hK K
  try go_simp
  refine restL_one (i := 15) (by as_aux_lemma => kernel_rfl) rfl (fun K hK => ?_)
  go_simp
  go_at_call 22
  refine (rowN_any [0, 0, 0] (some ⟨w16.heap.size, 0, none⟩) 3 3 wj (RI17.out.rd rfl) (by omega)).mono ?_
  rintro e w17 ⟨he, hga, hb⟩
  have he2 : e = .returned (.agg #[.int .i64 3, .int .i64 1, .int .i64 0, .slice (some ⟨w16.heap.size, 0, none⟩) 3 3]) := he
  subst he2
  have HG17 : Hid (GAt w17 ⟨3, 1, 0, [0, 0, 0]⟩ (some ⟨w16.heap.size, 0, none⟩) 3) := hga
  clear he hga
  have B_w : Hid (Below w.heap.size w w17) := below_on2 B_w.out hb
  have B_wa : Hid (Below wa.heap.size wa w17) := below_on2 B_wa.out hb
  have B_w1 : Hid (Below w1.heap.size w1 w17) := below_on2 B_w1.out hb
  have B_wb : Hid (Below wb.heap.size wb w17) := below_on2 B_wb.out hb
  have B_w2 : Hid (Below w2.heap.size w2 w17) := below_on2 B_w2.out hb
  have B_w4 : Hid (Below w4.heap.size w4 w17) := below_on2 B_w4.out hb
  have B_wd : Hid (Below wd.heap.size wd w17) := below_on2 B_wd.out hb
  have B_w5 : Hid (Below w5.heap.size w5 w17) := below_on2 B_w5.out hb
  have B_we : Hid (Below we.heap.size we w17) := below_on2 B_we.out hb
  have B_weq : Hid (Below weq.heap.size weq w17) := below_on2 B_weq.out hb
  have B_w6a : Hid (Below w6a.heap.size w6a w17) := below_on2 B_w6a.out hb
  have B_w6 : Hid (Below w6.heap.size w6 w17) := below_on2 B_w6.out hb
  have B_w6q : Hid (Below w6q.heap.size w6q w17) := below_on2 B_w6q.out hb
  have B_w7a : Hid (Below w7a.heap.size w7a w17) := below_on2 B_w7a.out hb
  have B_w7 : Hid (Below w7.heap.size w7 w17) := below_on2 B_w7.out hb
  have B_wf : Hid (Below wf.heap.size wf w17) := below_on2 B_wf.out hb
  have B_w8 : Hid (Below w8.heap.size w8 w17) := below_on2 B_w8.out hb
  have B_wg : Hid (Below wg.heap.size wg w17) := below_on2 B_wg.out hb
  have B_w10 : Hid (Below w10.heap.size w10 w17) := below_on2 B_w10.out hb
  have B_w10q : Hid (Below w10q.heap.size w10q w17) := below_on2 B_w10q.out hb
  have B_w11a : Hid (Below w11a.heap.size w11a w17) := below_on2 B_w11a.out hb
  have B_w11 : Hid (Below w11.heap.size w11 w17) := below_on2 B_w11.out hb
  have B_w12 : Hid (Below w12.heap.size w12 w17) := below_on2 B_w12.out hb
  have B_wh : Hid (Below wh.heap.size wh w17) := below_on2 B_wh.out hb
  have B_w13 : Hid (Below w13.heap.size w13 w17) := below_on2 B_w13.out hb
  have B_w14 : Hid (Below w14.heap.size w14 w17) := below_on2 B_w14.out hb
  have B_w14q : Hid (Below w14q.heap.size w14q w17) := below_on2 B_w14q.out hb
  have B_wi : Hid (Below wi.heap.size wi w17) := below_on2 B_wi.out hb
  have B_w15 : Hid (Below w15.heap.size w15 w17) := below_on2 B_w15.out hb
  have B_w16 : Hid (Below w16.heap.size w16 w17) := below_on2 B_w16.out hb
  have B_wj : Hid (Below wj.heap.size wj w17) := hb
  clear hb
  clear hHeld
  refine hK.out _ _ (fun _ => ?keep) (fun hHeld => ?_)
  case keep => exact ⟨(rowCells R2.out B_w2.out), (rowCells R4.out B_w4.out), (rowCells R10.out B_w10.out), (HX.out _ B_w14.out).1, (HX.out _ B_w14.out).2.1, (HX.out _ B_w14.out).2.2⟩
  have hHeld := hHeld rfl
  clear hK K
  try go_simp
  refine restL_one (i := 16) (by as_aux_lemma => kernel_rfl) rfl (fun K hK => ?_)
  go_simp
  go_at_call 13
  have HC := rGSame_any awZ awZ A4 (some ⟨w16.heap.size, 0, none⟩) 3 c4 3 3 w17 (HG4.out.up B_w4.out) HG17.out
  rw [(sameG_iff awZ awZ).2 rfl] at HC
  refine HC.mono ?_
  clear HC
  rintro e w18 ⟨rfl, hb⟩
  have B_w : Hid (Below w.heap.size w w18) := below_on2 B_w.out hb
  have B_wa : Hid (Below wa.heap.size wa w18) := below_on2 B_wa.out hb
  have B_w1 : Hid (Below w1.heap.size w1 w18) := below_on2 B_w1.out hb
  have B_wb : Hid (Below wb.heap.size wb w18) := below_on2 B_wb.out hb
  have B_w2 : Hid (Below w2.heap.size w2 w18) := below_on2 B_w2.out hb
  have B_w4 : Hid (Below w4.heap.size w4 w18) := below_on2 B_w4.out hb
  have B_wd : Hid (Below wd.heap.size wd w18) := below_on2 B_wd.out hb
  have B_w5 : Hid (Below w5.heap.size w5 w18) := below_on2 B_w5.out hb
  have B_we : Hid (Below we.heap.size we w18) := below_on2 B_we.out hb
  have B_weq : Hid (Below weq.heap.size weq w18) := below_on2 B_weq.out hb
  have B_w6a : Hid (Below w6a.heap.size w6a w18) := below_on2 B_w6a.out hb
  have B_w6 : Hid (Below w6.heap.size w6 w18) := below_on2 B_w6.out hb
  have B_w6q : Hid (Below w6q.heap.size w6q w18) := below_on2 B_w6q.out hb
  have B_w7a : Hid (Below w7a.heap.size w7a w18) := below_on2 B_w7a.out hb
  have B_w7 : Hid (Below w7.heap.size w7 w18) := below_on2 B_w7.out hb
  have B_wf : Hid (Below wf.heap.size wf w18) := below_on2 B_wf.out hb
  have B_w8 : Hid (Below w8.heap.size w8 w18) := below_on2 B_w8.out hb
  have B_wg : Hid (Below wg.heap.size wg w18) := below_on2 B_wg.out hb
  have B_w10 : Hid (Below w10.heap.size w10 w18) := below_on2 B_w10.out hb
  have B_w10q : Hid (Below w10q.heap.size w10q w18) := below_on2 B_w10q.out hb
  have B_w11a : Hid (Below w11a.heap.size w11a w18) := below_on2 B_w11a.out hb
  have B_w11 : Hid (Below w11.heap.size w11 w18) := below_on2 B_w11.out hb
  have B_w12 : Hid (Below w12.heap.size w12 w18) := below_on2 B_w12.out hb
  have B_wh : Hid (Below wh.heap.size wh w18) := below_on2 B_wh.out hb
  have B_w13 : Hid (Below w13.heap.size w13 w18) := below_on2 B_w13.out hb
  have B_w14 : Hid (Below w14.heap.size w14 w18) := below_on2 B_w14.out hb
  have B_w14q : Hid (Below w14q.heap.size w14q w18) := below_on2 B_w14q.out hb
  have B_wi : Hid (Below wi.heap.size wi w18) := below_on2 B_wi.out hb
  have B_w15 : Hid (Below w15.heap.size w15 w18) := below_on2 B_w15.out hb
  have B_w16 : Hid (Below w16.heap.size w16 w18) := below_on2 B_w16.out hb
  have B_wj : Hid (Below wj.heap.size wj w18) := below_on2 B_wj.out hb
  have B_w17 : Hid (Below w17.heap.size w17 w18) := hb
  clear hb
  clear hHeld
  refine hK.out _ _ (fun _ => ?keep) (fun hHeld => ?_)
  case keep => exact ⟨(rowCells R2.out B_w2.out), (rowCells R4.out B_w4.out), (rowCells R10.out B_w10.out), (HX.out _ B_w14.out).1, (HX.out _ B_w14.out).2.1, (HX.out _ B_w14.out).2.2⟩
  have hHeld := hHeld rfl
  clear hK K
  try go_simp
  refine restL_pure (i := 17) (v := ?vg12) rfl (by as_aux_lemma => kernel_rfl) (by as_aux_lemma => kernel_rfl) (by as_aux_lemma => kernel_rfl) (fun _ _ _ h => h) (Or.inl ⟨by rfl, ?yg12⟩) ?rg12
  case yg12 => intro w' hSw; clear hSw; go_simp; try (with_reducible rfl)
  go_simp
  refine restL_pure (i := 18) (v := ?vg13) rfl (by as_aux_lemma => kernel_rfl) (by as_aux_lemma => kernel_rfl) (by as_aux_lemma => kernel_rfl) (fun _ _ _ h => h) (Or.inl ⟨by rfl, ?yg13⟩) ?rg13
  case yg13 => intro w' hSw; clear hSw; go_simp; try (with_reducible rfl)
  go_simp
  refine restL_pure (i := 19) (v := ?vg14) rfl (by as_aux_lemma => kernel_rfl) (by as_aux_lemma => kernel_rfl) (by as_aux_lemma => kernel_rfl) (fun _ _ _ h => h) (Or.inl ⟨by first | rfl | (go_simp; done), ?yg14⟩) ?rg14
  case yg14 => intro w' hSw; clear hSw; go_simp; try (with_reducible rfl)
  go_simp
  refine restL_pure (i := 20) (v := ?vg15) rfl (by as_aux_lemma => kernel_rfl) (by as_aux_lemma => kernel_rfl) (by as_aux_lemma => kernel_rfl) (fun _ _ _ h => h) (Or.inl ⟨by first | rfl | (go_simp; done), ?yg15⟩) ?rg15
  case yg15 => intro w' hSw; clear hSw; go_simp; try (with_reducible rfl)
  go_simp
  refine restL_pure (i := 21) (v := ?vg16) rfl (by as_aux_lemma => kernel_rfl) (by as_aux_lemma => kernel_rfl) (by as_aux_lemma => kernel_rfl) (fun _ _ _ h => h) (Or.inl ⟨by rfl, ?yg16⟩) ?rg16
  case yg16 => intro w' hSw; clear hSw; go_simp; try (with_reducible rfl)
  go_simp
  refine restL_pure (i := 22) (v := ?vg17) rfl (by as_aux_lemma => kernel_rfl) (by as_aux_lemma => kernel_rfl) (by as_aux_lemma => kernel_rfl) (fun _ _ _ h => h) (Or.inl ⟨by rfl, ?yg17⟩) ?rg17
  case yg17 => intro w' hSw; clear hSw; go_simp; try (with_reducible rfl)
  go_simp
  refine restL_pure (i := 23) (v := ?vg18) rfl (by as_aux_lemma => kernel_rfl) (by as_aux_lemma => kernel_rfl) (by as_aux_lemma => kernel_rfl) (fun _ _ _ h => h) (Or.inl ⟨by first | rfl | (go_simp; done), ?yg18⟩) ?rg18
  case yg18 => intro w' hSw; clear hSw; go_simp; try (with_reducible rfl)
  go_simp
  refine restL_pure (i := 24) (v := ?vg19) rfl (by as_aux_lemma => kernel_rfl) (by as_aux_lemma => kernel_rfl) (by as_aux_lemma => kernel_rfl) (fun _ _ _ h => h) (Or.inl ⟨by first | rfl | (go_simp; done), ?yg19⟩) ?rg19
  case yg19 => intro w' hSw; clear hSw; go_simp; try (with_reducible rfl)
  go_simp
  refine restL_pure (i := 25) (v := ?vg20) rfl (by as_aux_lemma => kernel_rfl) (by as_aux_lemma => kernel_rfl) (by as_aux_lemma => kernel_rfl) (fun _ _ _ h => h) (Or.inl ⟨by rfl, ?yg20⟩) ?rg20
  case yg20 => intro w' hSw; clear hSw; go_simp; try (with_reducible rfl)
  go_simp
  refine restL_pure (i := 26) (v := ?vg21) rfl (by as_aux_lemma => kernel_rfl) (by as_aux_lemma => kernel_rfl) (by as_aux_lemma => kernel_rfl) (fun _ _ _ h => h) (Or.inl ⟨by rfl, ?yg21⟩) ?rg21
  case yg21 => intro w' hSw; clear hSw; go_simp; try (with_reducible rfl)
  go_simp
  refine restL_pure (i := 27) (v := ?vg22) rfl (by as_aux_lemma => kernel_rfl) (by as_aux_lemma => kernel_rfl) (by as_aux_lemma => kernel_rfl) (fun _ _ _ h => h) (Or.inl ⟨by first | rfl | (go_simp; done), ?yg22⟩) ?rg22
  case yg22 => intro w' hSw; clear hSw; go_simp; try (with_reducible rfl)
  go_simp
  refine restL_pure (i := 28) (v := ?vg23) rfl (by as_aux_lemma => kernel_rfl) (by as_aux_lemma => kernel_rfl) (by as_aux_lemma => kernel_rfl) (fun _ _ _ h => h) (Or.inl ⟨by first | rfl | (go_simp; done), ?yg23⟩) ?rg23
  case yg23 => intro w' hSw; clear hSw; go_simp; try (with_reducible rfl)
  go_simp
  refine restL_pure (i := 29) (v := ?vg24) rfl (by as_aux_lemma => kernel_rfl) (by as_aux_lemma => kernel_rfl) (by as_aux_lemma => kernel_rfl) (fun _ _ _ h => h) (Or.inl ⟨by rfl, ?yg24⟩) ?rg24
  case yg24 => intro w' hSw; clear hSw; go_simp; try (with_reducible rfl)
  go_simp
  refine restL_pure (i := 30) (v := ?vg25) rfl (by as_aux_lemma => kernel_rfl) (by as_aux_lemma => kernel_rfl) (by as_aux_lemma => kernel_rfl) (fun _ _ _ h => h) (Or.inl ⟨by rfl, ?yg25⟩) ?rg25
  case yg25 => intro w' hSw; clear hSw; go_simp; try (with_reducible rfl)
  go_simp
  refine restL_pure (i := 31) (v := ?vg26) rfl (by as_aux_lemma => kernel_rfl) (by as_aux_lemma => kernel_rfl) (by as_aux_lemma => kernel_rfl) (fun _ _ _ h => h) (Or.inl ⟨by first | rfl | (go_simp; done), ?yg26⟩) ?rg26
  case yg26 => intro w' hSw; clear hSw; go_simp; try (with_reducible rfl)
  go_simp
  refine restL_pure (i := 32) (v := ?vg27) rfl (by as_aux_lemma => kernel_rfl) (by as_aux_lemma => kernel_rfl) (by as_aux_lemma => kernel_rfl) (fun _ _ _ h => h) (Or.inl ⟨by first | rfl | (go_simp; done), ?yg27⟩) ?rg27
  case yg27 => intro w' hSw; clear hSw; go_simp; try (with_reducible rfl)
  go_simp
  refine restL_pure (i := 33) (v := ?vg28) rfl (by as_aux_lemma => kernel_rfl) (by as_aux_lemma => kernel_rfl) (by as_aux_lemma => kernel_rfl) (fun _ _ _ h => h) (Or.inl ⟨by rfl, ?yg28⟩) ?rg28
  case yg28 => intro w' hSw; clear hSw; go_simp; try (with_reducible rfl)
  go_simp
  refine restL_pure (i := 34) (v := ?vg29) rfl (by as_aux_lemma => kernel_rfl) (by as_aux_lemma => kernel_rfl) (by as_aux_lemma => kernel_rfl) (fun _ _ _ h => h) (Or.inl ⟨by rfl, ?yg29⟩) ?rg29
  case yg29 => intro w' hSw; clear hSw; go_simp; try (with_reducible rfl)
  go_simp
  refine restL_pure (i := 35) (v := ?vg30) rfl (by as_aux_lemma => kernel_rfl) (by as_aux_lemma => kernel_rfl) (by as_aux_lemma => kernel_rfl) (fun _ _ _ h => h) (Or.inl ⟨by first | rfl | (go_simp; done), ?yg30⟩) ?rg30
  case yg30 => intro w' hSw; clear hSw; go_simp; try (with_reducible rfl)
  go_simp
  refine restL_pure (i := 36) (v := ?vg31) rfl (by as_aux_lemma => kernel_rfl) (by as_aux_lemma => kernel_rfl) (by as_aux_lemma => kernel_rfl) (fun _ _ _ h => h) (Or.inl ⟨by first | rfl | (go_simp; done), ?yg31⟩) ?rg31
  case yg31 => intro w' hSw; clear hSw; go_simp; try (with_reducible rfl)
  go_simp
  refine restL_pure (i := 37) (v := ?vg32) rfl (by as_aux_lemma => kernel_rfl) (by as_aux_lemma => kernel_rfl) (by as_aux_lemma => kernel_rfl) (fun _ _ _ h => h) (Or.inl ⟨by rfl, ?yg32⟩) ?rg32
  case yg32 => intro w' hSw; clear hSw; go_simp; try (with_reducible rfl)
  go_simp
  refine restL_pure (i := 38) (v := ?vg33) rfl (by as_aux_lemma => kernel_rfl) (by as_aux_lemma => kernel_rfl) (by as_aux_lemma => kernel_rfl) (fun _ _ _ h => h) (Or.inl ⟨by rfl, ?yg33⟩) ?rg33
  case yg33 => intro w' hSw; clear hSw; go_simp; try (with_reducible rfl)
  go_simp
  refine restL_pure (i := 39) (v := ?vg34) rfl (by as_aux_lemma => kernel_rfl) (by as_aux_lemma => kernel_rfl) (by as_aux_lemma => kernel_rfl) (fun _ _ _ h => h) (Or.inl ⟨by first | rfl | (go_simp; done), ?yg34⟩) ?rg34
  case yg34 => intro w' hSw; clear hSw; go_simp; try (with_reducible rfl)
  go_simp
  refine restL_take (i := 40) (v := ?vg35) [] rfl (by as_aux_lemma => kernel_rfl) (by as_aux_lemma => kernel_rfl) (by as_aux_lemma => kernel_rfl) (by as_aux_lemma => kernel_rfl) (fun _ _ _ h => h) (Or.inl ⟨by first | rfl | (go_simp; done), ?yg35⟩) hHeld ?rg35
  case yg35 =>
    intro w' hSw
    obtain ⟨hS0, hS1, hS2, hF0, hF1, hF2⟩ := hSw
    have hT0 : Hid (Row w' (b2) 28 [.int .i64 3, .int .i64 1, .int .i64 0, .slice A2 3 c2]) := hS0
    clear hS0
    have z0_0 := hT0.out.cell 0
    have z0_1 := hT0.out.cell 1
    have z0_2 := hT0.out.cell 2
    have z0_3 := hT0.out.cell 3
    have z0_l := hT0.out.lt
    simp only [List.getElem?_cons_zero, List.getElem?_cons_succ] at z0_0 z0_1 z0_2 z0_3
    have hT1 : Hid (Row w' (b4) 28 [.int .i64 3, .int .i64 1, .int .i64 0, .slice A4 3 c4]) := hS1
    clear hS1
    have z1_0 := hT1.out.cell 0
    have z1_1 := hT1.out.cell 1
    have z1_2 := hT1.out.cell 2
    have z1_3 := hT1.out.cell 3
    have z1_l := hT1.out.lt
    simp only [List.getElem?_cons_zero, List.getElem?_cons_succ] at z1_0 z1_1 z1_2 z1_3
    have hT2 : Hid (Row w' (b10) 28 [.int .i64 3, .int .i64 1, .int .i64 2, .slice (some ad) 3 c10]) := hS2
    clear hS2
    have z2_0 := hT2.out.cell 0
    have z2_1 := hT2.out.cell 1
    have z2_2 := hT2.out.cell 2
    have z2_3 := hT2.out.cell 3
    have z2_l := hT2.out.lt
    simp only [List.getElem?_cons_zero, List.getElem?_cons_succ] at z2_0 z2_1 z2_2 z2_3
    go_simp
    try (with_reducible rfl)
  go_simp
  refine restL_take (i := 41) (v := ?vg36) [] rfl (by as_aux_lemma => kernel_rfl) (by as_aux_lemma => kernel_rfl) (by as_aux_lemma => kernel_rfl) (by as_aux_lemma => kernel_rfl) (fun _ _ _ h => h) (Or.inl ⟨by first | rfl | (go_simp; done), ?yg36⟩) hHeld ?rg36
  case yg36 =>
    intro w' hSw
    obtain ⟨hS0, hS1, hS2, hF0, hF1, hF2⟩ := hSw
    have hT0 : Hid (Row w' (b2) 28 [.int .i64 3, .int .i64 1, .int .i64 0, .slice A2 3 c2]) := hS0
    clear hS0
    have z0_0 := hT0.out.cell 0
    have z0_1 := hT0.out.cell 1
    have z0_2 := hT0.out.cell 2
    have z0_3 := hT0.out.cell 3
    have z0_l := hT0.out.lt
    simp only [List.getElem?_cons_zero, List.getElem?_cons_succ] at z0_0 z0_1 z0_2 z0_3
    have hT1 : Hid (Row w' (b4) 28 [.int .i64 3, .int .i64 1, .int .i64 0, .slice A4 3 c4]) := hS1
    clear hS1
    have z1_0 := hT1.out.cell 0
    have z1_1 := hT1.out.cell 1
    have z1_2 := hT1.out.cell 2
    have z1_3 := hT1.out.cell 3
    have z1_l := hT1.out.lt
    simp only [List.getElem?_cons_zero, List.getElem?_cons_succ] at z1_0 z1_1 z1_2 z1_3
    have hT2 : Hid (Row w' (b10) 28 [.int .i64 3, .int .i64 1, .int .i64 2, .slice (some ad) 3 c10]) := hS2
    clear hS2
    have z2_0 := hT2.out.cell 0
    have z2_1 := hT2.out.cell 1
    have z2_2 := hT2.out.cell 2
    have z2_3 := hT2.out.cell 3
    have z2_l := hT2.out.lt
    simp only [List.getElem?_cons_zero, List.getElem?_cons_succ] at z2_0 z2_1 z2_2 z2_3
    go_simp
    try (with_reducible rfl)
  go_simp
  refine restL_pure (i := 42) (v := ?vg37) rfl (by as_aux_lemma => kernel_rfl) (by as_aux_lemma => kernel_rfl) (by as_aux_lemma => kernel_rfl) (fun _ _ _ h => h) (Or.inl ⟨by first | rfl | (go_simp; done), ?yg37⟩) ?rg37
  case yg37 => intro w' hSw; clear hSw; go_simp; try (with_reducible rfl)
  go_simp
  refine restL_pure (i := 43) (v := ?vg38) rfl (by as_aux_lemma => kernel_rfl) (by as_aux_lemma => kernel_rfl) (by as_aux_lemma => kernel_rfl) (fun _ _ _ h => h) (Or.inl ⟨by rfl, ?yg38⟩) ?rg38
  case yg38 => intro w' hSw; clear hSw; go_simp; try (with_reducible rfl)
  go_simp
  refine restL_pure (i := 44) (v := ?vg39) rfl (by as_aux_lemma => kernel_rfl) (by as_aux_lemma => kernel_rfl) (by as_aux_lemma => kernel_rfl) (fun _ _ _ h => h) (Or.inl ⟨by rfl, ?yg39⟩) ?rg39
  case yg39 => intro w' hSw; clear hSw; go_simp; try (with_reducible rfl)
  go_simp
  refine restL_pure (i := 45) (v := ?vg40) rfl (by as_aux_lemma => kernel_rfl) (by as_aux_lemma => kernel_rfl) (by as_aux_lemma => kernel_rfl) (fun _ _ _ h => h) (Or.inl ⟨by first | rfl | (go_simp; done), ?yg40⟩) ?rg40
  case yg40 => intro w' hSw; clear hSw; go_simp; try (with_reducible rfl)
  go_simp
  refine restL_take (i := 46) (v := ?vg41) [] rfl (by as_aux_lemma => kernel_rfl) (by as_aux_lemma => kernel_rfl) (by as_aux_lemma => kernel_rfl) (by as_aux_lemma => kernel_rfl) (fun _ _ _ h => h) (Or.inl ⟨by first | rfl | (go_simp; done), ?yg41⟩) hHeld ?rg41
  case yg41 =>
    intro w' hSw
    obtain ⟨hS0, hS1, hS2, hF0, hF1, hF2⟩ := hSw
    have hT0 : Hid (Row w' (b2) 28 [.int .i64 3, .int .i64 1, .int .i64 0, .slice A2 3 c2]) := hS0
    clear hS0
    have z0_0 := hT0.out.cell 0
    have z0_1 := hT0.out.cell 1
    have z0_2 := hT0.out.cell 2
    have z0_3 := hT0.out.cell 3
    have z0_l := hT0.out.lt
    simp only [List.getElem?_cons_zero, List.getElem?_cons_succ] at z0_0 z0_1 z0_2 z0_3
    have hT1 : Hid (Row w' (b4) 28 [.int .i64 3, .int .i64 1, .int .i64 0, .slice A4 3 c4]) := hS1
    clear hS1
    have z1_0 := hT1.out.cell 0
    have z1_1 := hT1.out.cell 1
    have z1_2 := hT1.out.cell 2
    have z1_3 := hT1.out.cell 3
    have z1_l := hT1.out.lt
    simp only [List.getElem?_cons_zero, List.getElem?_cons_succ] at z1_0 z1_1 z1_2 z1_3
    have hT2 : Hid (Row w' (b10) 28 [.int .i64 3, .int .i64 1, .int .i64 2, .slice (some ad) 3 c10]) := hS2
    clear hS2
    have z2_0 := hT2.out.cell 0
    have z2_1 := hT2.out.cell 1
    have z2_2 := hT2.out.cell 2
    have z2_3 := hT2.out.cell 3
    have z2_l := hT2.out.lt
    simp only [List.getElem?_cons_zero, List.getElem?_cons_succ] at z2_0 z2_1 z2_2 z2_3
    go_simp
    try (with_reducible rfl)
  go_simp
  refine restL_take (i := 47) (v := ?vg42) [] rfl (by as_aux_lemma => kernel_rfl) (by as_aux_lemma => kernel_rfl) (by as_aux_lemma => kernel_rfl) (by as_aux_lemma => kernel_rfl) (fun _ _ _ h => h) (Or.inl ⟨by first | rfl | (go_simp; done), ?yg42⟩) hHeld ?rg42
  case yg42 =>
    intro w' hSw
    obtain ⟨hS0, hS1, hS2, hF0, hF1, hF2⟩ := hSw
    have hT0 : Hid (Row w' (b2) 28 [.int .i64 3, .int .i64 1, .int .i64 0, .slice A2 3 c2]) := hS0
    clear hS0
    have z0_0 := hT0.out.cell 0
    have z0_1 := hT0.out.cell 1
    have z0_2 := hT0.out.cell 2
    have z0_3 := hT0.out.cell 3
    have z0_l := hT0.out.lt
    simp only [List.getElem?_cons_zero, List.getElem?_cons_succ] at z0_0 z0_1 z0_2 z0_3
    have hT1 : Hid (Row w' (b4) 28 [.int .i64 3, .int .i64 1, .int .i64 0, .slice A4 3 c4]) := hS1
    clear hS1
    have z1_0 := hT1.out.cell 0
    have z1_1 := hT1.out.cell 1
    have z1_2 := hT1.out.cell 2
    have z1_3 := hT1.out.cell 3
    have z1_l := hT1.out.lt
    simp only [List.getElem?_cons_zero, List.getElem?_cons_succ] at z1_0 z1_1 z1_2 z1_3
    have hT2 : Hid (Row w' (b10) 28 [.int .i64 3, .int .i64 1, .int .i64 2, .slice (some ad) 3 c10]) := hS2
    clear hS2
    have z2_0 := hT2.out.cell 0
    have z2_1 := hT2.out.cell 1
    have z2_2 := hT2.out.cell 2
    have z2_3 := hT2.out.cell 3
    have z2_l := hT2.out.lt
    simp only [List.getElem?_cons_zero, List.getElem?_cons_succ] at z2_0 z2_1 z2_2 z2_3
    go_simp
    try (with_reducible rfl)
  go_simp
  refine restL_take (i := 48) (v := ?vg43) [] rfl (by as_aux_lemma => kernel_rfl) (by as_aux_lemma => kernel_rfl) (by as_aux_lemma => kernel_rfl) (by as_aux_lemma => kernel_rfl) (fun _ _ _ h => h) (Or.inl ⟨by first | rfl | (go_simp; done), ?yg43⟩) hHeld ?rg43
  case yg43 =>
    intro w' hSw
    obtain ⟨hS0, hS1, hS2, hF0, hF1, hF2⟩ := hSw
    have hT0 : Hid (Row w' (b2) 28 [.int .i64 3, .int .i64 1, .int .i64 0, .slice A2 3 c2]) := hS0
    clear hS0
    have z0_0 := hT0.out.cell 0
    have z0_1 := hT0.out.cell 1
    have z0_2 := hT0.out.cell 2
    have z0_3 := hT0.out.cell 3
    have z0_l := hT0.out.lt
    simp only [List.getElem?_cons_zero, List.getElem?_cons_succ] at z0_0 z0_1 z0_2 z0_3
    have hT1 : Hid (Row w' (b4) 28 [.int .i64 3, .int .i64 1, .int .i64 0, .slice A4 3 c4]) := hS1
    clear hS1
    have z1_0 := hT1.out.cell 0
    have z1_1 := hT1.out.cell 1
    have z1_2 := hT1.out.cell 2
    have z1_3 := hT1.out.cell 3
    have z1_l := hT1.out.lt
    simp only [List.getElem?_cons_zero, List.getElem?_cons_succ] at z1_0 z1_1 z1_2 z1_3
    have hT2 : Hid (Row w' (b10) 28 [.int .i64 3, .int .i64 1, .int .i64 2, .slice (some ad) 3 c10]) := hS2
    clear hS2
    have z2_0 := hT2.out.cell 0
    have z2_1 := hT2.out.cell 1
    have z2_2 := hT2.out.cell 2
    have z2_3 := hT2.out.cell 3
    have z2_l := hT2.out.lt
    simp only [List.getElem?_cons_zero, List.getElem?_cons_succ] at z2_0 z2_1 z2_2 z2_3
    go_simp
    try (with_reducible rfl)
  go_simp
  refine restL_pure (i := 49) (v := ?vg44) rfl (by as_aux_lemma => kernel_rfl) (by as_aux_lemma => kernel_rfl) (by as_aux_lemma => kernel_rfl) (fun _ _ _ h => h) (Or.inl ⟨by first | rfl | (go_simp; done), ?yg44⟩) ?rg44
  case yg44 => intro w' hSw; clear hSw; go_simp; try (with_reducible rfl)
  go_simp
  refine restL_pure (i := 50) (v := ?vg45) rfl (by as_aux_lemma => kernel_rfl) (by as_aux_lemma => kernel_rfl) (by as_aux_lemma => kernel_rfl) (fun _ _ _ h => h) (Or.inl ⟨by rfl, ?yg45⟩) ?rg45
  case yg45 => intro w' hSw; clear hSw; go_simp; try (with_reducible rfl)
  go_simp
  refine restL_pure (i := 51) (v := ?vg46) rfl (by as_aux_lemma => kernel_rfl) (by as_aux_lemma => kernel_rfl) (by as_aux_lemma => kernel_rfl) (fun _ _ _ h => h) (Or.inl ⟨by rfl, ?yg46⟩) ?rg46
  case yg46 => intro w' hSw; clear hSw; go_simp; try (with_reducible rfl)
  go_simp
  refine restL_pure (i := 52) (v := ?vg47) rfl (by as_aux_lemma => kernel_rfl) (by as_aux_lemma => kernel_rfl) (by as_aux_lemma => kernel_rfl) (fun _ _ _ h => h) (Or.inl ⟨by first | rfl | (go_simp; done), ?yg47⟩) ?rg47
  case yg47 => intro w' hSw; clear hSw; go_simp; try (with_reducible rfl)
  go_simp
  refine restL_take (i := 53) (v := ?vg48) [] rfl (by as_aux_lemma => kernel_rfl) (by as_aux_lemma => kernel_rfl) (by as_aux_lemma => kernel_rfl) (by as_aux_lemma => kernel_rfl) (fun _ _ _ h => h) (Or.inl ⟨by first | rfl | (go_simp; done), ?yg48⟩) hHeld ?rg48
  case yg48 =>
    intro w' hSw
    obtain ⟨hS0, hS1, hS2, hF0, hF1, hF2⟩ := hSw
    have hT0 : Hid (Row w' (b2) 28 [.int .i64 3, .int .i64 1, .int .i64 0, .slice A2 3 c2]) := hS0
    clear hS0
    have z0_0 := hT0.out.cell 0
    have z0_1 := hT0.out.cell 1
    have z0_2 := hT0.out.cell 2
    have z0_3 := hT0.out.cell 3
    have z0_l := hT0.out.lt
    simp only [List.getElem?_cons_zero, List.getElem?_cons_succ] at z0_0 z0_1 z0_2 z0_3
    have hT1 : Hid (Row w' (b4) 28 [.int .i64 3, .int .i64 1, .int .i64 0, .slice A4 3 c4]) := hS1
    clear hS1
    have z1_0 := hT1.out.cell 0
    have z1_1 := hT1.out.cell 1
    have z1_2 := hT1.out.cell 2
    have z1_3 := hT1.out.cell 3
    have z1_l := hT1.out.lt
    simp only [List.getElem?_cons_zero, List.getElem?_cons_succ] at z1_0 z1_1 z1_2 z1_3
    have hT2 : Hid (Row w' (b10) 28 [.int .i64 3, .int .i64 1, .int .i64 2, .slice (some ad) 3 c10]) := hS2
    clear hS2
    have z2_0 := hT2.out.cell 0
    have z2_1 := hT2.out.cell 1
    have z2_2 := hT2.out.cell 2
    have z2_3 := hT2.out.cell 3
    have z2_l := hT2.out.lt
    simp only [List.getElem?_cons_zero, List.getElem?_cons_succ] at z2_0 z2_1 z2_2 z2_3
    go_simp
    try (with_reducible rfl)
  go_simp
  refine restL_take (i := 54) (v := ?vg49) [] rfl (by as_aux_lemma => kernel_rfl) (by as_aux_lemma => kernel_rfl) (by as_aux_lemma => kernel_rfl) (by as_aux_lemma => kernel_rfl) (fun _ _ _ h => h) (Or.inl ⟨by first | rfl | (go_simp; done), ?yg49⟩) hHeld ?rg49
  case yg49 =>
    intro w' hSw
    obtain ⟨hS0, hS1, hS2, hF0, hF1, hF2⟩ := hSw
    have hT0 : Hid (Row w' (b2) 28 [.int .i64 3, .int .i64 1, .int .i64 0, .slice A2 3 c2]) := hS0
    clear hS0
    have z0_0 := hT0.out.cell 0
    have z0_1 := hT0.out.cell 1
    have z0_2 := hT0.out.cell 2
    have z0_3 := hT0.out.cell 3
    have z0_l := hT0.out.lt
    simp only [List.getElem?_cons_zero, List.getElem?_cons_succ] at z0_0 z0_1 z0_2 z0_3
    have hT1 : Hid (Row w' (b4) 28 [.int .i64 3, .int .i64 1, .int .i64 0, .slice A4 3 c4]) := hS1
    clear hS1
    have z1_0 := hT1.out.cell 0
    have z1_1 := hT1.out.cell 1
    have z1_2 := hT1.out.cell 2
    have z1_3 := hT1.out.cell 3
    have z1_l := hT1.out.lt
    simp only [List.getElem?_cons_zero, List.getElem?_cons_succ] at z1_0 z1_1 z1_2 z1_3
    have hT2 : Hid (Row w' (b10) 28 [.int .i64 3, .int .i64 1, .int .i64 2, .slice (some ad) 3 c10]) := hS2
    clear hS2
    have z2_0 := hT2.out.cell 0
    have z2_1 := hT2.out.cell 1
    have z2_2 := hT2.out.cell 2
    have z2_3 := hT2.out.cell 3
    have z2_l := hT2.out.lt
    simp only [List.getElem?_cons_zero, List.getElem?_cons_succ] at z2_0 z2_1 z2_2 z2_3
    go_simp
    try (with_reducible rfl)
  go_simp
  refine restL_take (i := 55) (v := ?vg50) [] rfl (by as_aux_lemma => kernel_rfl) (by as_aux_lemma => kernel_rfl) (by as_aux_lemma => kernel_rfl) (by as_aux_lemma => kernel_rfl) (fun _ _ _ h => h) (Or.inl ⟨by first | rfl | (go_simp; done), ?yg50⟩) hHeld ?rg50
  case yg50 =>
    intro w' hSw
    obtain ⟨hS0, hS1, hS2, hF0, hF1, hF2⟩ := hSw
    have hT0 : Hid (Row w' (b2) 28 [.int .i64 3, .int .i64 1, .int .i64 0, .slice A2 3 c2]) := hS0
    clear hS0
    have z0_0 := hT0.out.cell 0
    have z0_1 := hT0.out.cell 1
    have z0_2 := hT0.out.cell 2
    have z0_3 := hT0.out.cell 3
    have z0_l := hT0.out.lt
    simp only [List.getElem?_cons_zero, List.getElem?_cons_succ] at z0_0 z0_1 z0_2 z0_3
    have hT1 : Hid (Row w' (b4) 28 [.int .i64 3, .int .i64 1, .int .i64 0, .slice A4 3 c4]) := hS1
    clear hS1
    have z1_0 := hT1.out.cell 0
    have z1_1 := hT1.out.cell 1
    have z1_2 := hT1.out.cell 2
    have z1_3 := hT1.out.cell 3
    have z1_l := hT1.out.lt
    simp only [List.getElem?_cons_zero, List.getElem?_cons_succ] at z1_0 z1_1 z1_2 z1_3
    have hT2 : Hid (Row w' (b10) 28 [.int .i64 3, .int .i64 1, .int .i64 2, .slice (some ad) 3 c10]) := hS2
    clear hS2
    have z2_0 := hT2.out.cell 0
    have z2_1 := hT2.out.cell 1
    have z2_2 := hT2.out.cell 2
    have z2_3 := hT2.out.cell 3
    have z2_l := hT2.out.lt
    simp only [List.getElem?_cons_zero, List.getElem?_cons_succ] at z2_0 z2_1 z2_2 z2_3
    go_simp
    try (with_reducible rfl)
  go_simp
  refine restL_pure (i := 56) (v := ?vg51) rfl (by as_aux_lemma => kernel_rfl) (by as_aux_lemma => kernel_rfl) (by as_aux_lemma => kernel_rfl) (fun _ _ _ h => h) (Or.inl ⟨by first | rfl | (go_simp; done), ?yg51⟩) ?rg51
  case yg51 => intro w' hSw; clear hSw; go_simp; try (with_reducible rfl)
  go_simp
  refine restL_pure (i := 57) (v := ?vg52) rfl (by as_aux_lemma => kernel_rfl) (by as_aux_lemma => kernel_rfl) (by as_aux_lemma => kernel_rfl) (fun _ _ _ h => h) (Or.inl ⟨by rfl, ?yg52⟩) ?rg52
  case yg52 => intro w' hSw; clear hSw; go_simp; try (with_reducible rfl)
  go_simp
  refine restL_pure (i := 58) (v := ?vg53) rfl (by as_aux_lemma => kernel_rfl) (by as_aux_lemma => kernel_rfl) (by as_aux_lemma => kernel_rfl) (fun _ _ _ h => h) (Or.inl ⟨by rfl, ?yg53⟩) ?rg53
  case yg53 => intro w' hSw; clear hSw; go_simp; try (with_reducible rfl)
  go_simp
  refine restL_pure (i := 59) (v := ?vg54) rfl (by as_aux_lemma => kernel_rfl) (by as_aux_lemma => kernel_rfl) (by as_aux_lemma => kernel_rfl) (fun _ _ _ h => h) (Or.inl ⟨by first | rfl | (go_simp; done), ?yg54⟩) ?rg54
  case yg54 => intro w' hSw; clear hSw; go_simp; try (with_reducible rfl)
  go_simp
  refine restL_take (i := 60) (v := ?vg55) [] rfl (by as_aux_lemma => kernel_rfl) (by as_aux_lemma => kernel_rfl) (by as_aux_lemma => kernel_rfl) (by as_aux_lemma => kernel_rfl) (fun _ _ _ h => h) (Or.inl ⟨by first | rfl | (go_simp; done), ?yg55⟩) hHeld ?rg55
  case yg55 =>
    intro w' hSw
    obtain ⟨hS0, hS1, hS2, hF0, hF1, hF2⟩ := hSw
    have hT0 : Hid (Row w' (b2) 28 [.int .i64 3, .int .i64 1, .int .i64 0, .slice A2 3 c2]) := hS0
    clear hS0
    have z0_0 := hT0.out.cell 0
    have z0_1 := hT0.out.cell 1
    have z0_2 := hT0.out.cell 2
    have z0_3 := hT0.out.cell 3
    have z0_l := hT0.out.lt
    simp only [List.getElem?_cons_zero, List.getElem?_cons_succ] at z0_0 z0_1 z0_2 z0_3
    have hT1 : Hid (Row w' (b4) 28 [.int .i64 3, .int .i64 1, .int .i64 0, .slice A4 3 c4]) := hS1
    clear hS1
    have z1_0 := hT1.out.cell 0
    have z1_1 := hT1.out.cell 1
    have z1_2 := hT1.out.cell 2
    have z1_3 := hT1.out.cell 3
    have z1_l := hT1.out.lt
    simp only [List.getElem?_cons_zero, List.getElem?_cons_succ] at z1_0 z1_1 z1_2 z1_3
    have hT2 : Hid (Row w' (b10) 28 [.int .i64 3, .int .i64 1, .int .i64 2, .slice (some ad) 3 c10]) := hS2
    clear hS2
    have z2_0 := hT2.out.cell 0
    have z2_1 := hT2.out.cell 1
    have z2_2 := hT2.out.cell 2
    have z2_3 := hT2.out.cell 3
    have z2_l := hT2.out.lt
    simp only [List.getElem?_cons_zero, List.getElem?_cons_succ] at z2_0 z2_1 z2_2 z2_3
    go_simp
    try (with_reducible rfl)
  go_simp
  refine restL_take (i := 61) (v := ?vg56) [] rfl (by as_aux_lemma => kernel_rfl) (by as_aux_lemma => kernel_rfl) (by as_aux_lemma => kernel_rfl) (by as_aux_lemma => kernel_rfl) (fun _ _ _ h => h) (Or.inl ⟨by first | rfl | (go_simp; done), ?yg56⟩) hHeld ?rg56
  case yg56 =>
    intro w' hSw
    obtain ⟨hS0, hS1, hS2, hF0, hF1, hF2⟩ := hSw
    have hT0 : Hid (Row w' (b2) 28 [.int .i64 3, .int .i64 1, .int .i64 0, .slice A2 3 c2]) := hS0
    clear hS0
    have z0_0 := hT0.out.cell 0
    have z0_1 := hT0.out.cell 1
    have z0_2 := hT0.out.cell 2
    have z0_3 := hT0.out.cell 3
    have z0_l := hT0.out.lt
    simp only [List.getElem?_cons_zero, List.getElem?_cons_succ] at z0_0 z0_1 z0_2 z0_3
    have hT1 : Hid (Row w' (b4) 28 [.int .i64 3, .int .i64 1, .int .i64 0, .slice A4 3 c4]) := hS1
    clear hS1
    have z1_0 := hT1.out.cell 0
    have z1_1 := hT1.out.cell 1
    have z1_2 := hT1.out.cell 2
    have z1_3 := hT1.out.cell 3
    have z1_l := hT1.out.lt
    simp only [List.getElem?_cons_zero, List.getElem?_cons_succ] at z1_0 z1_1 z1_2 z1_3
    have hT2 : Hid (Row w' (b10) 28 [.int .i64 3, .int .i64 1, .int .i64 2, .slice (some ad) 3 c10]) := hS2
    clear hS2
    have z2_0 := hT2.out.cell 0
    have z2_1 := hT2.out.cell 1
    have z2_2 := hT2.out.cell 2
    have z2_3 := hT2.out.cell 3
    have z2_l := hT2.out.lt
    simp only [List.getElem?_cons_zero, List.getElem?_cons_succ] at z2_0 z2_1 z2_2 z2_3
    go_simp
    try (with_reducible rfl)
  go_simp
  refine restL_take (i := 62) (v := ?vg57) [] rfl (by as_aux_lemma => kernel_rfl) (by as_aux_lemma => kernel_rfl) (by as_aux_lemma => kernel_rfl) (by as_aux_lemma => kernel_rfl) (fun _ _ _ h => h) (Or.inl ⟨by first | rfl | (go_simp; done), ?yg57⟩) hHeld ?rg57
  case yg57 =>
    intro w' hSw
    obtain ⟨hS0, hS1, hS2, hF0, hF1, hF2⟩ := hSw
    have hT0 : Hid (Row w' (b2) 28 [.int .i64 3, .int .i64 1, .int .i64 0, .slice A2 3 c2]) := hS0
    clear hS0
    have z0_0 := hT0.out.cell 0
    have z0_1 := hT0.out.cell 1
    have z0_2 := hT0.out.cell 2
    have z0_3 := hT0.out.cell 3
    have z0_l := hT0.out.lt
    simp only [List.getElem?_cons_zero, List.getElem?_cons_succ] at z0_0 z0_1 z0_2 z0_3
    have hT1 : Hid (Row w' (b4) 28 [.int .i64 3, .int .i64 1, .int .i64 0, .slice A4 3 c4]) := hS1
    clear hS1
    have z1_0 := hT1.out.cell 0
    have z1_1 := hT1.out.cell 1
    have z1_2 := hT1.out.cell 2
    have z1_3 := hT1.out.cell 3
    have z1_l := hT1.out.lt
    simp only [List.getElem?_cons_zero, List.getElem?_cons_succ] at z1_0 z1_1 z1_2 z1_3
    have hT2 : Hid (Row w' (b10) 28 [.int .i64 3, .int .i64 1, .int .i64 2, .slice (some ad) 3 c10]) := hS2
    clear hS2
    have z2_0 := hT2.out.cell 0
    have z2_1 := hT2.out.cell 1
    have z2_2 := hT2.out.cell 2
    have z2_3 := hT2.out.cell 3
    have z2_l := hT2.out.lt
    simp only [List.getElem?_cons_zero, List.getElem?_cons_succ] at z2_0 z2_1 z2_2 z2_3
    go_simp
    try (with_reducible rfl)
  go_simp
  refine restL_pure (i := 63) (v := ?vg58) rfl (by as_aux_lemma => kernel_rfl) (by as_aux_lemma => kernel_rfl) (by as_aux_lemma => kernel_rfl) (fun _ _ _ h => h) (Or.inl ⟨by first | rfl | (go_simp; done), ?yg58⟩) ?rg58
  case yg58 => intro w' hSw; clear hSw; go_simp; try (with_reducible rfl)
  go_simp
  refine restL_pure (i := 64) (v := ?vg59) rfl (by as_aux_lemma => kernel_rfl) (by as_aux_lemma => kernel_rfl) (by as_aux_lemma => kernel_rfl) (fun _ _ _ h => h) (Or.inl ⟨by rfl, ?yg59⟩) ?rg59
  case yg59 => intro w' hSw; clear hSw; go_simp; try (with_reducible rfl)
  go_simp
  refine restL_pure (i := 65) (v := ?vg60) rfl (by as_aux_lemma => kernel_rfl) (by as_aux_lemma => kernel_rfl) (by as_aux_lemma => kernel_rfl) (fun _ _ _ h => h) (Or.inl ⟨by rfl, ?yg60⟩) ?rg60
  case yg60 => intro w' hSw; clear hSw; go_simp; try (with_reducible rfl)
  go_simp
  refine restL_pure (i := 66) (v := ?vg61) rfl (by as_aux_lemma => kernel_rfl) (by as_aux_lemma => kernel_rfl) (by as_aux_lemma => kernel_rfl) (fun _ _ _ h => h) (Or.inl ⟨by first | rfl | (go_simp; done), ?yg61⟩) ?rg61
  case yg61 => intro w' hSw; clear hSw; go_simp; try (with_reducible rfl)
  go_simp
  refine restL_pure (i := 67) (v := ?vg62) rfl (by as_aux_lemma => kernel_rfl) (by as_aux_lemma => kernel_rfl) (by as_aux_lemma => kernel_rfl) (fun _ _ _ h => h) (Or.inl ⟨by first | rfl | (go_simp; done), ?yg62⟩) ?rg62
  case yg62 => intro w' hSw; clear hSw; go_simp; try (with_reducible rfl)
  go_simp
  refine restL_pure (i := 68) (v := ?vg63) rfl (by as_aux_lemma => kernel_rfl) (by as_aux_lemma => kernel_rfl) (by as_aux_lemma => kernel_rfl) (fun _ _ _ h => h) (Or.inl ⟨by rfl, ?yg63⟩) ?rg63
  case yg63 => intro w' hSw; clear hSw; go_simp; try (with_reducible rfl)
  go_simp
  refine restL_pure (i := 69) (v := ?vg64) rfl (by as_aux_lemma => kernel_rfl) (by as_aux_lemma => kernel_rfl) (by as_aux_lemma => kernel_rfl) (fun _ _ _ h => h) (Or.inl ⟨by rfl, ?yg64⟩) ?rg64
  case yg64 => intro w' hSw; clear hSw; go_simp; try (with_reducible rfl)
  go_simp
  refine restL_pure (i := 70) (v := ?vg65) rfl (by as_aux_lemma => kernel_rfl) (by as_aux_lemma => kernel_rfl) (by as_aux_lemma => kernel_rfl) (fun _ _ _ h => h) (Or.inl ⟨by first | rfl | (go_simp; done), ?yg65⟩) ?rg65
  case yg65 => intro w' hSw; clear hSw; go_simp; try (with_reducible rfl)
  go_simp
  refine restL_pure (i := 71) (v := ?vg66) rfl (by as_aux_lemma => kernel_rfl) (by as_aux_lemma => kernel_rfl) (by as_aux_lemma => kernel_rfl) (fun _ _ _ h => h) (Or.inl ⟨by rfl, ?yg66⟩) ?rg66
  case yg66 => intro w' hSw; clear hSw; go_simp; try (with_reducible rfl)
  go_simp
  refine restL_pure (i := 72) (v := ?vg67) rfl (by as_aux_lemma => kernel_rfl) (by as_aux_lemma => kernel_rfl) (by as_aux_lemma => kernel_rfl) (fun _ _ _ h => h) (Or.inl ⟨by rfl, ?yg67⟩) ?rg67
  case yg67 => intro w' hSw; clear hSw; go_simp; try (with_reducible rfl)
  go_simp
  refine restL_pure (i := 73) (v := ?vg68) rfl (by as_aux_lemma => kernel_rfl) (by as_aux_lemma => kernel_rfl) (by as_aux_lemma => kernel_rfl) (fun _ _ _ h => h) (Or.inl ⟨by first | rfl | (go_simp; done), ?yg68⟩) ?rg68
  case yg68 => intro w' hSw; clear hSw; go_simp; try (with_reducible rfl)
  go_simp
  refine restL_pure (i := 74) (v := ?vg69) rfl (by as_aux_lemma => kernel_rfl) (by as_aux_lemma => kernel_rfl) (by as_aux_lemma => kernel_rfl) (fun _ _ _ h => h) (Or.inl ⟨by first | rfl | (go_simp; done), ?yg69⟩) ?rg69
  case yg69 => intro w' hSw; clear hSw; go_simp; try (with_reducible rfl)
  go_simp
  refine restL_pure (i := 75) (v := ?vg70) rfl (by as_aux_lemma => kernel_rfl) (by as_aux_lemma => kernel_rfl) (by as_aux_lemma => kernel_rfl) (fun _ _ _ h => h) (Or.inl ⟨by rfl, ?yg70⟩) ?rg70
  case yg70 => intro w' hSw; clear hSw; go_simp; try (with_reducible rfl)
  go_simp
  refine restL_pure (i := 76) (v := ?vg71) rfl (by as_aux_lemma => kernel_rfl) (by as_aux_lemma => kernel_rfl) (by as_aux_lemma => kernel_rfl) (fun _ _ _ h => h) (Or.inl ⟨by rfl, ?yg71⟩) ?rg71
  case yg71 => intro w' hSw; clear hSw; go_simp; try (with_reducible rfl)
  go_simp
  refine restL_pure (i := 77) (v := ?vg72) rfl (by as_aux_lemma => kernel_rfl) (by as_aux_lemma => kernel_rfl) (by as_aux_lemma => kernel_rfl) (fun _ _ _ h => h) (Or.inl ⟨by first | rfl | (go_simp; done), ?yg72⟩) ?rg72
  case yg72 => intro w' hSw; clear hSw; go_simp; try (with_reducible rfl)
  go_simp
  refine restL_pure (i := 78) (v := ?vg73) rfl (by as_aux_lemma => kernel_rfl) (by as_aux_lemma => kernel_rfl) (by as_aux_lemma => kernel_rfl) (fun _ _ _ h => h) (Or.inl ⟨by first | rfl | (go_simp; done), ?yg73⟩) ?rg73
  case yg73 => intro w' hSw; clear hSw; go_simp; try (with_reducible rfl)
  go_simp
  refine restL_pure (i := 79) (v := ?vg74) rfl (by as_aux_lemma => kernel_rfl) (by as_aux_lemma => kernel_rfl) (by as_aux_lemma => kernel_rfl) (fun _ _ _ h => h) (Or.inl ⟨by rfl, ?yg74⟩) ?rg74
  case yg74 => intro w' hSw; clear hSw; go_simp; try (with_reducible rfl)
  go_simp
  refine restL_pure (i := 80) (v := ?vg75) rfl (by as_aux_lemma => kernel_rfl) (by as_aux_lemma => kernel_rfl) (by as_aux_lemma => kernel_rfl) (fun _ _ _ h => h) (Or.inl ⟨by rfl, ?yg75⟩) ?rg75
  case yg75 => intro w' hSw; clear hSw; go_simp; try (with_reducible rfl)
  go_simp
  refine restL_done (by as_aux_lemma => kernel_rfl) ?_ _
  go_wp2
  go_ret
  exact ⟨rfl, B_w.out⟩
end Go.Proofs.Ytdkfaphclhaiaaa
