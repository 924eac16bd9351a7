/-
  The law PlaneRights: what it does.
-/
import Derived.Test.YtfknooffjhncgaaPAwake
import Derived.Test.YtfknooffjhncgaaPFew
import Derived.Test.YtfknooffjhncgaaGRefRB
namespace Go.Proofs.Ytfknooffjhncgaa
open Go.RowKit
set_option linter.unusedSimpArgs false
set_option linter.unusedVariables false
set_option maxRecDepth 100000 in
set_option maxHeartbeats 8000000 in
theorem lawRights_any (p q : Pln) (A B : Option Addr) (n c k d : Nat) (sl sm : List Sl) (w : World) (h1 : PAt w p A n sl) (h2 : PAt w q B k sm) :
    Calls Try.prog 4 #[.agg #[.int .i64 p.w, .int .i64 p.h, .int .i64 p.edge, .slice A n c], .agg #[.int .i64 q.w, .int .i64 q.h, .int .i64 q.edge, .slice B k d]] w fun e w' => e = .returned (.bool true) ∧ Below w.heap.size w w' := by
  have H1 : Hid (PAt w p A n sl) := h1
  have H2 : Hid (PAt w q B k sm) := h2
  clear h1 h2
  go_enter Try.func4, Try.ntmps4
  go_wp2_with fail
  have RA : Hid (Row (World.alloc (World.alloc w (.cells #[.int .i64 p.w, .int .i64 p.h, .int .i64 p.edge, .slice A n c] 28)) (.cells #[.int .i64 q.w, .int .i64 q.h, .int .i64 q.edge, .slice B k d] 28)) (w.heap.size) 28 [.int .i64 p.w, .int .i64 p.h, .int .i64 p.edge, .slice A n c]) := by
    have h0 := Row.new w 28 [.int .i64 p.w, .int .i64 p.h, .int .i64 p.edge, .slice A n c]
    try simp only [World.size_alloc] at h0
    exact (h0.alloc _)
  have RB : Hid (Row (World.alloc (World.alloc w (.cells #[.int .i64 p.w, .int .i64 p.h, .int .i64 p.edge, .slice A n c] 28)) (.cells #[.int .i64 q.w, .int .i64 q.h, .int .i64 q.edge, .slice B k d] 28)) (w.heap.size + 1) 28 [.int .i64 q.w, .int .i64 q.h, .int .i64 q.edge, .slice B k d]) := by
    have h0 := Row.new (World.alloc w (.cells #[.int .i64 p.w, .int .i64 p.h, .int .i64 p.edge, .slice A n c] 28)) 28 [.int .i64 q.w, .int .i64 q.h, .int .i64 q.edge, .slice B k d]
    try simp only [World.size_alloc] at h0
    exact h0
  have hgr9 : Below w.heap.size w (World.alloc (World.alloc w (.cells #[.int .i64 p.w, .int .i64 p.h, .int .i64 p.edge, .slice A n c] 28)) (.cells #[.int .i64 q.w, .int .i64 q.h, .int .i64 q.edge, .slice B k d] 28)) := by go_grown
  have B_w : Hid (Below w.heap.size w (World.alloc (World.alloc w (.cells #[.int .i64 p.w, .int .i64 p.h, .int .i64 p.edge, .slice A n c] 28)) (.cells #[.int .i64 q.w, .int .i64 q.h, .int .i64 q.edge, .slice B k d] 28))) := hgr9
  clear hgr9
  revert RA RB B_w
  generalize (World.alloc (World.alloc w (.cells #[.int .i64 p.w, .int .i64 p.h, .int .i64 p.edge, .slice A n c] 28)) (.cells #[.int .i64 q.w, .int .i64 q.h, .int .i64 q.edge, .slice B k d] 28)) = wa
  intro RA RB B_w
  refine (few_any p A n c sl wa (H1.out.up B_w.out)).mono ?_
  rintro e w0 ⟨rfl, hb⟩
  have B_w : Hid (Below w.heap.size w w0) := below_on2 B_w.out hb
  have B_wa : Hid (Below wa.heap.size wa w0) := hb
  clear hb
  cases hf : fewF p
  · clear hf
    go_wp2_with fail
    refine (awake_any _).mono ?_
    rintro e w9 ⟨rfl, hb⟩
    have HBE : Hid (Below w.heap.size w w9) := below_on2 B_w.out hb
    clear hb
    go_wp2
    go_ret
    exact ⟨rfl, HBE.out⟩
  clear hf
  have kR : Hid (Row w0 (w.heap.size + 1) 28 [.int .i64 q.w, .int .i64 q.h, .int .i64 q.edge, .slice B k d]) := (rowCells RB.out B_wa.out)
  have k0 := kR.out.cell 0
  have k1 := kR.out.cell 1
  have k2 := kR.out.cell 2
  have k3 := kR.out.cell 3
  have kl := kR.out.lt
  simp only [List.getElem?_cons_zero, List.getElem?_cons_succ] at k0 k1 k2 k3
  clear kR
  go_wp2_with fail
  refine (few_any q B k d sm w0 (H2.out.up B_w.out)).mono ?_
  rintro e w1 ⟨rfl, hb⟩
  have B_w : Hid (Below w.heap.size w w1) := below_on2 B_w.out hb
  have B_wa : Hid (Below wa.heap.size wa w1) := below_on2 B_wa.out hb
  have B_w0 : Hid (Below w0.heap.size w0 w1) := hb
  clear k0 k1 k2 k3 kl
  clear hb
  cases hf : fewF q
  · clear hf
    go_wp2_with fail
    refine (awake_any _).mono ?_
    rintro e w9 ⟨rfl, hb⟩
    have HBE : Hid (Below w.heap.size w w9) := below_on2 B_w.out hb
    clear hb
    go_wp2
    go_ret
    exact ⟨rfl, HBE.out⟩
  clear hf
  have kR : Hid (Row w1 (w.heap.size) 28 [.int .i64 p.w, .int .i64 p.h, .int .i64 p.edge, .slice A n c]) := (rowCells RA.out B_wa.out)
  have k0 := kR.out.cell 0
  have k1 := kR.out.cell 1
  have k2 := kR.out.cell 2
  have k3 := kR.out.cell 3
  have kl := kR.out.lt
  simp only [List.getElem?_cons_zero, List.getElem?_cons_succ] at k0 k1 k2 k3
  clear kR
  go_wp2_with fail
  refine (plUnpack_any p A n c sl w1 (H1.out.up B_w.out)).mono ?_
  rintro e w2 ⟨UA, un, uc, rfl, hga, hb⟩
  have HU : Hid (GAt w2 (unpackR p) UA un) := hga
  clear hga
  have B_w : Hid (Below w.heap.size w w2) := below_on2 B_w.out hb
  have B_wa : Hid (Below wa.heap.size wa w2) := below_on2 B_wa.out hb
  have B_w0 : Hid (Below w0.heap.size w0 w2) := below_on2 B_w0.out hb
  have B_w1 : Hid (Below w1.heap.size w1 w2) := hb
  clear k0 k1 k2 k3 kl
  clear hb
  have kR : Hid (Row w2 (w.heap.size) 28 [.int .i64 p.w, .int .i64 p.h, .int .i64 p.edge, .slice A n c]) := (rowCells RA.out B_wa.out)
  have k0 := kR.out.cell 0
  have k1 := kR.out.cell 1
  have k2 := kR.out.cell 2
  have k3 := kR.out.cell 3
  have kl := kR.out.lt
  simp only [List.getElem?_cons_zero, List.getElem?_cons_succ] at k0 k1 k2 k3
  clear kR
  go_wp2_with fail
  have RU : Hid (Row (World.alloc w2 (.cells #[.int .i64 (unpackR p).w, .int .i64 (unpackR p).h, .int .i64 (unpackR p).edge, .slice UA un uc] 24)) (w2.heap.size) 24 [.int .i64 (unpackR p).w, .int .i64 (unpackR p).h, .int .i64 (unpackR p).edge, .slice UA un uc]) := by
    have h0 := Row.new w2 24 [.int .i64 (unpackR p).w, .int .i64 (unpackR p).h, .int .i64 (unpackR p).edge, .slice UA un uc]
    try simp only [World.size_alloc] at h0
    exact h0
  have hgr9 : Below w2.heap.size w2 (World.alloc w2 (.cells #[.int .i64 (unpackR p).w, .int .i64 (unpackR p).h, .int .i64 (unpackR p).edge, .slice UA un uc] 24)) := by go_grown
  have B_w : Hid (Below w.heap.size w (World.alloc w2 (.cells #[.int .i64 (unpackR p).w, .int .i64 (unpackR p).h, .int .i64 (unpackR p).edge, .slice UA un uc] 24))) := below_on2 B_w.out hgr9
  have B_wa : Hid (Below wa.heap.size wa (World.alloc w2 (.cells #[.int .i64 (unpackR p).w, .int .i64 (unpackR p).h, .int .i64 (unpackR p).edge, .slice UA un uc] 24))) := below_on2 B_wa.out hgr9
  have B_w0 : Hid (Below w0.heap.size w0 (World.alloc w2 (.cells #[.int .i64 (unpackR p).w, .int .i64 (unpackR p).h, .int .i64 (unpackR p).edge, .slice UA un uc] 24))) := below_on2 B_w0.out hgr9
  have B_w1 : Hid (Below w1.heap.size w1 (World.alloc w2 (.cells #[.int .i64 (unpackR p).w, .int .i64 (unpackR p).h, .int .i64 (unpackR p).edge, .slice UA un uc] 24))) := below_on2 B_w1.out hgr9
  have B_w2 : Hid (Below w2.heap.size w2 (World.alloc w2 (.cells #[.int .i64 (unpackR p).w, .int .i64 (unpackR p).h, .int .i64 (unpackR p).edge, .slice UA un uc] 24))) := hgr9
  clear hgr9
  clear k0 k1 k2 k3 kl
  revert RU B_w B_wa B_w0 B_w1 B_w2
  generalize (World.alloc w2 (.cells #[.int .i64 (unpackR p).w, .int .i64 (unpackR p).h, .int .i64 (unpackR p).edge, .slice UA un uc] 24)) = wb
  intro RU B_w B_wa B_w0 B_w1 B_w2
  refine (rPlUnpack_any p A n c sl wb (H1.out.up B_w.out)).mono ?_
  rintro e w3 ⟨VA, vn, vc, rfl, hga, hb⟩
  have HV : Hid (GAt w3 (unpackR p) VA vn) := hga
  clear hga
  have B_w : Hid (Below w.heap.size w w3) := below_on2 B_w.out hb
  have B_wa : Hid (Below wa.heap.size wa w3) := below_on2 B_wa.out hb
  have B_w0 : Hid (Below w0.heap.size w0 w3) := below_on2 B_w0.out hb
  have B_w1 : Hid (Below w1.heap.size w1 w3) := below_on2 B_w1.out hb
  have B_w2 : Hid (Below w2.heap.size w2 w3) := below_on2 B_w2.out hb
  have B_wb : Hid (Below wb.heap.size wb w3) := hb
  clear hb
  go_wp2_with fail
  have RV : Hid (Row (World.alloc w3 (.cells #[.int .i64 (unpackR p).w, .int .i64 (unpackR p).h, .int .i64 (unpackR p).edge, .slice VA vn vc] 24)) (w3.heap.size) 24 [.int .i64 (unpackR p).w, .int .i64 (unpackR p).h, .int .i64 (unpackR p).edge, .slice VA vn vc]) := by
    have h0 := Row.new w3 24 [.int .i64 (unpackR p).w, .int .i64 (unpackR p).h, .int .i64 (unpackR p).edge, .slice VA vn vc]
    try simp only [World.size_alloc] at h0
    exact h0
  have hgr9 : Below w3.heap.size w3 (World.alloc w3 (.cells #[.int .i64 (unpackR p).w, .int .i64 (unpackR p).h, .int .i64 (unpackR p).edge, .slice VA vn vc] 24)) := by go_grown
  have B_w : Hid (Below w.heap.size w (World.alloc w3 (.cells #[.int .i64 (unpackR p).w, .int .i64 (unpackR p).h, .int .i64 (unpackR p).edge, .slice VA vn vc] 24))) := below_on2 B_w.out hgr9
  have B_wa : Hid (Below wa.heap.size wa (World.alloc w3 (.cells #[.int .i64 (unpackR p).w, .int .i64 (unpackR p).h, .int .i64 (unpackR p).edge, .slice VA vn vc] 24))) := below_on2 B_wa.out hgr9
  have B_w0 : Hid (Below w0.heap.size w0 (World.alloc w3 (.cells #[.int .i64 (unpackR p).w, .int .i64 (unpackR p).h, .int .i64 (unpackR p).edge, .slice VA vn vc] 24))) := below_on2 B_w0.out hgr9
  have B_w1 : Hid (Below w1.heap.size w1 (World.alloc w3 (.cells #[.int .i64 (unpackR p).w, .int .i64 (unpackR p).h, .int .i64 (unpackR p).edge, .slice VA vn vc] 24))) := below_on2 B_w1.out hgr9
  have B_w2 : Hid (Below w2.heap.size w2 (World.alloc w3 (.cells #[.int .i64 (unpackR p).w, .int .i64 (unpackR p).h, .int .i64 (unpackR p).edge, .slice VA vn vc] 24))) := below_on2 B_w2.out hgr9
  have B_wb : Hid (Below wb.heap.size wb (World.alloc w3 (.cells #[.int .i64 (unpackR p).w, .int .i64 (unpackR p).h, .int .i64 (unpackR p).edge, .slice VA vn vc] 24))) := below_on2 B_wb.out hgr9
  have B_w3 : Hid (Below w3.heap.size w3 (World.alloc w3 (.cells #[.int .i64 (unpackR p).w, .int .i64 (unpackR p).h, .int .i64 (unpackR p).edge, .slice VA vn vc] 24))) := hgr9
  clear hgr9
  revert RV B_w B_wa B_w0 B_w1 B_w2 B_wb B_w3
  generalize (World.alloc w3 (.cells #[.int .i64 (unpackR p).w, .int .i64 (unpackR p).h, .int .i64 (unpackR p).edge, .slice VA vn vc] 24)) = wc
  intro RV B_w B_wa B_w0 B_w1 B_w2 B_wb B_w3
  obtain ⟨rb, hrb⟩ : ∃ rb, rightPl p = rb := ⟨_, rfl⟩
  have HRB : Hid (rightPl p = rb) := hrb
  obtain ⟨sb, hsb⟩ : ∃ sb, samePl p q = sb := ⟨_, rfl⟩
  have HSB : Hid (samePl p q = sb) := hsb
  have HSG : Hid (sameG (unpackR p) (unpackR p) = true) := (sameG_iff _ _).2 rfl
  clear hrb hsb
  refine wp_region_L (fun w' => Row w' (w.heap.size) 28 [.int .i64 p.w, .int .i64 p.h, .int .i64 p.edge, .slice A n c] ∧ Row w' (w.heap.size + 1) 28 [.int .i64 q.w, .int .i64 q.h, .int .i64 q.edge, .slice B k d] ∧ Row w' (w2.heap.size) 24 [.int .i64 (unpackR p).w, .int .i64 (unpackR p).h, .int .i64 (unpackR p).edge, .slice UA un uc] ∧ Row w' (w3.heap.size) 24 [.int .i64 (unpackR p).w, .int .i64 (unpackR p).h, .int .i64 (unpackR p).edge, .slice VA vn vc]) [] (by kernel_rfl) (by exact ⟨Row.drew (rowCells RA.out B_wa.out), Row.drew (rowCells RB.out B_wa.out), Row.drew (rowCells RU.out B_wb.out), Row.drew RV.out⟩) (fun hHeld => ?_)
  have B_w : Hid (Below w.heap.size w (World.drew wc)) := B_w.out.drew
  have B_wa : Hid (Below wa.heap.size wa (World.drew wc)) := B_wa.out.drew
  have B_w0 : Hid (Below w0.heap.size w0 (World.drew wc)) := B_w0.out.drew
  have B_w1 : Hid (Below w1.heap.size w1 (World.drew wc)) := B_w1.out.drew
  have B_w2 : Hid (Below w2.heap.size w2 (World.drew wc)) := B_w2.out.drew
  have B_wb : Hid (Below wb.heap.size wb (World.drew wc)) := B_wb.out.drew
  have B_w3 : Hid (Below w3.heap.size w3 (World.drew wc)) := B_w3.out.drew
  have B_wc : Hid (Below wc.heap.size wc (World.drew wc)) := (Below.refl _ _).drew
  revert hHeld B_w B_wa B_w0 B_w1 B_w2 B_wb B_w3 B_wc
  generalize World.drew wc = wcq
  intro hHeld B_w B_wa B_w0 B_w1 B_w2 B_wb B_w3 B_wc
  refine restL_take (i := 0) (v := ?va1) [] rfl (by kernel_rfl) (by kernel_rfl) (by kernel_rfl) (by kernel_rfl) (fun _ _ _ h => h) (Or.inl ⟨by rfl, ?ya1⟩) hHeld ?ra1
  case ya1 =>
    intro w' hSw
    obtain ⟨hS0, hS1, hS2, hS3⟩ := hSw
    have hT0 : Hid (Row w' (w.heap.size) 28 [.int .i64 p.w, .int .i64 p.h, .int .i64 p.edge, .slice A n c]) := hS0
    clear hS0
    have z0_0 := hT0.out.cell 0
    have z0_1 := hT0.out.cell 1
    have z0_2 := hT0.out.cell 2
    have z0_3 := hT0.out.cell 3
    have z0_l := hT0.out.lt
    simp only [List.getElem?_cons_zero, List.getElem?_cons_succ] at z0_0 z0_1 z0_2 z0_3
    have hT1 : Hid (Row w' (w.heap.size + 1) 28 [.int .i64 q.w, .int .i64 q.h, .int .i64 q.edge, .slice B k d]) := hS1
    clear hS1
    have z1_0 := hT1.out.cell 0
    have z1_1 := hT1.out.cell 1
    have z1_2 := hT1.out.cell 2
    have z1_3 := hT1.out.cell 3
    have z1_l := hT1.out.lt
    simp only [List.getElem?_cons_zero, List.getElem?_cons_succ] at z1_0 z1_1 z1_2 z1_3
    have hT2 : Hid (Row w' (w2.heap.size) 24 [.int .i64 (unpackR p).w, .int .i64 (unpackR p).h, .int .i64 (unpackR p).edge, .slice UA un uc]) := hS2
    clear hS2
    have z2_0 := hT2.out.cell 0
    have z2_1 := hT2.out.cell 1
    have z2_2 := hT2.out.cell 2
    have z2_3 := hT2.out.cell 3
    have z2_l := hT2.out.lt
    simp only [List.getElem?_cons_zero, List.getElem?_cons_succ] at z2_0 z2_1 z2_2 z2_3
    have hT3 : Hid (Row w' (w3.heap.size) 24 [.int .i64 (unpackR p).w, .int .i64 (unpackR p).h, .int .i64 (unpackR p).edge, .slice VA vn vc]) := hS3
    clear hS3
    have z3_0 := hT3.out.cell 0
    have z3_1 := hT3.out.cell 1
    have z3_2 := hT3.out.cell 2
    have z3_3 := hT3.out.cell 3
    have z3_l := hT3.out.lt
    simp only [List.getElem?_cons_zero, List.getElem?_cons_succ] at z3_0 z3_1 z3_2 z3_3
    go_simp
    try (with_reducible rfl)
  go_simp
  refine restL_take (i := 2) (v := ?va2) [] rfl (by kernel_rfl) (by kernel_rfl) (by kernel_rfl) (by kernel_rfl) (fun _ _ _ h => h) (Or.inl ⟨by rfl, ?ya2⟩) hHeld ?ra2
  case ya2 =>
    intro w' hSw
    obtain ⟨hS0, hS1, hS2, hS3⟩ := hSw
    have hT0 : Hid (Row w' (w.heap.size) 28 [.int .i64 p.w, .int .i64 p.h, .int .i64 p.edge, .slice A n c]) := hS0
    clear hS0
    have z0_0 := hT0.out.cell 0
    have z0_1 := hT0.out.cell 1
    have z0_2 := hT0.out.cell 2
    have z0_3 := hT0.out.cell 3
    have z0_l := hT0.out.lt
    simp only [List.getElem?_cons_zero, List.getElem?_cons_succ] at z0_0 z0_1 z0_2 z0_3
    have hT1 : Hid (Row w' (w.heap.size + 1) 28 [.int .i64 q.w, .int .i64 q.h, .int .i64 q.edge, .slice B k d]) := hS1
    clear hS1
    have z1_0 := hT1.out.cell 0
    have z1_1 := hT1.out.cell 1
    have z1_2 := hT1.out.cell 2
    have z1_3 := hT1.out.cell 3
    have z1_l := hT1.out.lt
    simp only [List.getElem?_cons_zero, List.getElem?_cons_succ] at z1_0 z1_1 z1_2 z1_3
    have hT2 : Hid (Row w' (w2.heap.size) 24 [.int .i64 (unpackR p).w, .int .i64 (unpackR p).h, .int .i64 (unpackR p).edge, .slice UA un uc]) := hS2
    clear hS2
    have z2_0 := hT2.out.cell 0
    have z2_1 := hT2.out.cell 1
    have z2_2 := hT2.out.cell 2
    have z2_3 := hT2.out.cell 3
    have z2_l := hT2.out.lt
    simp only [List.getElem?_cons_zero, List.getElem?_cons_succ] at z2_0 z2_1 z2_2 z2_3
    have hT3 : Hid (Row w' (w3.heap.size) 24 [.int .i64 (unpackR p).w, .int .i64 (unpackR p).h, .int .i64 (unpackR p).edge, .slice VA vn vc]) := hS3
    clear hS3
    have z3_0 := hT3.out.cell 0
    have z3_1 := hT3.out.cell 1
    have z3_2 := hT3.out.cell 2
    have z3_3 := hT3.out.cell 3
    have z3_l := hT3.out.lt
    simp only [List.getElem?_cons_zero, List.getElem?_cons_succ] at z3_0 z3_1 z3_2 z3_3
    go_simp
    try (with_reducible rfl)
  go_simp
  refine restL_one (i := 1) (by kernel_rfl) rfl (fun K hK => ?_)
  go_simp
  go_at_call 16
  refine (plRight_any p A n c sl wcq (by exact (H1.out.up B_w.out))).mono ?_
  rw [HRB.out]
  rintro e4 x1 ⟨rfl, hb⟩
  have B_w : Hid (Below w.heap.size w x1) := below_on2 B_w.out hb
  have B_wa : Hid (Below wa.heap.size wa x1) := below_on2 B_wa.out hb
  have B_w0 : Hid (Below w0.heap.size w0 x1) := below_on2 B_w0.out hb
  have B_w1 : Hid (Below w1.heap.size w1 x1) := below_on2 B_w1.out hb
  have B_w2 : Hid (Below w2.heap.size w2 x1) := below_on2 B_w2.out hb
  have B_wb : Hid (Below wb.heap.size wb x1) := below_on2 B_wb.out hb
  have B_w3 : Hid (Below w3.heap.size w3 x1) := below_on2 B_w3.out hb
  have B_wc : Hid (Below wc.heap.size wc x1) := below_on2 B_wc.out hb
  have B_wcq : Hid (Below wcq.heap.size wcq x1) := hb
  clear hb
  clear hHeld
  refine hK.out _ _ (fun _ => ?keep) (fun hHeld => ?_)
  case keep => exact ⟨(rowCells RA.out B_wa.out), (rowCells RB.out B_wa.out), (rowCells RU.out B_wb.out), (rowCells RV.out B_wc.out)⟩
  have hHeld := hHeld rfl
  clear hK K
  try go_simp
  refine restL_one (i := 3) (by kernel_rfl) rfl (fun K hK => ?_)
  go_simp
  go_at_call 17
  refine (rPlRight_any p A n c sl x1 (by exact (H1.out.up B_w.out))).mono ?_
  rw [HRB.out]
  rintro e4 x2 ⟨rfl, hb⟩
  have B_w : Hid (Below w.heap.size w x2) := below_on2 B_w.out hb
  have B_wa : Hid (Below wa.heap.size wa x2) := below_on2 B_wa.out hb
  have B_w0 : Hid (Below w0.heap.size w0 x2) := below_on2 B_w0.out hb
  have B_w1 : Hid (Below w1.heap.size w1 x2) := below_on2 B_w1.out hb
  have B_w2 : Hid (Below w2.heap.size w2 x2) := below_on2 B_w2.out hb
  have B_wb : Hid (Below wb.heap.size wb x2) := below_on2 B_wb.out hb
  have B_w3 : Hid (Below w3.heap.size w3 x2) := below_on2 B_w3.out hb
  have B_wc : Hid (Below wc.heap.size wc x2) := below_on2 B_wc.out hb
  have B_wcq : Hid (Below wcq.heap.size wcq x2) := below_on2 B_wcq.out hb
  have B_x1 : Hid (Below x1.heap.size x1 x2) := hb
  clear hb
  clear hHeld
  refine hK.out _ _ (fun _ => ?keep) (fun hHeld => ?_)
  case keep => exact ⟨(rowCells RA.out B_wa.out), (rowCells RB.out B_wa.out), (rowCells RU.out B_wb.out), (rowCells RV.out B_wc.out)⟩
  have hHeld := hHeld rfl
  clear hK K
  try go_simp
  refine restL_pure (i := 4) (v := ?va3) rfl (by kernel_rfl) (by kernel_rfl) (by kernel_rfl) (fun _ _ _ h => h) (Or.inl ⟨by rfl, ?ya3⟩) ?ra3
  case ya3 => intro w' hSw; clear hSw; go_simp; try (with_reducible rfl)
  go_simp
  refine restL_pure (i := 5) (v := ?va4) rfl (by kernel_rfl) (by kernel_rfl) (by kernel_rfl) (fun _ _ _ h => h) (Or.inl ⟨by rfl, ?ya4⟩) ?ra4
  case ya4 => intro w' hSw; clear hSw; go_simp; try (with_reducible rfl)
  go_simp
  refine restL_take (i := 6) (v := ?va5) [] rfl (by kernel_rfl) (by kernel_rfl) (by kernel_rfl) (by kernel_rfl) (fun _ _ _ h => h) (Or.inl ⟨by first | rfl | (go_simp; done), ?ya5⟩) hHeld ?ra5
  case ya5 =>
    intro w' hSw
    obtain ⟨hS0, hS1, hS2, hS3⟩ := hSw
    have hT0 : Hid (Row w' (w.heap.size) 28 [.int .i64 p.w, .int .i64 p.h, .int .i64 p.edge, .slice A n c]) := hS0
    clear hS0
    have z0_0 := hT0.out.cell 0
    have z0_1 := hT0.out.cell 1
    have z0_2 := hT0.out.cell 2
    have z0_3 := hT0.out.cell 3
    have z0_l := hT0.out.lt
    simp only [List.getElem?_cons_zero, List.getElem?_cons_succ] at z0_0 z0_1 z0_2 z0_3
    have hT1 : Hid (Row w' (w.heap.size + 1) 28 [.int .i64 q.w, .int .i64 q.h, .int .i64 q.edge, .slice B k d]) := hS1
    clear hS1
    have z1_0 := hT1.out.cell 0
    have z1_1 := hT1.out.cell 1
    have z1_2 := hT1.out.cell 2
    have z1_3 := hT1.out.cell 3
    have z1_l := hT1.out.lt
    simp only [List.getElem?_cons_zero, List.getElem?_cons_succ] at z1_0 z1_1 z1_2 z1_3
    have hT2 : Hid (Row w' (w2.heap.size) 24 [.int .i64 (unpackR p).w, .int .i64 (unpackR p).h, .int .i64 (unpackR p).edge, .slice UA un uc]) := hS2
    clear hS2
    have z2_0 := hT2.out.cell 0
    have z2_1 := hT2.out.cell 1
    have z2_2 := hT2.out.cell 2
    have z2_3 := hT2.out.cell 3
    have z2_l := hT2.out.lt
    simp only [List.getElem?_cons_zero, List.getElem?_cons_succ] at z2_0 z2_1 z2_2 z2_3
    have hT3 : Hid (Row w' (w3.heap.size) 24 [.int .i64 (unpackR p).w, .int .i64 (unpackR p).h, .int .i64 (unpackR p).edge, .slice VA vn vc]) := hS3
    clear hS3
    have z3_0 := hT3.out.cell 0
    have z3_1 := hT3.out.cell 1
    have z3_2 := hT3.out.cell 2
    have z3_3 := hT3.out.cell 3
    have z3_l := hT3.out.lt
    simp only [List.getElem?_cons_zero, List.getElem?_cons_succ] at z3_0 z3_1 z3_2 z3_3
    go_simp
    try (with_reducible rfl)
  go_simp
  refine restL_take (i := 7) (v := ?va6) [] rfl (by kernel_rfl) (by kernel_rfl) (by kernel_rfl) (by kernel_rfl) (fun _ _ _ h => h) (Or.inl ⟨by first | rfl | (go_simp; done), ?ya6⟩) hHeld ?ra6
  case ya6 =>
    intro w' hSw
    obtain ⟨hS0, hS1, hS2, hS3⟩ := hSw
    have hT0 : Hid (Row w' (w.heap.size) 28 [.int .i64 p.w, .int .i64 p.h, .int .i64 p.edge, .slice A n c]) := hS0
    clear hS0
    have z0_0 := hT0.out.cell 0
    have z0_1 := hT0.out.cell 1
    have z0_2 := hT0.out.cell 2
    have z0_3 := hT0.out.cell 3
    have z0_l := hT0.out.lt
    simp only [List.getElem?_cons_zero, List.getElem?_cons_succ] at z0_0 z0_1 z0_2 z0_3
    have hT1 : Hid (Row w' (w.heap.size + 1) 28 [.int .i64 q.w, .int .i64 q.h, .int .i64 q.edge, .slice B k d]) := hS1
    clear hS1
    have z1_0 := hT1.out.cell 0
    have z1_1 := hT1.out.cell 1
    have z1_2 := hT1.out.cell 2
    have z1_3 := hT1.out.cell 3
    have z1_l := hT1.out.lt
    simp only [List.getElem?_cons_zero, List.getElem?_cons_succ] at z1_0 z1_1 z1_2 z1_3
    have hT2 : Hid (Row w' (w2.heap.size) 24 [.int .i64 (unpackR p).w, .int .i64 (unpackR p).h, .int .i64 (unpackR p).edge, .slice UA un uc]) := hS2
    clear hS2
    have z2_0 := hT2.out.cell 0
    have z2_1 := hT2.out.cell 1
    have z2_2 := hT2.out.cell 2
    have z2_3 := hT2.out.cell 3
    have z2_l := hT2.out.lt
    simp only [List.getElem?_cons_zero, List.getElem?_cons_succ] at z2_0 z2_1 z2_2 z2_3
    have hT3 : Hid (Row w' (w3.heap.size) 24 [.int .i64 (unpackR p).w, .int .i64 (unpackR p).h, .int .i64 (unpackR p).edge, .slice VA vn vc]) := hS3
    clear hS3
    have z3_0 := hT3.out.cell 0
    have z3_1 := hT3.out.cell 1
    have z3_2 := hT3.out.cell 2
    have z3_3 := hT3.out.cell 3
    have z3_l := hT3.out.lt
    simp only [List.getElem?_cons_zero, List.getElem?_cons_succ] at z3_0 z3_1 z3_2 z3_3
    go_simp
    try (with_reducible rfl)
  go_simp
  refine restL_take (i := 9) (v := ?va7) [] rfl (by kernel_rfl) (by kernel_rfl) (by kernel_rfl) (by kernel_rfl) (fun _ _ _ h => h) (Or.inl ⟨by first | rfl | (go_simp; done), ?ya7⟩) hHeld ?ra7
  case ya7 =>
    intro w' hSw
    obtain ⟨hS0, hS1, hS2, hS3⟩ := hSw
    have hT0 : Hid (Row w' (w.heap.size) 28 [.int .i64 p.w, .int .i64 p.h, .int .i64 p.edge, .slice A n c]) := hS0
    clear hS0
    have z0_0 := hT0.out.cell 0
    have z0_1 := hT0.out.cell 1
    have z0_2 := hT0.out.cell 2
    have z0_3 := hT0.out.cell 3
    have z0_l := hT0.out.lt
    simp only [List.getElem?_cons_zero, List.getElem?_cons_succ] at z0_0 z0_1 z0_2 z0_3
    have hT1 : Hid (Row w' (w.heap.size + 1) 28 [.int .i64 q.w, .int .i64 q.h, .int .i64 q.edge, .slice B k d]) := hS1
    clear hS1
    have z1_0 := hT1.out.cell 0
    have z1_1 := hT1.out.cell 1
    have z1_2 := hT1.out.cell 2
    have z1_3 := hT1.out.cell 3
    have z1_l := hT1.out.lt
    simp only [List.getElem?_cons_zero, List.getElem?_cons_succ] at z1_0 z1_1 z1_2 z1_3
    have hT2 : Hid (Row w' (w2.heap.size) 24 [.int .i64 (unpackR p).w, .int .i64 (unpackR p).h, .int .i64 (unpackR p).edge, .slice UA un uc]) := hS2
    clear hS2
    have z2_0 := hT2.out.cell 0
    have z2_1 := hT2.out.cell 1
    have z2_2 := hT2.out.cell 2
    have z2_3 := hT2.out.cell 3
    have z2_l := hT2.out.lt
    simp only [List.getElem?_cons_zero, List.getElem?_cons_succ] at z2_0 z2_1 z2_2 z2_3
    have hT3 : Hid (Row w' (w3.heap.size) 24 [.int .i64 (unpackR p).w, .int .i64 (unpackR p).h, .int .i64 (unpackR p).edge, .slice VA vn vc]) := hS3
    clear hS3
    have z3_0 := hT3.out.cell 0
    have z3_1 := hT3.out.cell 1
    have z3_2 := hT3.out.cell 2
    have z3_3 := hT3.out.cell 3
    have z3_l := hT3.out.lt
    simp only [List.getElem?_cons_zero, List.getElem?_cons_succ] at z3_0 z3_1 z3_2 z3_3
    go_simp
    try (with_reducible rfl)
  go_simp
  refine restL_take (i := 10) (v := ?va8) [] rfl (by kernel_rfl) (by kernel_rfl) (by kernel_rfl) (by kernel_rfl) (fun _ _ _ h => h) (Or.inl ⟨by first | rfl | (go_simp; done), ?ya8⟩) hHeld ?ra8
  case ya8 =>
    intro w' hSw
    obtain ⟨hS0, hS1, hS2, hS3⟩ := hSw
    have hT0 : Hid (Row w' (w.heap.size) 28 [.int .i64 p.w, .int .i64 p.h, .int .i64 p.edge, .slice A n c]) := hS0
    clear hS0
    have z0_0 := hT0.out.cell 0
    have z0_1 := hT0.out.cell 1
    have z0_2 := hT0.out.cell 2
    have z0_3 := hT0.out.cell 3
    have z0_l := hT0.out.lt
    simp only [List.getElem?_cons_zero, List.getElem?_cons_succ] at z0_0 z0_1 z0_2 z0_3
    have hT1 : Hid (Row w' (w.heap.size + 1) 28 [.int .i64 q.w, .int .i64 q.h, .int .i64 q.edge, .slice B k d]) := hS1
    clear hS1
    have z1_0 := hT1.out.cell 0
    have z1_1 := hT1.out.cell 1
    have z1_2 := hT1.out.cell 2
    have z1_3 := hT1.out.cell 3
    have z1_l := hT1.out.lt
    simp only [List.getElem?_cons_zero, List.getElem?_cons_succ] at z1_0 z1_1 z1_2 z1_3
    have hT2 : Hid (Row w' (w2.heap.size) 24 [.int .i64 (unpackR p).w, .int .i64 (unpackR p).h, .int .i64 (unpackR p).edge, .slice UA un uc]) := hS2
    clear hS2
    have z2_0 := hT2.out.cell 0
    have z2_1 := hT2.out.cell 1
    have z2_2 := hT2.out.cell 2
    have z2_3 := hT2.out.cell 3
    have z2_l := hT2.out.lt
    simp only [List.getElem?_cons_zero, List.getElem?_cons_succ] at z2_0 z2_1 z2_2 z2_3
    have hT3 : Hid (Row w' (w3.heap.size) 24 [.int .i64 (unpackR p).w, .int .i64 (unpackR p).h, .int .i64 (unpackR p).edge, .slice VA vn vc]) := hS3
    clear hS3
    have z3_0 := hT3.out.cell 0
    have z3_1 := hT3.out.cell 1
    have z3_2 := hT3.out.cell 2
    have z3_3 := hT3.out.cell 3
    have z3_l := hT3.out.lt
    simp only [List.getElem?_cons_zero, List.getElem?_cons_succ] at z3_0 z3_1 z3_2 z3_3
    go_simp
    try (with_reducible rfl)
  go_simp
  refine restL_one (i := 8) (by kernel_rfl) rfl (fun K hK => ?_)
  go_simp
  go_at_call 18
  refine (plSame_any p q A B n c k d sl sm x2 (by exact (H1.out.up B_w.out)) (by exact (H2.out.up B_w.out))).mono ?_
  rw [HSB.out]
  rintro e4 x3 ⟨rfl, hb⟩
  have B_w : Hid (Below w.heap.size w x3) := below_on2 B_w.out hb
  have B_wa : Hid (Below wa.heap.size wa x3) := below_on2 B_wa.out hb
  have B_w0 : Hid (Below w0.heap.size w0 x3) := below_on2 B_w0.out hb
  have B_w1 : Hid (Below w1.heap.size w1 x3) := below_on2 B_w1.out hb
  have B_w2 : Hid (Below w2.heap.size w2 x3) := below_on2 B_w2.out hb
  have B_wb : Hid (Below wb.heap.size wb x3) := below_on2 B_wb.out hb
  have B_w3 : Hid (Below w3.heap.size w3 x3) := below_on2 B_w3.out hb
  have B_wc : Hid (Below wc.heap.size wc x3) := below_on2 B_wc.out hb
  have B_wcq : Hid (Below wcq.heap.size wcq x3) := below_on2 B_wcq.out hb
  have B_x1 : Hid (Below x1.heap.size x1 x3) := below_on2 B_x1.out hb
  have B_x2 : Hid (Below x2.heap.size x2 x3) := hb
  clear hb
  clear hHeld
  refine hK.out _ _ (fun _ => ?keep) (fun hHeld => ?_)
  case keep => exact ⟨(rowCells RA.out B_wa.out), (rowCells RB.out B_wa.out), (rowCells RU.out B_wb.out), (rowCells RV.out B_wc.out)⟩
  have hHeld := hHeld rfl
  clear hK K
  try go_simp
  refine restL_one (i := 11) (by kernel_rfl) rfl (fun K hK => ?_)
  go_simp
  go_at_call 12
  refine (rPlSame_any p q A B n c k d sl sm x3 (by exact (H1.out.up B_w.out)) (by exact (H2.out.up B_w.out))).mono ?_
  rw [HSB.out]
  rintro e4 x4 ⟨rfl, hb⟩
  have B_w : Hid (Below w.heap.size w x4) := below_on2 B_w.out hb
  have B_wa : Hid (Below wa.heap.size wa x4) := below_on2 B_wa.out hb
  have B_w0 : Hid (Below w0.heap.size w0 x4) := below_on2 B_w0.out hb
  have B_w1 : Hid (Below w1.heap.size w1 x4) := below_on2 B_w1.out hb
  have B_w2 : Hid (Below w2.heap.size w2 x4) := below_on2 B_w2.out hb
  have B_wb : Hid (Below wb.heap.size wb x4) := below_on2 B_wb.out hb
  have B_w3 : Hid (Below w3.heap.size w3 x4) := below_on2 B_w3.out hb
  have B_wc : Hid (Below wc.heap.size wc x4) := below_on2 B_wc.out hb
  have B_wcq : Hid (Below wcq.heap.size wcq x4) := below_on2 B_wcq.out hb
  have B_x1 : Hid (Below x1.heap.size x1 x4) := below_on2 B_x1.out hb
  have B_x2 : Hid (Below x2.heap.size x2 x4) := below_on2 B_x2.out hb
  have B_x3 : Hid (Below x3.heap.size x3 x4) := hb
  clear hb
  clear hHeld
  refine hK.out _ _ (fun _ => ?keep) (fun hHeld => ?_)
  case keep => exact ⟨(rowCells RA.out B_wa.out), (rowCells RB.out B_wa.out), (rowCells RU.out B_wb.out), (rowCells RV.out B_wc.out)⟩
  have hHeld := hHeld rfl
  clear hK K
  try go_simp
  refine restL_pure (i := 12) (v := ?va9) rfl (by kernel_rfl) (by kernel_rfl) (by kernel_rfl) (fun _ _ _ h => h) (Or.inl ⟨by first | rfl | (go_simp; done), ?ya9⟩) ?ra9
  case ya9 => intro w' hSw; clear hSw; go_simp; try (with_reducible rfl)
  go_simp
  refine restL_pure (i := 13) (v := ?va10) rfl (by kernel_rfl) (by kernel_rfl) (by kernel_rfl) (fun _ _ _ h => h) (Or.inl ⟨by rfl, ?ya10⟩) ?ra10
  case ya10 => intro w' hSw; clear hSw; go_simp; try (with_reducible rfl)
  go_simp
  refine restL_pure (i := 14) (v := ?va11) rfl (by kernel_rfl) (by kernel_rfl) (by kernel_rfl) (fun _ _ _ h => h) (Or.inl ⟨by rfl, ?ya11⟩) ?ra11
  case ya11 => intro w' hSw; clear hSw; go_simp; try (with_reducible rfl)
  go_simp
  refine restL_take (i := 15) (v := ?va12) [] rfl (by kernel_rfl) (by kernel_rfl) (by kernel_rfl) (by kernel_rfl) (fun _ _ _ h => h) (Or.inl ⟨by first | rfl | (go_simp; done), ?ya12⟩) hHeld ?ra12
  case ya12 =>
    intro w' hSw
    obtain ⟨hS0, hS1, hS2, hS3⟩ := hSw
    have hT0 : Hid (Row w' (w.heap.size) 28 [.int .i64 p.w, .int .i64 p.h, .int .i64 p.edge, .slice A n c]) := hS0
    clear hS0
    have z0_0 := hT0.out.cell 0
    have z0_1 := hT0.out.cell 1
    have z0_2 := hT0.out.cell 2
    have z0_3 := hT0.out.cell 3
    have z0_l := hT0.out.lt
    simp only [List.getElem?_cons_zero, List.getElem?_cons_succ] at z0_0 z0_1 z0_2 z0_3
    have hT1 : Hid (Row w' (w.heap.size + 1) 28 [.int .i64 q.w, .int .i64 q.h, .int .i64 q.edge, .slice B k d]) := hS1
    clear hS1
    have z1_0 := hT1.out.cell 0
    have z1_1 := hT1.out.cell 1
    have z1_2 := hT1.out.cell 2
    have z1_3 := hT1.out.cell 3
    have z1_l := hT1.out.lt
    simp only [List.getElem?_cons_zero, List.getElem?_cons_succ] at z1_0 z1_1 z1_2 z1_3
    have hT2 : Hid (Row w' (w2.heap.size) 24 [.int .i64 (unpackR p).w, .int .i64 (unpackR p).h, .int .i64 (unpackR p).edge, .slice UA un uc]) := hS2
    clear hS2
    have z2_0 := hT2.out.cell 0
    have z2_1 := hT2.out.cell 1
    have z2_2 := hT2.out.cell 2
    have z2_3 := hT2.out.cell 3
    have z2_l := hT2.out.lt
    simp only [List.getElem?_cons_zero, List.getElem?_cons_succ] at z2_0 z2_1 z2_2 z2_3
    have hT3 : Hid (Row w' (w3.heap.size) 24 [.int .i64 (unpackR p).w, .int .i64 (unpackR p).h, .int .i64 (unpackR p).edge, .slice VA vn vc]) := hS3
    clear hS3
    have z3_0 := hT3.out.cell 0
    have z3_1 := hT3.out.cell 1
    have z3_2 := hT3.out.cell 2
    have z3_3 := hT3.out.cell 3
    have z3_l := hT3.out.lt
    simp only [List.getElem?_cons_zero, List.getElem?_cons_succ] at z3_0 z3_1 z3_2 z3_3
    go_simp
    try (with_reducible rfl)
  go_simp
  refine restL_take (i := 16) (v := ?va13) [] rfl (by kernel_rfl) (by kernel_rfl) (by kernel_rfl) (by kernel_rfl) (fun _ _ _ h => h) (Or.inl ⟨by first | rfl | (go_simp; done), ?ya13⟩) hHeld ?ra13
  case ya13 =>
    intro w' hSw
    obtain ⟨hS0, hS1, hS2, hS3⟩ := hSw
    have hT0 : Hid (Row w' (w.heap.size) 28 [.int .i64 p.w, .int .i64 p.h, .int .i64 p.edge, .slice A n c]) := hS0
    clear hS0
    have z0_0 := hT0.out.cell 0
    have z0_1 := hT0.out.cell 1
    have z0_2 := hT0.out.cell 2
    have z0_3 := hT0.out.cell 3
    have z0_l := hT0.out.lt
    simp only [List.getElem?_cons_zero, List.getElem?_cons_succ] at z0_0 z0_1 z0_2 z0_3
    have hT1 : Hid (Row w' (w.heap.size + 1) 28 [.int .i64 q.w, .int .i64 q.h, .int .i64 q.edge, .slice B k d]) := hS1
    clear hS1
    have z1_0 := hT1.out.cell 0
    have z1_1 := hT1.out.cell 1
    have z1_2 := hT1.out.cell 2
    have z1_3 := hT1.out.cell 3
    have z1_l := hT1.out.lt
    simp only [List.getElem?_cons_zero, List.getElem?_cons_succ] at z1_0 z1_1 z1_2 z1_3
    have hT2 : Hid (Row w' (w2.heap.size) 24 [.int .i64 (unpackR p).w, .int .i64 (unpackR p).h, .int .i64 (unpackR p).edge, .slice UA un uc]) := hS2
    clear hS2
    have z2_0 := hT2.out.cell 0
    have z2_1 := hT2.out.cell 1
    have z2_2 := hT2.out.cell 2
    have z2_3 := hT2.out.cell 3
    have z2_l := hT2.out.lt
    simp only [List.getElem?_cons_zero, List.getElem?_cons_succ] at z2_0 z2_1 z2_2 z2_3
    have hT3 : Hid (Row w' (w3.heap.size) 24 [.int .i64 (unpackR p).w, .int .i64 (unpackR p).h, .int .i64 (unpackR p).edge, .slice VA vn vc]) := hS3
    clear hS3
    have z3_0 := hT3.out.cell 0
    have z3_1 := hT3.out.cell 1
    have z3_2 := hT3.out.cell 2
    have z3_3 := hT3.out.cell 3
    have z3_l := hT3.out.lt
    simp only [List.getElem?_cons_zero, List.getElem?_cons_succ] at z3_0 z3_1 z3_2 z3_3
    go_simp
    try (with_reducible rfl)
  go_simp
  refine restL_one (i := 17) (by kernel_rfl) rfl (fun K hK => ?_)
  go_simp
  go_at_call 19
  refine (rGSame_any (unpackR p) (unpackR p) UA VA un uc vn vc x4 (by exact (HU.out.up B_w2.out)) (by exact (HV.out.up B_w3.out))).mono ?_
  rw [HSG.out]
  rintro e4 x5 ⟨rfl, hb⟩
  have B_w : Hid (Below w.heap.size w x5) := below_on2 B_w.out hb
  have B_wa : Hid (Below wa.heap.size wa x5) := below_on2 B_wa.out hb
  have B_w0 : Hid (Below w0.heap.size w0 x5) := below_on2 B_w0.out hb
  have B_w1 : Hid (Below w1.heap.size w1 x5) := below_on2 B_w1.out hb
  have B_w2 : Hid (Below w2.heap.size w2 x5) := below_on2 B_w2.out hb
  have B_wb : Hid (Below wb.heap.size wb x5) := below_on2 B_wb.out hb
  have B_w3 : Hid (Below w3.heap.size w3 x5) := below_on2 B_w3.out hb
  have B_wc : Hid (Below wc.heap.size wc x5) := below_on2 B_wc.out hb
  have B_wcq : Hid (Below wcq.heap.size wcq x5) := below_on2 B_wcq.out hb
  have B_x1 : Hid (Below x1.heap.size x1 x5) := below_on2 B_x1.out hb
  have B_x2 : Hid (Below x2.heap.size x2 x5) := below_on2 B_x2.out hb
  have B_x3 : Hid (Below x3.heap.size x3 x5) := below_on2 B_x3.out hb
  have B_x4 : Hid (Below x4.heap.size x4 x5) := hb
  clear hb
  clear hHeld
  refine hK.out _ _ (fun _ => ?keep) (fun hHeld => ?_)
  case keep => exact ⟨(rowCells RA.out B_wa.out), (rowCells RB.out B_wa.out), (rowCells RU.out B_wb.out), (rowCells RV.out B_wc.out)⟩
  have hHeld := hHeld rfl
  clear hK K
  try go_simp
  refine restL_pure (i := 18) (v := ?va14) rfl (by kernel_rfl) (by kernel_rfl) (by kernel_rfl) (fun _ _ _ h => h) (Or.inl ⟨by rfl, ?ya14⟩) ?ra14
  case ya14 => intro w' hSw; clear hSw; go_simp; try (with_reducible rfl)
  go_simp
  refine restL_pure (i := 19) (v := ?va15) rfl (by kernel_rfl) (by kernel_rfl) (by kernel_rfl) (fun _ _ _ h => h) (Or.inl ⟨by rfl, ?ya15⟩) ?ra15
  case ya15 => intro w' hSw; clear hSw; go_simp; try (with_reducible rfl)
  go_simp
  refine restL_pure (i := 20) (v := ?va16) rfl (by kernel_rfl) (by kernel_rfl) (by kernel_rfl) (fun _ _ _ h => h) (Or.inl ⟨by first | rfl | (go_simp; done), ?ya16⟩) ?ra16
  case ya16 => intro w' hSw; clear hSw; go_simp; try (with_reducible rfl)
  go_simp
  refine restL_pure (i := 21) (v := ?va17) rfl (by kernel_rfl) (by kernel_rfl) (by kernel_rfl) (fun _ _ _ h => h) (Or.inl ⟨by first | rfl | (go_simp; done), ?ya17⟩) ?ra17
  case ya17 => intro w' hSw; clear hSw; go_simp; try (with_reducible rfl)
  go_simp
  refine restL_pure (i := 22) (v := ?va18) rfl (by kernel_rfl) (by kernel_rfl) (by kernel_rfl) (fun _ _ _ h => h) (Or.inl ⟨by first | rfl | (go_simp; done), ?ya18⟩) ?ra18
  case ya18 => intro w' hSw; clear hSw; go_simp; try (with_reducible rfl)
  go_simp
  refine restL_pure (i := 23) (v := ?va19) rfl (by kernel_rfl) (by kernel_rfl) (by kernel_rfl) (fun _ _ _ h => h) (Or.inl ⟨by rfl, ?ya19⟩) ?ra19
  case ya19 => intro w' hSw; clear hSw; go_simp; try (with_reducible rfl)
  go_simp
  refine restL_pure (i := 24) (v := ?va20) rfl (by kernel_rfl) (by kernel_rfl) (by kernel_rfl) (fun _ _ _ h => h) (Or.inl ⟨by rfl, ?ya20⟩) ?ra20
  case ya20 => intro w' hSw; clear hSw; go_simp; try (with_reducible rfl)
  go_simp
  refine restL_take (i := 25) (v := ?va21) [] rfl (by kernel_rfl) (by kernel_rfl) (by kernel_rfl) (by kernel_rfl) (fun _ _ _ h => h) (Or.inl ⟨by first | rfl | (go_simp; done), ?ya21⟩) hHeld ?ra21
  case ya21 =>
    intro w' hSw
    obtain ⟨hS0, hS1, hS2, hS3⟩ := hSw
    have hT0 : Hid (Row w' (w.heap.size) 28 [.int .i64 p.w, .int .i64 p.h, .int .i64 p.edge, .slice A n c]) := hS0
    clear hS0
    have z0_0 := hT0.out.cell 0
    have z0_1 := hT0.out.cell 1
    have z0_2 := hT0.out.cell 2
    have z0_3 := hT0.out.cell 3
    have z0_l := hT0.out.lt
    simp only [List.getElem?_cons_zero, List.getElem?_cons_succ] at z0_0 z0_1 z0_2 z0_3
    have hT1 : Hid (Row w' (w.heap.size + 1) 28 [.int .i64 q.w, .int .i64 q.h, .int .i64 q.edge, .slice B k d]) := hS1
    clear hS1
    have z1_0 := hT1.out.cell 0
    have z1_1 := hT1.out.cell 1
    have z1_2 := hT1.out.cell 2
    have z1_3 := hT1.out.cell 3
    have z1_l := hT1.out.lt
    simp only [List.getElem?_cons_zero, List.getElem?_cons_succ] at z1_0 z1_1 z1_2 z1_3
    have hT2 : Hid (Row w' (w2.heap.size) 24 [.int .i64 (unpackR p).w, .int .i64 (unpackR p).h, .int .i64 (unpackR p).edge, .slice UA un uc]) := hS2
    clear hS2
    have z2_0 := hT2.out.cell 0
    have z2_1 := hT2.out.cell 1
    have z2_2 := hT2.out.cell 2
    have z2_3 := hT2.out.cell 3
    have z2_l := hT2.out.lt
    simp only [List.getElem?_cons_zero, List.getElem?_cons_succ] at z2_0 z2_1 z2_2 z2_3
    have hT3 : Hid (Row w' (w3.heap.size) 24 [.int .i64 (unpackR p).w, .int .i64 (unpackR p).h, .int .i64 (unpackR p).edge, .slice VA vn vc]) := hS3
    clear hS3
    have z3_0 := hT3.out.cell 0
    have z3_1 := hT3.out.cell 1
    have z3_2 := hT3.out.cell 2
    have z3_3 := hT3.out.cell 3
    have z3_l := hT3.out.lt
    simp only [List.getElem?_cons_zero, List.getElem?_cons_succ] at z3_0 z3_1 z3_2 z3_3
    go_simp
    try (with_reducible rfl)
  go_simp
  refine restL_take (i := 27) (v := ?va22) [] rfl (by kernel_rfl) (by kernel_rfl) (by kernel_rfl) (by kernel_rfl) (fun _ _ _ h => h) (Or.inl ⟨by first | rfl | (go_simp; done), ?ya22⟩) hHeld ?ra22
  case ya22 =>
    intro w' hSw
    obtain ⟨hS0, hS1, hS2, hS3⟩ := hSw
    have hT0 : Hid (Row w' (w.heap.size) 28 [.int .i64 p.w, .int .i64 p.h, .int .i64 p.edge, .slice A n c]) := hS0
    clear hS0
    have z0_0 := hT0.out.cell 0
    have z0_1 := hT0.out.cell 1
    have z0_2 := hT0.out.cell 2
    have z0_3 := hT0.out.cell 3
    have z0_l := hT0.out.lt
    simp only [List.getElem?_cons_zero, List.getElem?_cons_succ] at z0_0 z0_1 z0_2 z0_3
    have hT1 : Hid (Row w' (w.heap.size + 1) 28 [.int .i64 q.w, .int .i64 q.h, .int .i64 q.edge, .slice B k d]) := hS1
    clear hS1
    have z1_0 := hT1.out.cell 0
    have z1_1 := hT1.out.cell 1
    have z1_2 := hT1.out.cell 2
    have z1_3 := hT1.out.cell 3
    have z1_l := hT1.out.lt
    simp only [List.getElem?_cons_zero, List.getElem?_cons_succ] at z1_0 z1_1 z1_2 z1_3
    have hT2 : Hid (Row w' (w2.heap.size) 24 [.int .i64 (unpackR p).w, .int .i64 (unpackR p).h, .int .i64 (unpackR p).edge, .slice UA un uc]) := hS2
    clear hS2
    have z2_0 := hT2.out.cell 0
    have z2_1 := hT2.out.cell 1
    have z2_2 := hT2.out.cell 2
    have z2_3 := hT2.out.cell 3
    have z2_l := hT2.out.lt
    simp only [List.getElem?_cons_zero, List.getElem?_cons_succ] at z2_0 z2_1 z2_2 z2_3
    have hT3 : Hid (Row w' (w3.heap.size) 24 [.int .i64 (unpackR p).w, .int .i64 (unpackR p).h, .int .i64 (unpackR p).edge, .slice VA vn vc]) := hS3
    clear hS3
    have z3_0 := hT3.out.cell 0
    have z3_1 := hT3.out.cell 1
    have z3_2 := hT3.out.cell 2
    have z3_3 := hT3.out.cell 3
    have z3_l := hT3.out.lt
    simp only [List.getElem?_cons_zero, List.getElem?_cons_succ] at z3_0 z3_1 z3_2 z3_3
    go_simp
    try (with_reducible rfl)
  go_simp
  refine restL_one (i := 26) (by kernel_rfl) rfl (fun K hK => ?_)
  go_simp
  go_at_call 21
  refine (plCount_any p A n c sl x5 (by exact (H1.out.up B_w.out))).mono ?_
  rintro e4 x6 ⟨CA, cn, cc, rfl, hcr, hcn, hb⟩
  have HCA : Hid (Rd x6 x6.heap.size 1 CA cn (ints (countF p)) ∧ cn ≤ maxLen) := ⟨hcr, hcn⟩
  clear hcr hcn
  have B_w : Hid (Below w.heap.size w x6) := below_on2 B_w.out hb
  have B_wa : Hid (Below wa.heap.size wa x6) := below_on2 B_wa.out hb
  have B_w0 : Hid (Below w0.heap.size w0 x6) := below_on2 B_w0.out hb
  have B_w1 : Hid (Below w1.heap.size w1 x6) := below_on2 B_w1.out hb
  have B_w2 : Hid (Below w2.heap.size w2 x6) := below_on2 B_w2.out hb
  have B_wb : Hid (Below wb.heap.size wb x6) := below_on2 B_wb.out hb
  have B_w3 : Hid (Below w3.heap.size w3 x6) := below_on2 B_w3.out hb
  have B_wc : Hid (Below wc.heap.size wc x6) := below_on2 B_wc.out hb
  have B_wcq : Hid (Below wcq.heap.size wcq x6) := below_on2 B_wcq.out hb
  have B_x1 : Hid (Below x1.heap.size x1 x6) := below_on2 B_x1.out hb
  have B_x2 : Hid (Below x2.heap.size x2 x6) := below_on2 B_x2.out hb
  have B_x3 : Hid (Below x3.heap.size x3 x6) := below_on2 B_x3.out hb
  have B_x4 : Hid (Below x4.heap.size x4 x6) := below_on2 B_x4.out hb
  have B_x5 : Hid (Below x5.heap.size x5 x6) := hb
  clear hb
  clear hHeld
  refine hK.out _ _ (fun _ => ?keep) (fun hHeld => ?_)
  case keep => exact ⟨(rowCells RA.out B_wa.out), (rowCells RB.out B_wa.out), (rowCells RU.out B_wb.out), (rowCells RV.out B_wc.out)⟩
  have hHeld := hHeld rfl
  clear hK K
  try go_simp
  refine restL_one (i := 28) (by kernel_rfl) rfl (fun K hK => ?_)
  go_simp
  go_at_call 22
  refine (rPlCount_any p A n c sl x6 (by exact (H1.out.up B_w.out))).mono ?_
  rintro e4 x7 ⟨CB, dn, dc, rfl, hcr, hcn, hb⟩
  have HCB : Hid (Rd x7 x7.heap.size 1 CB dn (ints (countF p)) ∧ dn ≤ maxLen) := ⟨hcr, hcn⟩
  clear hcr hcn
  have B_w : Hid (Below w.heap.size w x7) := below_on2 B_w.out hb
  have B_wa : Hid (Below wa.heap.size wa x7) := below_on2 B_wa.out hb
  have B_w0 : Hid (Below w0.heap.size w0 x7) := below_on2 B_w0.out hb
  have B_w1 : Hid (Below w1.heap.size w1 x7) := below_on2 B_w1.out hb
  have B_w2 : Hid (Below w2.heap.size w2 x7) := below_on2 B_w2.out hb
  have B_wb : Hid (Below wb.heap.size wb x7) := below_on2 B_wb.out hb
  have B_w3 : Hid (Below w3.heap.size w3 x7) := below_on2 B_w3.out hb
  have B_wc : Hid (Below wc.heap.size wc x7) := below_on2 B_wc.out hb
  have B_wcq : Hid (Below wcq.heap.size wcq x7) := below_on2 B_wcq.out hb
  have B_x1 : Hid (Below x1.heap.size x1 x7) := below_on2 B_x1.out hb
  have B_x2 : Hid (Below x2.heap.size x2 x7) := below_on2 B_x2.out hb
  have B_x3 : Hid (Below x3.heap.size x3 x7) := below_on2 B_x3.out hb
  have B_x4 : Hid (Below x4.heap.size x4 x7) := below_on2 B_x4.out hb
  have B_x5 : Hid (Below x5.heap.size x5 x7) := below_on2 B_x5.out hb
  have B_x6 : Hid (Below x6.heap.size x6 x7) := hb
  clear hb
  clear hHeld
  refine hK.out _ _ (fun _ => ?keep) (fun hHeld => ?_)
  case keep => exact ⟨(rowCells RA.out B_wa.out), (rowCells RB.out B_wa.out), (rowCells RU.out B_wb.out), (rowCells RV.out B_wc.out)⟩
  have hHeld := hHeld rfl
  clear hK K
  try go_simp
  refine restL_one (i := 29) (by kernel_rfl) rfl (fun K hK => ?_)
  go_simp
  go_at_call 20
  refine (lInts_any CA CB cn dn cc dc (countF p) (countF p) x7 (by exact HCA.out.1.up B_x6.out) (by exact HCB.out.1) (by exact HCA.out.2) (by exact HCB.out.2)).mono ?_
  rw [decide_eq_true rfl]
  rintro e4 x8 ⟨rfl, hb⟩
  have B_w : Hid (Below w.heap.size w x8) := below_on2 B_w.out hb
  have B_wa : Hid (Below wa.heap.size wa x8) := below_on2 B_wa.out hb
  have B_w0 : Hid (Below w0.heap.size w0 x8) := below_on2 B_w0.out hb
  have B_w1 : Hid (Below w1.heap.size w1 x8) := below_on2 B_w1.out hb
  have B_w2 : Hid (Below w2.heap.size w2 x8) := below_on2 B_w2.out hb
  have B_wb : Hid (Below wb.heap.size wb x8) := below_on2 B_wb.out hb
  have B_w3 : Hid (Below w3.heap.size w3 x8) := below_on2 B_w3.out hb
  have B_wc : Hid (Below wc.heap.size wc x8) := below_on2 B_wc.out hb
  have B_wcq : Hid (Below wcq.heap.size wcq x8) := below_on2 B_wcq.out hb
  have B_x1 : Hid (Below x1.heap.size x1 x8) := below_on2 B_x1.out hb
  have B_x2 : Hid (Below x2.heap.size x2 x8) := below_on2 B_x2.out hb
  have B_x3 : Hid (Below x3.heap.size x3 x8) := below_on2 B_x3.out hb
  have B_x4 : Hid (Below x4.heap.size x4 x8) := below_on2 B_x4.out hb
  have B_x5 : Hid (Below x5.heap.size x5 x8) := below_on2 B_x5.out hb
  have B_x6 : Hid (Below x6.heap.size x6 x8) := below_on2 B_x6.out hb
  have B_x7 : Hid (Below x7.heap.size x7 x8) := hb
  clear hb
  clear hHeld
  refine hK.out _ _ (fun _ => ?keep) (fun hHeld => ?_)
  case keep => exact ⟨(rowCells RA.out B_wa.out), (rowCells RB.out B_wa.out), (rowCells RU.out B_wb.out), (rowCells RV.out B_wc.out)⟩
  have hHeld := hHeld rfl
  clear hK K
  try go_simp
  refine restL_pure (i := 30) (v := ?va23) rfl (by kernel_rfl) (by kernel_rfl) (by kernel_rfl) (fun _ _ _ h => h) (Or.inl ⟨by rfl, ?ya23⟩) ?ra23
  case ya23 => intro w' hSw; clear hSw; go_simp; try (with_reducible rfl)
  go_simp
  refine restL_pure (i := 31) (v := ?va24) rfl (by kernel_rfl) (by kernel_rfl) (by kernel_rfl) (fun _ _ _ h => h) (Or.inl ⟨by rfl, ?ya24⟩) ?ra24
  case ya24 => intro w' hSw; clear hSw; go_simp; try (with_reducible rfl)
  go_simp
  refine restL_one (i := 32) (by kernel_rfl) rfl (fun K hK => ?_)
  go_simp
  go_at_call 9
  refine (awake_any _).mono ?_
  rintro e4 x9 ⟨rfl, hb⟩
  have B_w : Hid (Below w.heap.size w x9) := below_on2 B_w.out hb
  have B_wa : Hid (Below wa.heap.size wa x9) := below_on2 B_wa.out hb
  have B_w0 : Hid (Below w0.heap.size w0 x9) := below_on2 B_w0.out hb
  have B_w1 : Hid (Below w1.heap.size w1 x9) := below_on2 B_w1.out hb
  have B_w2 : Hid (Below w2.heap.size w2 x9) := below_on2 B_w2.out hb
  have B_wb : Hid (Below wb.heap.size wb x9) := below_on2 B_wb.out hb
  have B_w3 : Hid (Below w3.heap.size w3 x9) := below_on2 B_w3.out hb
  have B_wc : Hid (Below wc.heap.size wc x9) := below_on2 B_wc.out hb
  have B_wcq : Hid (Below wcq.heap.size wcq x9) := below_on2 B_wcq.out hb
  have B_x1 : Hid (Below x1.heap.size x1 x9) := below_on2 B_x1.out hb
  have B_x2 : Hid (Below x2.heap.size x2 x9) := below_on2 B_x2.out hb
  have B_x3 : Hid (Below x3.heap.size x3 x9) := below_on2 B_x3.out hb
  have B_x4 : Hid (Below x4.heap.size x4 x9) := below_on2 B_x4.out hb
  have B_x5 : Hid (Below x5.heap.size x5 x9) := below_on2 B_x5.out hb
  have B_x6 : Hid (Below x6.heap.size x6 x9) := below_on2 B_x6.out hb
  have B_x7 : Hid (Below x7.heap.size x7 x9) := below_on2 B_x7.out hb
  have B_x8 : Hid (Below x8.heap.size x8 x9) := hb
  clear hb
  clear hHeld
  refine hK.out _ _ (fun _ => ?keep) (fun hHeld => ?_)
  case keep => exact ⟨(rowCells RA.out B_wa.out), (rowCells RB.out B_wa.out), (rowCells RU.out B_wb.out), (rowCells RV.out B_wc.out)⟩
  have hHeld := hHeld rfl
  clear hK K
  try go_simp
  refine restL_pure (i := 33) (v := ?va25) rfl (by kernel_rfl) (by kernel_rfl) (by kernel_rfl) (fun _ _ _ h => h) (Or.inl ⟨by rfl, ?ya25⟩) ?ra25
  case ya25 => intro w' hSw; clear hSw; go_simp; try (with_reducible rfl)
  go_simp
  refine restL_pure (i := 34) (v := ?va26) rfl (by kernel_rfl) (by kernel_rfl) (by kernel_rfl) (fun _ _ _ h => h) (Or.inl ⟨by rfl, ?ya26⟩) ?ra26
  case ya26 => intro w' hSw; clear hSw; go_simp; try (with_reducible rfl)
  go_simp
  refine restL_done (by kernel_rfl) ?_ _
  go_wp2
  go_ret
  exact ⟨rfl, B_w.out⟩
end Go.Proofs.Ytfknooffjhncgaa
