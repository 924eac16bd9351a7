/-
  The law PlaneCells: what it does.
-/
import Derived.Test.YtfknooffjhncgaaPLawU
import Derived.Test.YtfknooffjhncgaaGGetB
import Derived.Test.YtfknooffjhncgaaGRefRB
namespace Go.Proofs.Ytfknooffjhncgaa
open Go.RowKit
set_option linter.unusedSimpArgs false
set_option linter.unusedVariables false
/-- Cells of moved planes. -/
theorem moved_cell {g : Grd} (hr : rightG g = true) (dx dy : Int) (x y : Nat) (hx : (x : Int) < g.w) (hy : (y : Int) < g.h) :
    packErr g 3 = 0 ∧ packR g 3 = packP g 3 ∧ rightPl (packP g 3) = true ∧ getF (movedG (packP g 3) dx dy) x y = getF g ((x : Int) + dx) ((y : Int) + dy) := by
  have he : packErr g 3 = 0 := by
    unfold packErr
    rw [if_pos ⟨hr, by omega, by omega⟩, if_pos]
    rw [List.all_eq_true]
    intro s hs
    obtain ⟨i, hi, rfl⟩ := List.getElem_of_mem hs
    have := stateOk_at (rightG_parts hr).2.2 hi
    rw [List.getD_eq_getElem?_getD, List.getElem?_eq_getElem hi] at this
    exact decide_eq_true this.2
  have hp := pack_right he
  have hu := unpack_pack he
  have h3 : (3 : Int).toNat = 3 := rfl
  rw [h3] at hp hu
  refine ⟨he, by unfold packR; rw [if_pos he]; rfl, hp, ?_⟩
  have hm := movedG_get (packP g 3) dx dy x y (by show x < g.w.toNat; omega) (by show y < g.h.toNat; omega)
  rw [hu] at hm
  have hmr := (moved_right hp dx dy).1
  unfold getF at hm ⊢
  rw [if_pos hmr]
  have e1 : atF (x : Int) (movedG (packP g 3) dx dy).w (movedG (packP g 3) dx dy).edge = x := by
    show atF (x : Int) g.w g.edge = x
    unfold atF; rw [if_pos ⟨by omega, hx⟩]
  have e2 : atF (y : Int) (movedG (packP g 3) dx dy).h (movedG (packP g 3) dx dy).edge = y := by
    show atF (y : Int) g.h g.edge = y
    unfold atF; rw [if_pos ⟨by omega, hy⟩]
  rw [e1, e2, if_neg (by omega), ← hm]
  congr 1
  have hw0 : 0 ≤ g.w := by omega
  show ((y : Int) * g.w + (x : Int)).toNat = y * g.w.toNat + x
  obtain ⟨W, hW⟩ : ∃ W : Nat, g.w = (W : Int) := ⟨g.w.toNat, (Int.toNat_of_nonneg hw0).symm⟩
  rw [hW, Int.toNat_natCast]
  have : (y : Int) * (W : Int) + (x : Int) = ((y * W + x : Nat) : Int) := by simp
  rw [this, Int.toNat_natCast]
set_option maxRecDepth 100000 in
set_option maxHeartbeats 8000000 in
theorem lawCells_any (g : Grd) (A : Option Addr) (n c : Nat) (d0 d1 : Int) (a0 a1 : Nat) (w : World) (h : GAt w g A n) (ha0 : a0 ≤ 255) (ha1 : a1 ≤ 255) :
    Calls Try.prog 8 #[.agg #[.int .i64 g.w, .int .i64 g.h, .int .i64 g.edge, .slice A n c], .agg #[.int .i64 d0, .int .i64 d1], .agg #[.int .u8 (a0 : Int), .int .u8 (a1 : Int)]] w fun e w' => e = .returned (.bool true) ∧ Below w.heap.size w w' := by
  have H : Hid (GAt w g A n) := h
  have hm := h.c63
  unfold maxLen at hm
  clear h
  go_enter Try.func8, Try.ntmps8
  by_cases hl : (5000 : Int) < (n : Int)
  · go_wp2_with fail
    refine (awake_any _).mono ?_
    rintro e w9 ⟨rfl, hb⟩
    have HBE : Hid (Below w.heap.size w w9) := below_next hb (by go_grown)
    clear hb
    go_wp2
    go_ret
    exact ⟨rfl, HBE.out⟩
  go_wp2_with fail
  have RG : Hid (Row (World.alloc (World.alloc (World.alloc w (.cells #[.int .i64 g.w, .int .i64 g.h, .int .i64 g.edge, .slice A n c] 24)) (.cells #[.int .i64 d0, .int .i64 d1] 46)) (.cells #[.int .u8 (a0 : Int), .int .u8 (a1 : Int)] 47)) (w.heap.size) 24 [.int .i64 g.w, .int .i64 g.h, .int .i64 g.edge, .slice A n c]) := by
    have h0 := Row.new w 24 [.int .i64 g.w, .int .i64 g.h, .int .i64 g.edge, .slice A n c]
    try simp only [World.size_alloc] at h0
    exact ((h0.alloc _).alloc _)
  have RD : Hid (Row (World.alloc (World.alloc (World.alloc w (.cells #[.int .i64 g.w, .int .i64 g.h, .int .i64 g.edge, .slice A n c] 24)) (.cells #[.int .i64 d0, .int .i64 d1] 46)) (.cells #[.int .u8 (a0 : Int), .int .u8 (a1 : Int)] 47)) (w.heap.size + 1) 46 [.int .i64 d0, .int .i64 d1]) := by
    have h0 := Row.new (World.alloc w (.cells #[.int .i64 g.w, .int .i64 g.h, .int .i64 g.edge, .slice A n c] 24)) 46 [.int .i64 d0, .int .i64 d1]
    try simp only [World.size_alloc] at h0
    exact (h0.alloc _)
  have RA : Hid (Row (World.alloc (World.alloc (World.alloc w (.cells #[.int .i64 g.w, .int .i64 g.h, .int .i64 g.edge, .slice A n c] 24)) (.cells #[.int .i64 d0, .int .i64 d1] 46)) (.cells #[.int .u8 (a0 : Int), .int .u8 (a1 : Int)] 47)) (w.heap.size + 1 + 1) 47 [.int .u8 (a0 : Int), .int .u8 (a1 : Int)]) := by
    have h0 := Row.new (World.alloc (World.alloc w (.cells #[.int .i64 g.w, .int .i64 g.h, .int .i64 g.edge, .slice A n c] 24)) (.cells #[.int .i64 d0, .int .i64 d1] 46)) 47 [.int .u8 (a0 : Int), .int .u8 (a1 : Int)]
    try simp only [World.size_alloc] at h0
    exact h0
  have hgr9 : Below w.heap.size w (World.alloc (World.alloc (World.alloc w (.cells #[.int .i64 g.w, .int .i64 g.h, .int .i64 g.edge, .slice A n c] 24)) (.cells #[.int .i64 d0, .int .i64 d1] 46)) (.cells #[.int .u8 (a0 : Int), .int .u8 (a1 : Int)] 47)) := by go_grown
  have B_w : Hid (Below w.heap.size w (World.alloc (World.alloc (World.alloc w (.cells #[.int .i64 g.w, .int .i64 g.h, .int .i64 g.edge, .slice A n c] 24)) (.cells #[.int .i64 d0, .int .i64 d1] 46)) (.cells #[.int .u8 (a0 : Int), .int .u8 (a1 : Int)] 47))) := hgr9
  clear hgr9
  revert RG RD RA B_w
  generalize (World.alloc (World.alloc (World.alloc w (.cells #[.int .i64 g.w, .int .i64 g.h, .int .i64 g.edge, .slice A n c] 24)) (.cells #[.int .i64 d0, .int .i64 d1] 46)) (.cells #[.int .u8 (a0 : Int), .int .u8 (a1 : Int)] 47)) = wa
  intro RG RD RA B_w
  refine (rGRight_any g A n c wa (H.out.up B_w.out)).mono ?_
  rintro e w0 ⟨rfl, hb⟩
  have B_w : Hid (Below w.heap.size w w0) := below_on2 B_w.out hb
  have B_wa : Hid (Below wa.heap.size wa w0) := hb
  clear hb
  cases hr : rightG g
  · clear hr
    go_wp2_with fail
    refine (awake_any _).mono ?_
    rintro e w9 ⟨rfl, hb⟩
    have HBE : Hid (Below w.heap.size w w9) := below_on2 B_w.out hb
    clear hb
    go_wp2
    go_ret
    exact ⟨rfl, HBE.out⟩
  obtain ⟨hsz, _, _⟩ := rightG_parts hr
  obtain ⟨⟨q1, q2⟩, ⟨q3, q4⟩, _⟩ := sizedF_parts hsz
  obtain ⟨W, hW⟩ : ∃ W : Nat, g.w = (W : Int) := ⟨g.w.toNat, by omega⟩
  obtain ⟨Hh, hH⟩ : ∃ Hh : Nat, g.h = (Hh : Int) := ⟨g.h.toNat, by omega⟩
  have hW1 : 1 ≤ W := by omega
  have hH1 : 1 ≤ Hh := by omega
  obtain ⟨X, hX⟩ : ∃ X, X = a0 % W := ⟨_, rfl⟩
  obtain ⟨Y, hY⟩ : ∃ Y, Y = a1 % Hh := ⟨_, rfl⟩
  have hXW : X < W := by rw [hX]; exact Nat.mod_lt _ (by omega)
  have hX5 : X ≤ 255 := by rw [hX]; exact Nat.le_trans (Nat.mod_le _ _) ha0
  have hY5 : Y ≤ 255 := by rw [hY]; exact Nat.le_trans (Nat.mod_le _ _) ha1
  have hYH : Y < Hh := by rw [hY]; exact Nat.mod_lt _ (by omega)
  obtain ⟨k1, k2, k3, k4⟩ := moved_cell hr d0 d1 X Y (by omega) (by omega)
  have K1 : Hid (packErr g 3 = 0 ∧ packR g 3 = packP g 3) := ⟨k1, k2⟩
  have K3 : Hid (rightPl (packP g 3) = true) := k3
  have K4 : Hid (getF (movedG (packP g 3) d0 d1) X Y = getF g ((X : Int) + d0) ((Y : Int) + d1)) := k4
  have HWH : Hid (g.w = (W : Int) ∧ g.h = (Hh : Int)) := ⟨hW, hH⟩
  have HXY : Hid (X = a0 % W ∧ Y = a1 % Hh) := ⟨hX, hY⟩
  clear hr hsz q1 q3 k1 k2 k3 k4 hW hH hX hY
  have kR : Hid (Row w0 (w.heap.size) 24 [.int .i64 g.w, .int .i64 g.h, .int .i64 g.edge, .slice A n c]) := (rowCells RG.out B_wa.out)
  have k0 := kR.out.cell 0
  have k1 := kR.out.cell 1
  have k2 := kR.out.cell 2
  have k3 := kR.out.cell 3
  have kl := kR.out.lt
  simp only [List.getElem?_cons_zero, List.getElem?_cons_succ] at k0 k1 k2 k3
  clear kR
  go_wp2_with fail
  have HC := plPack_any g A n c 3 w0 (H.out.up B_w.out)
  rw [K1.out.1, K1.out.2] at HC
  refine HC.mono ?_
  clear HC
  rintro e w1 h1
  obtain ⟨PA, pn, pc, sl, he, hpa, hb⟩ := ppost_at h1
  have he2 : e = .returned (.tuple #[.agg #[.int .i64 g.w, .int .i64 g.h, .int .i64 g.edge, .slice PA pn pc], .int .i64 0]) := he
  subst he2
  have HP : Hid (PAt w1 (packP g 3) PA pn sl) := hpa
  clear he hpa h1
  have B_w : Hid (Below w.heap.size w w1) := below_on2 B_w.out hb
  have B_wa : Hid (Below wa.heap.size wa w1) := below_on2 B_wa.out hb
  have B_w0 : Hid (Below w0.heap.size w0 w1) := hb
  clear k0 k1 k2 k3 kl
  clear hb
  have kR : Hid (Row w1 (w.heap.size + 1) 46 [.int .i64 d0, .int .i64 d1]) := (rowCells RD.out B_wa.out)
  have k0 := kR.out.cell 0
  have k1 := kR.out.cell 1
  have kl := kR.out.lt
  simp only [List.getElem?_cons_zero, List.getElem?_cons_succ] at k0 k1
  clear kR
  go_wp2_with fail
  have RP : Hid (Row (World.alloc w1 (.cells #[.int .i64 g.w, .int .i64 g.h, .int .i64 g.edge, .slice PA pn pc] 28)) (w1.heap.size) 28 [.int .i64 g.w, .int .i64 g.h, .int .i64 g.edge, .slice PA pn pc]) := by
    have h0 := Row.new w1 28 [.int .i64 g.w, .int .i64 g.h, .int .i64 g.edge, .slice PA pn pc]
    try simp only [World.size_alloc] at h0
    exact h0
  have hgr9 : Below w1.heap.size w1 (World.alloc w1 (.cells #[.int .i64 g.w, .int .i64 g.h, .int .i64 g.edge, .slice PA pn pc] 28)) := by go_grown
  have B_w : Hid (Below w.heap.size w (World.alloc w1 (.cells #[.int .i64 g.w, .int .i64 g.h, .int .i64 g.edge, .slice PA pn pc] 28))) := below_on2 B_w.out hgr9
  have B_wa : Hid (Below wa.heap.size wa (World.alloc w1 (.cells #[.int .i64 g.w, .int .i64 g.h, .int .i64 g.edge, .slice PA pn pc] 28))) := below_on2 B_wa.out hgr9
  have B_w0 : Hid (Below w0.heap.size w0 (World.alloc w1 (.cells #[.int .i64 g.w, .int .i64 g.h, .int .i64 g.edge, .slice PA pn pc] 28))) := below_on2 B_w0.out hgr9
  have B_w1 : Hid (Below w1.heap.size w1 (World.alloc w1 (.cells #[.int .i64 g.w, .int .i64 g.h, .int .i64 g.edge, .slice PA pn pc] 28))) := hgr9
  clear hgr9
  clear k0 k1 kl
  revert RP B_w B_wa B_w0 B_w1
  generalize (World.alloc w1 (.cells #[.int .i64 g.w, .int .i64 g.h, .int .i64 g.edge, .slice PA pn pc] 28)) = wb
  intro RP B_w B_wa B_w0 B_w1
  refine (plMove_any (packP g 3) PA pn pc sl d0 d1 wb (HP.out.up B_w1.out)).mono ?_
  by_cases ho : (-256 ≤ d0 ∧ d0 ≤ 256) ∧ (-256 ≤ d1 ∧ d1 ≤ 256)
  · obtain ⟨m1, m2⟩ := moveR_ok K3.out ho.1 ho.2
    rw [m1, m2]
    obtain ⟨⟨o1, o2⟩, o3, o4⟩ := ho
    have HMR : Hid (rightPl (moveP (packP g 3) d0 d1) = true) := move_right K3.out d0 d1
    have HMU : Hid (unpackR (moveP (packP g 3) d0 d1) = movedG (packP g 3) d0 d1 ∧ unpackErr (moveP (packP g 3) d0 d1) = 0) := by
      refine ⟨?_, by unfold unpackErr; rw [if_pos HMR.out]⟩
      unfold unpackR
      rw [if_pos HMR.out]
      exact move_unpack K3.out d0 d1
    clear m1 m2
    rintro e w2 h1
    obtain ⟨QA, qn, qc, sq, he, hpa, hb⟩ := ppost_at h1
    have he2 : e = .returned (.tuple #[.agg #[.int .i64 g.w, .int .i64 g.h, .int .i64 g.edge, .slice QA qn qc], .int .i64 0]) := he
    subst he2
    have HQ : Hid (PAt w2 (moveP (packP g 3) d0 d1) QA qn sq) := hpa
    clear he hpa h1
    have B_w : Hid (Below w.heap.size w w2) := below_on2 B_w.out hb
    have B_wa : Hid (Below wa.heap.size wa w2) := below_on2 B_wa.out hb
    have B_w0 : Hid (Below w0.heap.size w0 w2) := below_on2 B_w0.out hb
    have B_w1 : Hid (Below w1.heap.size w1 w2) := below_on2 B_w1.out hb
    have B_wb : Hid (Below wb.heap.size wb w2) := hb
    clear hb
    go_wp2_with fail
    have RQ : Hid (Row (World.alloc w2 (.cells #[.int .i64 g.w, .int .i64 g.h, .int .i64 g.edge, .slice QA qn qc] 28)) (w2.heap.size) 28 [.int .i64 g.w, .int .i64 g.h, .int .i64 g.edge, .slice QA qn qc]) := by
      have h0 := Row.new w2 28 [.int .i64 g.w, .int .i64 g.h, .int .i64 g.edge, .slice QA qn qc]
      try simp only [World.size_alloc] at h0
      exact h0
    have hgr9 : Below w2.heap.size w2 (World.alloc w2 (.cells #[.int .i64 g.w, .int .i64 g.h, .int .i64 g.edge, .slice QA qn qc] 28)) := by go_grown
    have B_w : Hid (Below w.heap.size w (World.alloc w2 (.cells #[.int .i64 g.w, .int .i64 g.h, .int .i64 g.edge, .slice QA qn qc] 28))) := below_on2 B_w.out hgr9
    have B_wa : Hid (Below wa.heap.size wa (World.alloc w2 (.cells #[.int .i64 g.w, .int .i64 g.h, .int .i64 g.edge, .slice QA qn qc] 28))) := below_on2 B_wa.out hgr9
    have B_w0 : Hid (Below w0.heap.size w0 (World.alloc w2 (.cells #[.int .i64 g.w, .int .i64 g.h, .int .i64 g.edge, .slice QA qn qc] 28))) := below_on2 B_w0.out hgr9
    have B_w1 : Hid (Below w1.heap.size w1 (World.alloc w2 (.cells #[.int .i64 g.w, .int .i64 g.h, .int .i64 g.edge, .slice QA qn qc] 28))) := below_on2 B_w1.out hgr9
    have B_wb : Hid (Below wb.heap.size wb (World.alloc w2 (.cells #[.int .i64 g.w, .int .i64 g.h, .int .i64 g.edge, .slice QA qn qc] 28))) := below_on2 B_wb.out hgr9
    have B_w2 : Hid (Below w2.heap.size w2 (World.alloc w2 (.cells #[.int .i64 g.w, .int .i64 g.h, .int .i64 g.edge, .slice QA qn qc] 28))) := hgr9
    clear hgr9
    revert RQ B_w B_wa B_w0 B_w1 B_wb B_w2
    generalize (World.alloc w2 (.cells #[.int .i64 g.w, .int .i64 g.h, .int .i64 g.edge, .slice QA qn qc] 28)) = wd
    intro RQ B_w B_wa B_w0 B_w1 B_wb B_w2
    have HC := plUnpack_any (moveP (packP g 3) d0 d1) QA qn qc sq wd (HQ.out.up B_w2.out)
    rw [HMU.out.1, HMU.out.2] at HC
    refine HC.mono ?_
    clear HC
    rintro e w3 ⟨UA, un, uc, he, hga, hb⟩
    have he2 : e = .returned (.tuple #[.agg #[.int .i64 g.w, .int .i64 g.h, .int .i64 g.edge, .slice UA un uc], .int .i64 0]) := he
    subst he2
    have HU : Hid (GAt w3 (movedG (packP g 3) d0 d1) UA un) := hga
    clear he hga
    have B_w : Hid (Below w.heap.size w w3) := below_on2 B_w.out hb
    have B_wa : Hid (Below wa.heap.size wa w3) := below_on2 B_wa.out hb
    have B_w0 : Hid (Below w0.heap.size w0 w3) := below_on2 B_w0.out hb
    have B_w1 : Hid (Below w1.heap.size w1 w3) := below_on2 B_w1.out hb
    have B_wb : Hid (Below wb.heap.size wb w3) := below_on2 B_wb.out hb
    have B_w2 : Hid (Below w2.heap.size w2 w3) := below_on2 B_w2.out hb
    have B_wd : Hid (Below wd.heap.size wd w3) := hb
    clear hb
    have hXz : (a0 : Int) % (W : Int) = (X : Int) := by rw [HXY.out.1]; simp
    have hYz : (a1 : Int) % (Hh : Int) = (Y : Int) := by rw [HXY.out.2]; simp
    have hWne : (W : Int) ≠ 0 := by omega
    have hHne : (Hh : Int) ≠ 0 := by omega
    go_wp2_with fail
    have RU : Hid (Row (World.alloc w3 (.cells #[.int .i64 g.w, .int .i64 g.h, .int .i64 g.edge, .slice UA un uc] 24)) (w3.heap.size) 24 [.int .i64 g.w, .int .i64 g.h, .int .i64 g.edge, .slice UA un uc]) := by
      have h0 := Row.new w3 24 [.int .i64 g.w, .int .i64 g.h, .int .i64 g.edge, .slice UA un uc]
      try simp only [World.size_alloc] at h0
      exact h0
    have hgr9 : Below w3.heap.size w3 (World.alloc w3 (.cells #[.int .i64 g.w, .int .i64 g.h, .int .i64 g.edge, .slice UA un uc] 24)) := by go_grown
    have B_w : Hid (Below w.heap.size w (World.alloc w3 (.cells #[.int .i64 g.w, .int .i64 g.h, .int .i64 g.edge, .slice UA un uc] 24))) := below_on2 B_w.out hgr9
    have B_wa : Hid (Below wa.heap.size wa (World.alloc w3 (.cells #[.int .i64 g.w, .int .i64 g.h, .int .i64 g.edge, .slice UA un uc] 24))) := below_on2 B_wa.out hgr9
    have B_w0 : Hid (Below w0.heap.size w0 (World.alloc w3 (.cells #[.int .i64 g.w, .int .i64 g.h, .int .i64 g.edge, .slice UA un uc] 24))) := below_on2 B_w0.out hgr9
    have B_w1 : Hid (Below w1.heap.size w1 (World.alloc w3 (.cells #[.int .i64 g.w, .int .i64 g.h, .int .i64 g.edge, .slice UA un uc] 24))) := below_on2 B_w1.out hgr9
    have B_wb : Hid (Below wb.heap.size wb (World.alloc w3 (.cells #[.int .i64 g.w, .int .i64 g.h, .int .i64 g.edge, .slice UA un uc] 24))) := below_on2 B_wb.out hgr9
    have B_w2 : Hid (Below w2.heap.size w2 (World.alloc w3 (.cells #[.int .i64 g.w, .int .i64 g.h, .int .i64 g.edge, .slice UA un uc] 24))) := below_on2 B_w2.out hgr9
    have B_wd : Hid (Below wd.heap.size wd (World.alloc w3 (.cells #[.int .i64 g.w, .int .i64 g.h, .int .i64 g.edge, .slice UA un uc] 24))) := below_on2 B_wd.out hgr9
    have B_w3 : Hid (Below w3.heap.size w3 (World.alloc w3 (.cells #[.int .i64 g.w, .int .i64 g.h, .int .i64 g.edge, .slice UA un uc] 24))) := hgr9
    clear hgr9
    revert RU B_w B_wa B_w0 B_w1 B_wb B_w2 B_wd B_w3
    generalize (World.alloc w3 (.cells #[.int .i64 g.w, .int .i64 g.h, .int .i64 g.edge, .slice UA un uc] 24)) = we
    intro RU B_w B_wa B_w0 B_w1 B_wb B_w2 B_wd B_w3
    have kR : Hid (Row we (w.heap.size) 24 [.int .i64 g.w, .int .i64 g.h, .int .i64 g.edge, .slice A n c]) := (rowCells RG.out B_wa.out)
    have k0 := kR.out.cell 0
    have k1 := kR.out.cell 1
    have k2 := kR.out.cell 2
    have k3 := kR.out.cell 3
    have kl := kR.out.lt
    simp only [List.getElem?_cons_zero, List.getElem?_cons_succ] at k0 k1 k2 k3
    clear kR
    have rR : Hid (Row we (w.heap.size + 1 + 1) 47 [.int .u8 (a0 : Int), .int .u8 (a1 : Int)]) := (rowCells RA.out B_wa.out)
    have r0 := rR.out.cell 0
    have r1 := rR.out.cell 1
    have rl := rR.out.lt
    simp only [List.getElem?_cons_zero, List.getElem?_cons_succ] at r0 r1
    clear rR
    rw [HWH.out.1] at k0
    rw [HWH.out.2] at k1
    go_quiet (fail)
    go_wp2
    rw [hXz, hYz]
    clear hXz hYz hWne hHne
    have B_w : Hid (Below w.heap.size w (we.drewN nq)) := below_drewN B_w.out nq
    have B_wa : Hid (Below wa.heap.size wa (we.drewN nq)) := below_drewN B_wa.out nq
    have B_w0 : Hid (Below w0.heap.size w0 (we.drewN nq)) := below_drewN B_w0.out nq
    have B_w1 : Hid (Below w1.heap.size w1 (we.drewN nq)) := below_drewN B_w1.out nq
    have B_wb : Hid (Below wb.heap.size wb (we.drewN nq)) := below_drewN B_wb.out nq
    have B_w2 : Hid (Below w2.heap.size w2 (we.drewN nq)) := below_drewN B_w2.out nq
    have B_wd : Hid (Below wd.heap.size wd (we.drewN nq)) := below_drewN B_wd.out nq
    have B_w3 : Hid (Below w3.heap.size w3 (we.drewN nq)) := below_drewN B_w3.out nq
    have B_we : Hid (Below we.heap.size we (we.drewN nq)) := below_drewN (Below.refl _ _) nq
    clear k0 k1 k2 k3 kl r0 r1 rl
    revert B_w B_wa B_w0 B_w1 B_wb B_w2 B_wd B_w3 B_we
    generalize (we.drewN nq) = wf
    intro B_w B_wa B_w0 B_w1 B_wb B_w2 B_wd B_w3 B_we
    have hwx : IntKind.i64.wrap ((X : Int) + d0) = (X : Int) + d0 := IntWalk.i64_in _ (by omega)
    have hwy : IntKind.i64.wrap ((Y : Int) + d1) = (Y : Int) + d1 := IntWalk.i64_in _ (by omega)
    obtain ⟨gv, hgv⟩ : ∃ gv, getF g ((X : Int) + d0) ((Y : Int) + d1) = gv := ⟨_, rfl⟩
    rw [hgv] at K4
    have K5 : Hid (getF g ((X : Int) + d0) ((Y : Int) + d1) = gv) := hgv
    clear hgv
    refine wp_region_L (fun w' => Row w' (w3.heap.size) 24 [.int .i64 g.w, .int .i64 g.h, .int .i64 g.edge, .slice UA un uc] ∧ Row w' (w.heap.size) 24 [.int .i64 g.w, .int .i64 g.h, .int .i64 g.edge, .slice A n c] ∧ Row w' (w.heap.size + 1) 46 [.int .i64 d0, .int .i64 d1]) [] (by kernel_rfl) (by exact ⟨Row.drew (rowCells RU.out B_we.out), Row.drew (rowCells RG.out B_wa.out), Row.drew (rowCells RD.out B_wa.out)⟩) (fun hHeld => ?_)
    have B_w : Hid (Below w.heap.size w (World.drew wf)) := B_w.out.drew
    have B_wa : Hid (Below wa.heap.size wa (World.drew wf)) := B_wa.out.drew
    have B_w0 : Hid (Below w0.heap.size w0 (World.drew wf)) := B_w0.out.drew
    have B_w1 : Hid (Below w1.heap.size w1 (World.drew wf)) := B_w1.out.drew
    have B_wb : Hid (Below wb.heap.size wb (World.drew wf)) := B_wb.out.drew
    have B_w2 : Hid (Below w2.heap.size w2 (World.drew wf)) := B_w2.out.drew
    have B_wd : Hid (Below wd.heap.size wd (World.drew wf)) := B_wd.out.drew
    have B_w3 : Hid (Below w3.heap.size w3 (World.drew wf)) := B_w3.out.drew
    have B_we : Hid (Below we.heap.size we (World.drew wf)) := B_we.out.drew
    have B_wf : Hid (Below wf.heap.size wf (World.drew wf)) := (Below.refl _ _).drew
    revert hHeld B_w B_wa B_w0 B_w1 B_wb B_w2 B_wd B_w3 B_we B_wf
    generalize World.drew wf = wfq
    intro hHeld B_w B_wa B_w0 B_w1 B_wb B_w2 B_wd B_w3 B_we B_wf
    refine restL_pure (i := 0) (v := ?va1) rfl (by kernel_rfl) (by kernel_rfl) (by kernel_rfl) (fun _ _ _ h => h) (Or.inl ⟨by rfl, ?ya1⟩) ?ra1
    case ya1 => intro w' hSw; clear hSw; go_simp; try (with_reducible rfl)
    go_simp
    refine restL_pure (i := 1) (v := ?va2) rfl (by kernel_rfl) (by kernel_rfl) (by kernel_rfl) (fun _ _ _ h => h) (Or.inl ⟨by rfl, ?ya2⟩) ?ra2
    case ya2 => intro w' hSw; clear hSw; go_simp; try (with_reducible rfl)
    go_simp
    refine restL_pure (i := 2) (v := ?va3) rfl (by kernel_rfl) (by kernel_rfl) (by kernel_rfl) (fun _ _ _ h => h) (Or.inl ⟨by rfl, ?ya3⟩) ?ra3
    case ya3 => intro w' hSw; clear hSw; go_simp; try (with_reducible rfl)
    go_simp
    refine restL_pure (i := 3) (v := ?va4) rfl (by kernel_rfl) (by kernel_rfl) (by kernel_rfl) (fun _ _ _ h => h) (Or.inl ⟨by first | rfl | (go_simp; done), ?ya4⟩) ?ra4
    case ya4 => intro w' hSw; clear hSw; go_simp; try (with_reducible rfl)
    go_simp
    refine restL_pure (i := 5) (v := ?va5) rfl (by kernel_rfl) (by kernel_rfl) (by kernel_rfl) (fun _ _ _ h => h) (Or.inl ⟨by first | rfl | (go_simp; done), ?ya5⟩) ?ra5
    case ya5 => intro w' hSw; clear hSw; go_simp; try (with_reducible rfl)
    go_simp
    refine restL_take (i := 4) (v := ?va6) [] rfl (by kernel_rfl) (by kernel_rfl) (by kernel_rfl) (by kernel_rfl) (fun _ _ _ h => h) (Or.inl ⟨by first | rfl | (go_simp; done), ?ya6⟩) hHeld ?ra6
    case ya6 =>
      intro w' hSw
      obtain ⟨hS0, hS1, hS2⟩ := hSw
      have hT0 : Hid (Row w' (w3.heap.size) 24 [.int .i64 g.w, .int .i64 g.h, .int .i64 g.edge, .slice UA un uc]) := hS0
      clear hS0
      have z0_0 := hT0.out.cell 0
      have z0_1 := hT0.out.cell 1
      have z0_2 := hT0.out.cell 2
      have z0_3 := hT0.out.cell 3
      have z0_l := hT0.out.lt
      simp only [List.getElem?_cons_zero, List.getElem?_cons_succ] at z0_0 z0_1 z0_2 z0_3
      have hT1 : Hid (Row w' (w.heap.size) 24 [.int .i64 g.w, .int .i64 g.h, .int .i64 g.edge, .slice A n c]) := hS1
      clear hS1
      have z1_0 := hT1.out.cell 0
      have z1_1 := hT1.out.cell 1
      have z1_2 := hT1.out.cell 2
      have z1_3 := hT1.out.cell 3
      have z1_l := hT1.out.lt
      simp only [List.getElem?_cons_zero, List.getElem?_cons_succ] at z1_0 z1_1 z1_2 z1_3
      have hT2 : Hid (Row w' (w.heap.size + 1) 46 [.int .i64 d0, .int .i64 d1]) := hS2
      clear hS2
      have z2_0 := hT2.out.cell 0
      have z2_1 := hT2.out.cell 1
      have z2_l := hT2.out.lt
      simp only [List.getElem?_cons_zero, List.getElem?_cons_succ] at z2_0 z2_1
      go_simp
      try (with_reducible rfl)
    go_simp
    refine restL_take (i := 6) (v := ?va7) [] rfl (by kernel_rfl) (by kernel_rfl) (by kernel_rfl) (by kernel_rfl) (fun _ _ _ h => h) (Or.inl ⟨by first | rfl | (go_simp; done), ?ya7⟩) hHeld ?ra7
    case ya7 =>
      intro w' hSw
      obtain ⟨hS0, hS1, hS2⟩ := hSw
      have hT0 : Hid (Row w' (w3.heap.size) 24 [.int .i64 g.w, .int .i64 g.h, .int .i64 g.edge, .slice UA un uc]) := hS0
      clear hS0
      have z0_0 := hT0.out.cell 0
      have z0_1 := hT0.out.cell 1
      have z0_2 := hT0.out.cell 2
      have z0_3 := hT0.out.cell 3
      have z0_l := hT0.out.lt
      simp only [List.getElem?_cons_zero, List.getElem?_cons_succ] at z0_0 z0_1 z0_2 z0_3
      have hT1 : Hid (Row w' (w.heap.size) 24 [.int .i64 g.w, .int .i64 g.h, .int .i64 g.edge, .slice A n c]) := hS1
      clear hS1
      have z1_0 := hT1.out.cell 0
      have z1_1 := hT1.out.cell 1
      have z1_2 := hT1.out.cell 2
      have z1_3 := hT1.out.cell 3
      have z1_l := hT1.out.lt
      simp only [List.getElem?_cons_zero, List.getElem?_cons_succ] at z1_0 z1_1 z1_2 z1_3
      have hT2 : Hid (Row w' (w.heap.size + 1) 46 [.int .i64 d0, .int .i64 d1]) := hS2
      clear hS2
      have z2_0 := hT2.out.cell 0
      have z2_1 := hT2.out.cell 1
      have z2_l := hT2.out.lt
      simp only [List.getElem?_cons_zero, List.getElem?_cons_succ] at z2_0 z2_1
      go_simp
      try (with_reducible rfl)
    go_simp
    refine restL_pure (i := 7) (v := ?va8) rfl (by kernel_rfl) (by kernel_rfl) (by kernel_rfl) (fun _ _ _ h => h) (Or.inl ⟨by first | rfl | (go_simp; done), ?ya8⟩) ?ra8
    case ya8 => intro w' hSw; clear hSw; go_simp; try (with_reducible rfl)
    go_simp
    refine restL_pure (i := 8) (v := ?va9) rfl (by kernel_rfl) (by kernel_rfl) (by kernel_rfl) (fun _ _ _ h => h) (Or.inl ⟨by rfl, ?ya9⟩) ?ra9
    case ya9 => intro w' hSw; clear hSw; go_simp; try (with_reducible rfl)
    go_simp
    refine restL_pure (i := 9) (v := ?va10) rfl (by kernel_rfl) (by kernel_rfl) (by kernel_rfl) (fun _ _ _ h => h) (Or.inl ⟨by rfl, ?ya10⟩) ?ra10
    case ya10 => intro w' hSw; clear hSw; go_simp; try (with_reducible rfl)
    go_simp
    refine restL_pure (i := 10) (v := ?va11) rfl (by kernel_rfl) (by kernel_rfl) (by kernel_rfl) (fun _ _ _ h => h) (Or.inl ⟨by first | rfl | (go_simp; done), ?ya11⟩) ?ra11
    case ya11 => intro w' hSw; clear hSw; go_simp; try (with_reducible rfl)
    go_simp
    refine restL_pure (i := 12) (v := ?va12) rfl (by kernel_rfl) (by kernel_rfl) (by kernel_rfl) (fun _ _ _ h => h) (Or.inl ⟨by first | rfl | (go_simp; done), ?ya12⟩) ?ra12
    case ya12 => intro w' hSw; clear hSw; go_simp; try (with_reducible rfl)
    go_simp
    refine restL_take (i := 11) (v := ?va13) [] rfl (by kernel_rfl) (by kernel_rfl) (by kernel_rfl) (by kernel_rfl) (fun _ _ _ h => h) (Or.inl ⟨by first | rfl | (go_simp; done), ?ya13⟩) hHeld ?ra13
    case ya13 =>
      intro w' hSw
      obtain ⟨hS0, hS1, hS2⟩ := hSw
      have hT0 : Hid (Row w' (w3.heap.size) 24 [.int .i64 g.w, .int .i64 g.h, .int .i64 g.edge, .slice UA un uc]) := hS0
      clear hS0
      have z0_0 := hT0.out.cell 0
      have z0_1 := hT0.out.cell 1
      have z0_2 := hT0.out.cell 2
      have z0_3 := hT0.out.cell 3
      have z0_l := hT0.out.lt
      simp only [List.getElem?_cons_zero, List.getElem?_cons_succ] at z0_0 z0_1 z0_2 z0_3
      have hT1 : Hid (Row w' (w.heap.size) 24 [.int .i64 g.w, .int .i64 g.h, .int .i64 g.edge, .slice A n c]) := hS1
      clear hS1
      have z1_0 := hT1.out.cell 0
      have z1_1 := hT1.out.cell 1
      have z1_2 := hT1.out.cell 2
      have z1_3 := hT1.out.cell 3
      have z1_l := hT1.out.lt
      simp only [List.getElem?_cons_zero, List.getElem?_cons_succ] at z1_0 z1_1 z1_2 z1_3
      have hT2 : Hid (Row w' (w.heap.size + 1) 46 [.int .i64 d0, .int .i64 d1]) := hS2
      clear hS2
      have z2_0 := hT2.out.cell 0
      have z2_1 := hT2.out.cell 1
      have z2_l := hT2.out.lt
      simp only [List.getElem?_cons_zero, List.getElem?_cons_succ] at z2_0 z2_1
      go_simp
      try (with_reducible rfl)
    go_simp
    refine restL_take (i := 13) (v := ?va14) [] rfl (by kernel_rfl) (by kernel_rfl) (by kernel_rfl) (by kernel_rfl) (fun _ _ _ h => h) (Or.inl ⟨by first | rfl | (go_simp; done), ?ya14⟩) hHeld ?ra14
    case ya14 =>
      intro w' hSw
      obtain ⟨hS0, hS1, hS2⟩ := hSw
      have hT0 : Hid (Row w' (w3.heap.size) 24 [.int .i64 g.w, .int .i64 g.h, .int .i64 g.edge, .slice UA un uc]) := hS0
      clear hS0
      have z0_0 := hT0.out.cell 0
      have z0_1 := hT0.out.cell 1
      have z0_2 := hT0.out.cell 2
      have z0_3 := hT0.out.cell 3
      have z0_l := hT0.out.lt
      simp only [List.getElem?_cons_zero, List.getElem?_cons_succ] at z0_0 z0_1 z0_2 z0_3
      have hT1 : Hid (Row w' (w.heap.size) 24 [.int .i64 g.w, .int .i64 g.h, .int .i64 g.edge, .slice A n c]) := hS1
      clear hS1
      have z1_0 := hT1.out.cell 0
      have z1_1 := hT1.out.cell 1
      have z1_2 := hT1.out.cell 2
      have z1_3 := hT1.out.cell 3
      have z1_l := hT1.out.lt
      simp only [List.getElem?_cons_zero, List.getElem?_cons_succ] at z1_0 z1_1 z1_2 z1_3
      have hT2 : Hid (Row w' (w.heap.size + 1) 46 [.int .i64 d0, .int .i64 d1]) := hS2
      clear hS2
      have z2_0 := hT2.out.cell 0
      have z2_1 := hT2.out.cell 1
      have z2_l := hT2.out.lt
      simp only [List.getElem?_cons_zero, List.getElem?_cons_succ] at z2_0 z2_1
      go_simp
      try (with_reducible rfl)
    go_simp
    refine restL_pure (i := 14) (v := ?va15) rfl (by kernel_rfl) (by kernel_rfl) (by kernel_rfl) (fun _ _ _ h => h) (Or.inl ⟨by first | rfl | (go_simp; done), ?ya15⟩) ?ra15
    case ya15 => intro w' hSw; clear hSw; go_simp; try (with_reducible rfl)
    go_simp
    refine restL_pure (i := 15) (v := ?va16) rfl (by kernel_rfl) (by kernel_rfl) (by kernel_rfl) (fun _ _ _ h => h) (Or.inl ⟨by rfl, ?ya16⟩) ?ra16
    case ya16 => intro w' hSw; clear hSw; go_simp; try (with_reducible rfl)
    go_simp
    refine restL_pure (i := 16) (v := ?va17) rfl (by kernel_rfl) (by kernel_rfl) (by kernel_rfl) (fun _ _ _ h => h) (Or.inl ⟨by rfl, ?ya17⟩) ?ra17
    case ya17 => intro w' hSw; clear hSw; go_simp; try (with_reducible rfl)
    go_simp
    refine restL_pure (i := 18) (v := ?va18) rfl (by kernel_rfl) (by kernel_rfl) (by kernel_rfl) (fun _ _ _ h => h) (Or.inl ⟨by first | rfl | (go_simp; done), ?ya18⟩) ?ra18
    case ya18 => intro w' hSw; clear hSw; go_simp; try (with_reducible rfl)
    go_simp
    refine restL_pure (i := 19) (v := ?va19) rfl (by kernel_rfl) (by kernel_rfl) (by kernel_rfl) (fun _ _ _ h => h) (Or.inl ⟨by first | rfl | (go_simp; done), ?ya19⟩) ?ra19
    case ya19 => intro w' hSw; clear hSw; go_simp; try (with_reducible rfl)
    go_simp
    refine restL_pure (i := 22) (v := ?va20) rfl (by kernel_rfl) (by kernel_rfl) (by kernel_rfl) (fun _ _ _ h => h) (Or.inl ⟨by first | rfl | (go_simp; done), ?ya20⟩) ?ra20
    case ya20 => intro w' hSw; clear hSw; go_simp; try (with_reducible rfl)
    go_simp
    refine restL_pure (i := 26) (v := ?va21) rfl (by kernel_rfl) (by kernel_rfl) (by kernel_rfl) (fun _ _ _ h => h) (Or.inl ⟨by first | rfl | (go_simp; done), ?ya21⟩) ?ra21
    case ya21 => intro w' hSw; clear hSw; go_simp; try (with_reducible rfl)
    go_simp
    refine restL_take (i := 17) (v := ?va22) [] rfl (by kernel_rfl) (by kernel_rfl) (by kernel_rfl) (by kernel_rfl) (fun _ _ _ h => h) (Or.inl ⟨by first | rfl | (go_simp; done), ?ya22⟩) hHeld ?ra22
    case ya22 =>
      intro w' hSw
      obtain ⟨hS0, hS1, hS2⟩ := hSw
      have hT0 : Hid (Row w' (w3.heap.size) 24 [.int .i64 g.w, .int .i64 g.h, .int .i64 g.edge, .slice UA un uc]) := hS0
      clear hS0
      have z0_0 := hT0.out.cell 0
      have z0_1 := hT0.out.cell 1
      have z0_2 := hT0.out.cell 2
      have z0_3 := hT0.out.cell 3
      have z0_l := hT0.out.lt
      simp only [List.getElem?_cons_zero, List.getElem?_cons_succ] at z0_0 z0_1 z0_2 z0_3
      have hT1 : Hid (Row w' (w.heap.size) 24 [.int .i64 g.w, .int .i64 g.h, .int .i64 g.edge, .slice A n c]) := hS1
      clear hS1
      have z1_0 := hT1.out.cell 0
      have z1_1 := hT1.out.cell 1
      have z1_2 := hT1.out.cell 2
      have z1_3 := hT1.out.cell 3
      have z1_l := hT1.out.lt
      simp only [List.getElem?_cons_zero, List.getElem?_cons_succ] at z1_0 z1_1 z1_2 z1_3
      have hT2 : Hid (Row w' (w.heap.size + 1) 46 [.int .i64 d0, .int .i64 d1]) := hS2
      clear hS2
      have z2_0 := hT2.out.cell 0
      have z2_1 := hT2.out.cell 1
      have z2_l := hT2.out.lt
      simp only [List.getElem?_cons_zero, List.getElem?_cons_succ] at z2_0 z2_1
      go_simp
      try (with_reducible rfl)
    go_simp
    refine restL_take (i := 21) (v := ?va23) [] rfl (by kernel_rfl) (by kernel_rfl) (by kernel_rfl) (by kernel_rfl) (fun _ _ _ h => h) (Or.inl ⟨by first | rfl | (go_simp; done), ?ya23⟩) hHeld ?ra23
    case ya23 =>
      intro w' hSw
      obtain ⟨hS0, hS1, hS2⟩ := hSw
      have hT0 : Hid (Row w' (w3.heap.size) 24 [.int .i64 g.w, .int .i64 g.h, .int .i64 g.edge, .slice UA un uc]) := hS0
      clear hS0
      have z0_0 := hT0.out.cell 0
      have z0_1 := hT0.out.cell 1
      have z0_2 := hT0.out.cell 2
      have z0_3 := hT0.out.cell 3
      have z0_l := hT0.out.lt
      simp only [List.getElem?_cons_zero, List.getElem?_cons_succ] at z0_0 z0_1 z0_2 z0_3
      have hT1 : Hid (Row w' (w.heap.size) 24 [.int .i64 g.w, .int .i64 g.h, .int .i64 g.edge, .slice A n c]) := hS1
      clear hS1
      have z1_0 := hT1.out.cell 0
      have z1_1 := hT1.out.cell 1
      have z1_2 := hT1.out.cell 2
      have z1_3 := hT1.out.cell 3
      have z1_l := hT1.out.lt
      simp only [List.getElem?_cons_zero, List.getElem?_cons_succ] at z1_0 z1_1 z1_2 z1_3
      have hT2 : Hid (Row w' (w.heap.size + 1) 46 [.int .i64 d0, .int .i64 d1]) := hS2
      clear hS2
      have z2_0 := hT2.out.cell 0
      have z2_1 := hT2.out.cell 1
      have z2_l := hT2.out.lt
      simp only [List.getElem?_cons_zero, List.getElem?_cons_succ] at z2_0 z2_1
      go_simp
      try (with_reducible rfl)
    go_simp
    refine restL_take (i := 23) (v := ?va24) [] rfl (by kernel_rfl) (by kernel_rfl) (by kernel_rfl) (by kernel_rfl) (fun _ _ _ h => h) (Or.inl ⟨by first | rfl | (go_simp; done), ?ya24⟩) hHeld ?ra24
    case ya24 =>
      intro w' hSw
      obtain ⟨hS0, hS1, hS2⟩ := hSw
      have hT0 : Hid (Row w' (w3.heap.size) 24 [.int .i64 g.w, .int .i64 g.h, .int .i64 g.edge, .slice UA un uc]) := hS0
      clear hS0
      have z0_0 := hT0.out.cell 0
      have z0_1 := hT0.out.cell 1
      have z0_2 := hT0.out.cell 2
      have z0_3 := hT0.out.cell 3
      have z0_l := hT0.out.lt
      simp only [List.getElem?_cons_zero, List.getElem?_cons_succ] at z0_0 z0_1 z0_2 z0_3
      have hT1 : Hid (Row w' (w.heap.size) 24 [.int .i64 g.w, .int .i64 g.h, .int .i64 g.edge, .slice A n c]) := hS1
      clear hS1
      have z1_0 := hT1.out.cell 0
      have z1_1 := hT1.out.cell 1
      have z1_2 := hT1.out.cell 2
      have z1_3 := hT1.out.cell 3
      have z1_l := hT1.out.lt
      simp only [List.getElem?_cons_zero, List.getElem?_cons_succ] at z1_0 z1_1 z1_2 z1_3
      have hT2 : Hid (Row w' (w.heap.size + 1) 46 [.int .i64 d0, .int .i64 d1]) := hS2
      clear hS2
      have z2_0 := hT2.out.cell 0
      have z2_1 := hT2.out.cell 1
      have z2_l := hT2.out.lt
      simp only [List.getElem?_cons_zero, List.getElem?_cons_succ] at z2_0 z2_1
      go_simp
      try (with_reducible rfl)
    go_simp
    refine restL_take (i := 24) (v := ?va25) [] rfl (by kernel_rfl) (by kernel_rfl) (by kernel_rfl) (by kernel_rfl) (fun _ _ _ h => h) (Or.inl ⟨by first | rfl | (go_simp; done), ?ya25⟩) hHeld ?ra25
    case ya25 =>
      intro w' hSw
      obtain ⟨hS0, hS1, hS2⟩ := hSw
      have hT0 : Hid (Row w' (w3.heap.size) 24 [.int .i64 g.w, .int .i64 g.h, .int .i64 g.edge, .slice UA un uc]) := hS0
      clear hS0
      have z0_0 := hT0.out.cell 0
      have z0_1 := hT0.out.cell 1
      have z0_2 := hT0.out.cell 2
      have z0_3 := hT0.out.cell 3
      have z0_l := hT0.out.lt
      simp only [List.getElem?_cons_zero, List.getElem?_cons_succ] at z0_0 z0_1 z0_2 z0_3
      have hT1 : Hid (Row w' (w.heap.size) 24 [.int .i64 g.w, .int .i64 g.h, .int .i64 g.edge, .slice A n c]) := hS1
      clear hS1
      have z1_0 := hT1.out.cell 0
      have z1_1 := hT1.out.cell 1
      have z1_2 := hT1.out.cell 2
      have z1_3 := hT1.out.cell 3
      have z1_l := hT1.out.lt
      simp only [List.getElem?_cons_zero, List.getElem?_cons_succ] at z1_0 z1_1 z1_2 z1_3
      have hT2 : Hid (Row w' (w.heap.size + 1) 46 [.int .i64 d0, .int .i64 d1]) := hS2
      clear hS2
      have z2_0 := hT2.out.cell 0
      have z2_1 := hT2.out.cell 1
      have z2_l := hT2.out.lt
      simp only [List.getElem?_cons_zero, List.getElem?_cons_succ] at z2_0 z2_1
      go_simp
      try (with_reducible rfl)
    go_simp
    refine restL_pure (i := 25) (v := ?va26) rfl (by kernel_rfl) (by kernel_rfl) (by kernel_rfl) (fun _ _ _ h => h) (Or.inl ⟨by first | rfl | (go_simp; done), ?ya26⟩) ?ra26
    case ya26 => intro w' hSw; clear hSw; go_simp; try (with_reducible rfl)
    go_simp
    refine restL_take (i := 27) (v := ?va27) [] rfl (by kernel_rfl) (by kernel_rfl) (by kernel_rfl) (by kernel_rfl) (fun _ _ _ h => h) (Or.inl ⟨by first | rfl | (go_simp; done), ?ya27⟩) hHeld ?ra27
    case ya27 =>
      intro w' hSw
      obtain ⟨hS0, hS1, hS2⟩ := hSw
      have hT0 : Hid (Row w' (w3.heap.size) 24 [.int .i64 g.w, .int .i64 g.h, .int .i64 g.edge, .slice UA un uc]) := hS0
      clear hS0
      have z0_0 := hT0.out.cell 0
      have z0_1 := hT0.out.cell 1
      have z0_2 := hT0.out.cell 2
      have z0_3 := hT0.out.cell 3
      have z0_l := hT0.out.lt
      simp only [List.getElem?_cons_zero, List.getElem?_cons_succ] at z0_0 z0_1 z0_2 z0_3
      have hT1 : Hid (Row w' (w.heap.size) 24 [.int .i64 g.w, .int .i64 g.h, .int .i64 g.edge, .slice A n c]) := hS1
      clear hS1
      have z1_0 := hT1.out.cell 0
      have z1_1 := hT1.out.cell 1
      have z1_2 := hT1.out.cell 2
      have z1_3 := hT1.out.cell 3
      have z1_l := hT1.out.lt
      simp only [List.getElem?_cons_zero, List.getElem?_cons_succ] at z1_0 z1_1 z1_2 z1_3
      have hT2 : Hid (Row w' (w.heap.size + 1) 46 [.int .i64 d0, .int .i64 d1]) := hS2
      clear hS2
      have z2_0 := hT2.out.cell 0
      have z2_1 := hT2.out.cell 1
      have z2_l := hT2.out.lt
      simp only [List.getElem?_cons_zero, List.getElem?_cons_succ] at z2_0 z2_1
      go_simp
      try (with_reducible rfl)
    go_simp
    refine restL_take (i := 28) (v := ?va28) [] rfl (by kernel_rfl) (by kernel_rfl) (by kernel_rfl) (by kernel_rfl) (fun _ _ _ h => h) (Or.inl ⟨by first | rfl | (go_simp; done), ?ya28⟩) hHeld ?ra28
    case ya28 =>
      intro w' hSw
      obtain ⟨hS0, hS1, hS2⟩ := hSw
      have hT0 : Hid (Row w' (w3.heap.size) 24 [.int .i64 g.w, .int .i64 g.h, .int .i64 g.edge, .slice UA un uc]) := hS0
      clear hS0
      have z0_0 := hT0.out.cell 0
      have z0_1 := hT0.out.cell 1
      have z0_2 := hT0.out.cell 2
      have z0_3 := hT0.out.cell 3
      have z0_l := hT0.out.lt
      simp only [List.getElem?_cons_zero, List.getElem?_cons_succ] at z0_0 z0_1 z0_2 z0_3
      have hT1 : Hid (Row w' (w.heap.size) 24 [.int .i64 g.w, .int .i64 g.h, .int .i64 g.edge, .slice A n c]) := hS1
      clear hS1
      have z1_0 := hT1.out.cell 0
      have z1_1 := hT1.out.cell 1
      have z1_2 := hT1.out.cell 2
      have z1_3 := hT1.out.cell 3
      have z1_l := hT1.out.lt
      simp only [List.getElem?_cons_zero, List.getElem?_cons_succ] at z1_0 z1_1 z1_2 z1_3
      have hT2 : Hid (Row w' (w.heap.size + 1) 46 [.int .i64 d0, .int .i64 d1]) := hS2
      clear hS2
      have z2_0 := hT2.out.cell 0
      have z2_1 := hT2.out.cell 1
      have z2_l := hT2.out.lt
      simp only [List.getElem?_cons_zero, List.getElem?_cons_succ] at z2_0 z2_1
      go_simp
      try (with_reducible rfl)
    go_simp
    refine restL_pure (i := 29) (v := ?va29) rfl (by kernel_rfl) (by kernel_rfl) (by kernel_rfl) (fun _ _ _ h => h) (Or.inl ⟨by first | rfl | (go_simp; done), ?ya29⟩) ?ra29
    case ya29 => intro w' hSw; clear hSw; go_simp; try (with_reducible rfl)
    go_simp
    refine restL_one (i := 20) (by kernel_rfl) rfl (fun K hK => ?_)
    go_simp
    go_at_call 26
    refine (gGet_any (movedG (packP g 3) d0 d1) UA un uc X Y wfq (by exact (HU.out.up B_w3.out))).mono ?_
    rw [K4.out]
    rintro e4 x1 ⟨rfl, hb⟩
    have B_w : Hid (Below w.heap.size w x1) := below_on2 B_w.out hb
    have B_wa : Hid (Below wa.heap.size wa x1) := below_on2 B_wa.out hb
    have B_w0 : Hid (Below w0.heap.size w0 x1) := below_on2 B_w0.out hb
    have B_w1 : Hid (Below w1.heap.size w1 x1) := below_on2 B_w1.out hb
    have B_wb : Hid (Below wb.heap.size wb x1) := below_on2 B_wb.out hb
    have B_w2 : Hid (Below w2.heap.size w2 x1) := below_on2 B_w2.out hb
    have B_wd : Hid (Below wd.heap.size wd x1) := below_on2 B_wd.out hb
    have B_w3 : Hid (Below w3.heap.size w3 x1) := below_on2 B_w3.out hb
    have B_we : Hid (Below we.heap.size we x1) := below_on2 B_we.out hb
    have B_wf : Hid (Below wf.heap.size wf x1) := below_on2 B_wf.out hb
    have B_wfq : Hid (Below wfq.heap.size wfq x1) := hb
    clear hb
    clear hHeld
    refine hK.out _ _ (fun _ => ?keep) (fun hHeld => ?_)
    case keep => exact ⟨(rowCells RU.out B_we.out), (rowCells RG.out B_wa.out), (rowCells RD.out B_wa.out)⟩
    have hHeld := hHeld rfl
    clear hK K
    try go_simp
    refine restL_one (i := 30) (by kernel_rfl) rfl (fun K hK => ?_)
    go_simp
    go_at_call 26
    refine (gGet_any g A n c ((X : Int) + d0) ((Y : Int) + d1) x1 (by exact (H.out.up B_w.out))).mono ?_
    rw [K5.out]
    rintro e4 x2 ⟨rfl, hb⟩
    have B_w : Hid (Below w.heap.size w x2) := below_on2 B_w.out hb
    have B_wa : Hid (Below wa.heap.size wa x2) := below_on2 B_wa.out hb
    have B_w0 : Hid (Below w0.heap.size w0 x2) := below_on2 B_w0.out hb
    have B_w1 : Hid (Below w1.heap.size w1 x2) := below_on2 B_w1.out hb
    have B_wb : Hid (Below wb.heap.size wb x2) := below_on2 B_wb.out hb
    have B_w2 : Hid (Below w2.heap.size w2 x2) := below_on2 B_w2.out hb
    have B_wd : Hid (Below wd.heap.size wd x2) := below_on2 B_wd.out hb
    have B_w3 : Hid (Below w3.heap.size w3 x2) := below_on2 B_w3.out hb
    have B_we : Hid (Below we.heap.size we x2) := below_on2 B_we.out hb
    have B_wf : Hid (Below wf.heap.size wf x2) := below_on2 B_wf.out hb
    have B_wfq : Hid (Below wfq.heap.size wfq x2) := below_on2 B_wfq.out hb
    have B_x1 : Hid (Below x1.heap.size x1 x2) := hb
    clear hb
    clear hHeld
    refine hK.out _ _ (fun _ => ?keep) (fun hHeld => ?_)
    case keep => exact ⟨(rowCells RU.out B_we.out), (rowCells RG.out B_wa.out), (rowCells RD.out B_wa.out)⟩
    have hHeld := hHeld rfl
    clear hK K
    try go_simp
    refine restL_pure (i := 31) (v := ?va30) rfl (by kernel_rfl) (by kernel_rfl) (by kernel_rfl) (fun _ _ _ h => h) (Or.inl ⟨by first | rfl | (go_simp; done), ?ya30⟩) ?ra30
    case ya30 => intro w' hSw; clear hSw; go_simp; try (with_reducible rfl)
    go_simp
    refine restL_pure (i := 32) (v := ?va31) rfl (by kernel_rfl) (by kernel_rfl) (by kernel_rfl) (fun _ _ _ h => h) (Or.inl ⟨by rfl, ?ya31⟩) ?ra31
    case ya31 => intro w' hSw; clear hSw; go_simp; try (with_reducible rfl)
    go_simp
    refine restL_pure (i := 33) (v := ?va32) rfl (by kernel_rfl) (by kernel_rfl) (by kernel_rfl) (fun _ _ _ h => h) (Or.inl ⟨by rfl, ?ya32⟩) ?ra32
    case ya32 => intro w' hSw; clear hSw; go_simp; try (with_reducible rfl)
    go_simp
    refine restL_one (i := 34) (by kernel_rfl) rfl (fun K hK => ?_)
    go_simp
    go_at_call 9
    refine (awake_any _).mono ?_
    rintro e4 x3 ⟨rfl, hb⟩
    have B_w : Hid (Below w.heap.size w x3) := below_on2 B_w.out hb
    have B_wa : Hid (Below wa.heap.size wa x3) := below_on2 B_wa.out hb
    have B_w0 : Hid (Below w0.heap.size w0 x3) := below_on2 B_w0.out hb
    have B_w1 : Hid (Below w1.heap.size w1 x3) := below_on2 B_w1.out hb
    have B_wb : Hid (Below wb.heap.size wb x3) := below_on2 B_wb.out hb
    have B_w2 : Hid (Below w2.heap.size w2 x3) := below_on2 B_w2.out hb
    have B_wd : Hid (Below wd.heap.size wd x3) := below_on2 B_wd.out hb
    have B_w3 : Hid (Below w3.heap.size w3 x3) := below_on2 B_w3.out hb
    have B_we : Hid (Below we.heap.size we x3) := below_on2 B_we.out hb
    have B_wf : Hid (Below wf.heap.size wf x3) := below_on2 B_wf.out hb
    have B_wfq : Hid (Below wfq.heap.size wfq x3) := below_on2 B_wfq.out hb
    have B_x1 : Hid (Below x1.heap.size x1 x3) := below_on2 B_x1.out hb
    have B_x2 : Hid (Below x2.heap.size x2 x3) := hb
    clear hb
    clear hHeld
    refine hK.out _ _ (fun _ => ?keep) (fun hHeld => ?_)
    case keep => exact ⟨(rowCells RU.out B_we.out), (rowCells RG.out B_wa.out), (rowCells RD.out B_wa.out)⟩
    have hHeld := hHeld rfl
    clear hK K
    try go_simp
    refine restL_pure (i := 35) (v := ?va33) rfl (by kernel_rfl) (by kernel_rfl) (by kernel_rfl) (fun _ _ _ h => h) (Or.inl ⟨by rfl, ?ya33⟩) ?ra33
    case ya33 => intro w' hSw; clear hSw; go_simp; try (with_reducible rfl)
    go_simp
    refine restL_pure (i := 36) (v := ?va34) rfl (by kernel_rfl) (by kernel_rfl) (by kernel_rfl) (fun _ _ _ h => h) (Or.inl ⟨by rfl, ?ya34⟩) ?ra34
    case ya34 => intro w' hSw; clear hSw; go_simp; try (with_reducible rfl)
    go_simp
    refine restL_done (by kernel_rfl) ?_ _
    go_wp2
    go_ret
    exact ⟨rfl, B_w.out⟩
  · have HME : Hid (moveErr (packP g 3) d0 d1 = 2) := by
      show _ = _
      unfold moveErr
      rw [if_neg]
      intro hh
      exact ho (by simpa [offOk] using hh.2)
    rw [HME.out]
    clear HME
    rintro e w2 h1
    obtain ⟨QA, qn, qc, sq, rfl, hpa, hb⟩ := ppost_at h1
    clear hpa h1
    have B_w : Hid (Below w.heap.size w w2) := below_on2 B_w.out hb
    have B_wa : Hid (Below wa.heap.size wa w2) := below_on2 B_wa.out hb
    have B_w0 : Hid (Below w0.heap.size w0 w2) := below_on2 B_w0.out hb
    have B_w1 : Hid (Below w1.heap.size w1 w2) := below_on2 B_w1.out hb
    have B_wb : Hid (Below wb.heap.size wb w2) := hb
    clear hb
    have hq : d0 < -256 ∨ ¬ d0 < -256 ∧ (256 < d0 ∨ ¬ 256 < d0 ∧ (d1 < -256 ∨ ¬ d1 < -256 ∧ 256 < d1)) := by omega
    clear ho
    have rR : Hid (Row w2 (w.heap.size + 1) 46 [.int .i64 d0, .int .i64 d1]) := (rowCells RD.out B_wa.out)
    have r0 := rR.out.cell 0
    have r1 := rR.out.cell 1
    have rl := rR.out.lt
    simp only [List.getElem?_cons_zero, List.getElem?_cons_succ] at r0 r1
    clear rR
    rcases hq with h1 | ⟨h2, h1 | ⟨h3, h1 | ⟨h4, h1⟩⟩⟩
    · go_wp2_with fail
      refine (awake_any _).mono ?_
      rintro e w9 ⟨rfl, hb⟩
      have HBE : Hid (Below w.heap.size w w9) := below_on B_w.out (by go_grown) hb
      clear hb
      go_wp2
      go_ret
      exact ⟨rfl, HBE.out⟩
    · go_wp2_with fail
      refine (awake_any _).mono ?_
      rintro e w9 ⟨rfl, hb⟩
      have HBE : Hid (Below w.heap.size w w9) := below_on B_w.out (by go_grown) hb
      clear hb
      go_wp2
      go_ret
      exact ⟨rfl, HBE.out⟩
    · go_wp2_with fail
      refine (awake_any _).mono ?_
      rintro e w9 ⟨rfl, hb⟩
      have HBE : Hid (Below w.heap.size w w9) := below_on B_w.out (by go_grown) hb
      clear hb
      go_wp2
      go_ret
      exact ⟨rfl, HBE.out⟩
    · go_wp2_with fail
      refine (awake_any _).mono ?_
      rintro e w9 ⟨rfl, hb⟩
      have HBE : Hid (Below w.heap.size w w9) := below_on B_w.out (by go_grown) hb
      clear hb
      go_wp2
      go_ret
      exact ⟨rfl, HBE.out⟩
end Go.Proofs.Ytfknooffjhncgaa
