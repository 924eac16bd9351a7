/-
  The law PlaneReturns: what it does.
-/
import Derived.Test.YtfknooffjhncgaaPAwake
import Derived.Test.YtfknooffjhncgaaPFew
import Derived.Test.YtfknooffjhncgaaPSumP
import Derived.Test.YtfknooffjhncgaaGRefRB
namespace Go.Proofs.Ytfknooffjhncgaa
open Go.RowKit
set_option linter.unusedSimpArgs false
set_option linter.unusedVariables false
set_option maxRecDepth 100000 in
set_option maxHeartbeats 8000000 in
theorem lawReturns_any (g : Grd) (p : Pln) (A B : Option Addr) (n c k d : Nat) (b : Int) (sm : List Sl) (w : World) (h1 : GAt w g A n) (h2 : PAt w p B k sm) :
    Calls Try.prog 6 #[.agg #[.int .i64 g.w, .int .i64 g.h, .int .i64 g.edge, .slice A n c], .int .i64 b, .agg #[.int .i64 p.w, .int .i64 p.h, .int .i64 p.edge, .slice B k d]] w fun e w' => e = .returned (.bool true) ∧ Below w.heap.size w w' := by
  have H1 : Hid (GAt w g A n) := h1
  have H2 : Hid (PAt w p B k sm) := h2
  have HKL : Hid (p.words.length = k) := h2.wl
  have hm := h1.c63
  have hk := h2.n63
  unfold maxLen at hm hk
  clear h1 h2
  go_enter Try.func6, Try.ntmps6
  by_cases hl : (5000 : Int) < (n : Int)
  · go_wp2_with fail
    refine (awake_any _).mono ?_
    rintro e w9 ⟨rfl, hb⟩
    have HBE : Hid (Below w.heap.size w w9) := below_next hb (by go_grown)
    clear hb
    go_wp2
    go_ret
    exact ⟨rfl, HBE.out⟩
  go_wp2_with fail
  have RG : Hid (Row (World.alloc (World.alloc w (.cells #[.int .i64 g.w, .int .i64 g.h, .int .i64 g.edge, .slice A n c] 24)) (.cells #[.int .i64 p.w, .int .i64 p.h, .int .i64 p.edge, .slice B k d] 28)) (w.heap.size) 24 [.int .i64 g.w, .int .i64 g.h, .int .i64 g.edge, .slice A n c]) := by
    have h0 := Row.new w 24 [.int .i64 g.w, .int .i64 g.h, .int .i64 g.edge, .slice A n c]
    try simp only [World.size_alloc] at h0
    exact (h0.alloc _)
  have RP : Hid (Row (World.alloc (World.alloc w (.cells #[.int .i64 g.w, .int .i64 g.h, .int .i64 g.edge, .slice A n c] 24)) (.cells #[.int .i64 p.w, .int .i64 p.h, .int .i64 p.edge, .slice B k d] 28)) (w.heap.size + 1) 28 [.int .i64 p.w, .int .i64 p.h, .int .i64 p.edge, .slice B k d]) := by
    have h0 := Row.new (World.alloc w (.cells #[.int .i64 g.w, .int .i64 g.h, .int .i64 g.edge, .slice A n c] 24)) 28 [.int .i64 p.w, .int .i64 p.h, .int .i64 p.edge, .slice B k d]
    try simp only [World.size_alloc] at h0
    exact h0
  have hgr9 : Below w.heap.size w (World.alloc (World.alloc w (.cells #[.int .i64 g.w, .int .i64 g.h, .int .i64 g.edge, .slice A n c] 24)) (.cells #[.int .i64 p.w, .int .i64 p.h, .int .i64 p.edge, .slice B k d] 28)) := by go_grown
  have B_w : Hid (Below w.heap.size w (World.alloc (World.alloc w (.cells #[.int .i64 g.w, .int .i64 g.h, .int .i64 g.edge, .slice A n c] 24)) (.cells #[.int .i64 p.w, .int .i64 p.h, .int .i64 p.edge, .slice B k d] 28))) := hgr9
  clear hgr9
  revert RG RP B_w
  generalize (World.alloc (World.alloc w (.cells #[.int .i64 g.w, .int .i64 g.h, .int .i64 g.edge, .slice A n c] 24)) (.cells #[.int .i64 p.w, .int .i64 p.h, .int .i64 p.edge, .slice B k d] 28)) = wa
  intro RG RP B_w
  refine (few_any p B k d sm wa (H2.out.up B_w.out)).mono ?_
  rintro e w0 ⟨rfl, hb⟩
  have B_w : Hid (Below w.heap.size w w0) := below_on2 B_w.out hb
  have B_wa : Hid (Below wa.heap.size wa w0) := hb
  clear hb
  cases hf : fewF p
  · clear hf
    go_wp2_with fail
    refine (awake_any _).mono ?_
    rintro e w9 ⟨rfl, hb⟩
    have HBE : Hid (Below w.heap.size w w9) := below_on2 B_w.out hb
    clear hb
    go_wp2
    go_ret
    exact ⟨rfl, HBE.out⟩
  clear hf
  have kR : Hid (Row w0 (w.heap.size) 24 [.int .i64 g.w, .int .i64 g.h, .int .i64 g.edge, .slice A n c]) := (rowCells RG.out B_wa.out)
  have k0 := kR.out.cell 0
  have k1 := kR.out.cell 1
  have k2 := kR.out.cell 2
  have k3 := kR.out.cell 3
  have kl := kR.out.lt
  simp only [List.getElem?_cons_zero, List.getElem?_cons_succ] at k0 k1 k2 k3
  clear kR
  go_wp2_with fail
  refine (plPack_any g A n c b w0 (H1.out.up B_w.out)).mono ?_
  by_cases he : packErr g b = 0
  · have HE : Hid (packErr g b = 0) := he
    have HRI : Hid (rightPl (packR g b) = true) := by show _ = _; unfold packR; rw [if_pos he]; exact pack_right he
    have HUN : Hid (unpackR (packR g b) = g ∧ unpackErr (packR g b) = 0) := by
      refine ⟨?_, by unfold unpackErr; rw [if_pos HRI.out]⟩
      unfold unpackR
      rw [if_pos HRI.out]
      unfold packR
      rw [if_pos he]; exact unpack_pack he
    rw [he]
    clear he
    rintro e w1 h1
    obtain ⟨PA, pn, pc, sl, rfl, hpa, hb⟩ := ppost_at h1
    have HP : Hid (PAt w1 (packR g b) PA pn sl) := hpa
    clear hpa h1
    have B_w : Hid (Below w.heap.size w w1) := below_on2 B_w.out hb
    have B_wa : Hid (Below wa.heap.size wa w1) := below_on2 B_wa.out hb
    have B_w0 : Hid (Below w0.heap.size w0 w1) := hb
    clear k0 k1 k2 k3 kl
    clear hb
    go_wp2_with fail
    have RQ : Hid (Row (World.alloc w1 (.cells #[.int .i64 (packR g b).w, .int .i64 (packR g b).h, .int .i64 (packR g b).edge, .slice PA pn pc] 28)) (w1.heap.size) 28 [.int .i64 (packR g b).w, .int .i64 (packR g b).h, .int .i64 (packR g b).edge, .slice PA pn pc]) := by
      have h0 := Row.new w1 28 [.int .i64 (packR g b).w, .int .i64 (packR g b).h, .int .i64 (packR g b).edge, .slice PA pn pc]
      try simp only [World.size_alloc] at h0
      exact h0
    have hgr9 : Below w1.heap.size w1 (World.alloc w1 (.cells #[.int .i64 (packR g b).w, .int .i64 (packR g b).h, .int .i64 (packR g b).edge, .slice PA pn pc] 28)) := by go_grown
    have B_w : Hid (Below w.heap.size w (World.alloc w1 (.cells #[.int .i64 (packR g b).w, .int .i64 (packR g b).h, .int .i64 (packR g b).edge, .slice PA pn pc] 28))) := below_on2 B_w.out hgr9
    have B_wa : Hid (Below wa.heap.size wa (World.alloc w1 (.cells #[.int .i64 (packR g b).w, .int .i64 (packR g b).h, .int .i64 (packR g b).edge, .slice PA pn pc] 28))) := below_on2 B_wa.out hgr9
    have B_w0 : Hid (Below w0.heap.size w0 (World.alloc w1 (.cells #[.int .i64 (packR g b).w, .int .i64 (packR g b).h, .int .i64 (packR g b).edge, .slice PA pn pc] 28))) := below_on2 B_w0.out hgr9
    have B_w1 : Hid (Below w1.heap.size w1 (World.alloc w1 (.cells #[.int .i64 (packR g b).w, .int .i64 (packR g b).h, .int .i64 (packR g b).edge, .slice PA pn pc] 28))) := hgr9
    clear hgr9
    revert RQ B_w B_wa B_w0 B_w1
    generalize (World.alloc w1 (.cells #[.int .i64 (packR g b).w, .int .i64 (packR g b).h, .int .i64 (packR g b).edge, .slice PA pn pc] 28)) = wb
    intro RQ B_w B_wa B_w0 B_w1
    have HC := plUnpack_any (packR g b) PA pn pc sl wb (HP.out.up B_w1.out)
    rw [HUN.out.1, HUN.out.2] at HC
    refine HC.mono ?_
    clear HC
    rintro e w2 ⟨XA, xn, xc, rfl, hga, hb⟩
    have HX : Hid (GAt w2 g XA xn) := hga
    clear hga
    have B_w : Hid (Below w.heap.size w w2) := below_on2 B_w.out hb
    have B_wa : Hid (Below wa.heap.size wa w2) := below_on2 B_wa.out hb
    have B_w0 : Hid (Below w0.heap.size w0 w2) := below_on2 B_w0.out hb
    have B_w1 : Hid (Below w1.heap.size w1 w2) := below_on2 B_w1.out hb
    have B_wb : Hid (Below wb.heap.size wb w2) := hb
    clear hb
    have kR : Hid (Row w2 (w.heap.size) 24 [.int .i64 g.w, .int .i64 g.h, .int .i64 g.edge, .slice A n c]) := (rowCells RG.out B_wa.out)
    have k0 := kR.out.cell 0
    have k1 := kR.out.cell 1
    have k2 := kR.out.cell 2
    have k3 := kR.out.cell 3
    have kl := kR.out.lt
    simp only [List.getElem?_cons_zero, List.getElem?_cons_succ] at k0 k1 k2 k3
    clear kR
    go_wp2_with fail
    have RX : Hid (Row (World.alloc w2 (.cells #[.int .i64 g.w, .int .i64 g.h, .int .i64 g.edge, .slice XA xn xc] 24)) (w2.heap.size) 24 [.int .i64 g.w, .int .i64 g.h, .int .i64 g.edge, .slice XA xn xc]) := by
      have h0 := Row.new w2 24 [.int .i64 g.w, .int .i64 g.h, .int .i64 g.edge, .slice XA xn xc]
      try simp only [World.size_alloc] at h0
      exact h0
    have hgr9 : Below w2.heap.size w2 (World.alloc w2 (.cells #[.int .i64 g.w, .int .i64 g.h, .int .i64 g.edge, .slice XA xn xc] 24)) := by go_grown
    have B_w : Hid (Below w.heap.size w (World.alloc w2 (.cells #[.int .i64 g.w, .int .i64 g.h, .int .i64 g.edge, .slice XA xn xc] 24))) := below_on2 B_w.out hgr9
    have B_wa : Hid (Below wa.heap.size wa (World.alloc w2 (.cells #[.int .i64 g.w, .int .i64 g.h, .int .i64 g.edge, .slice XA xn xc] 24))) := below_on2 B_wa.out hgr9
    have B_w0 : Hid (Below w0.heap.size w0 (World.alloc w2 (.cells #[.int .i64 g.w, .int .i64 g.h, .int .i64 g.edge, .slice XA xn xc] 24))) := below_on2 B_w0.out hgr9
    have B_w1 : Hid (Below w1.heap.size w1 (World.alloc w2 (.cells #[.int .i64 g.w, .int .i64 g.h, .int .i64 g.edge, .slice XA xn xc] 24))) := below_on2 B_w1.out hgr9
    have B_wb : Hid (Below wb.heap.size wb (World.alloc w2 (.cells #[.int .i64 g.w, .int .i64 g.h, .int .i64 g.edge, .slice XA xn xc] 24))) := below_on2 B_wb.out hgr9
    have B_w2 : Hid (Below w2.heap.size w2 (World.alloc w2 (.cells #[.int .i64 g.w, .int .i64 g.h, .int .i64 g.edge, .slice XA xn xc] 24))) := hgr9
    clear hgr9
    clear k0 k1 k2 k3 kl
    revert RX B_w B_wa B_w0 B_w1 B_wb B_w2
    generalize (World.alloc w2 (.cells #[.int .i64 g.w, .int .i64 g.h, .int .i64 g.edge, .slice XA xn xc] 24)) = wc
    intro RX B_w B_wa B_w0 B_w1 B_wb B_w2
    have HC := rGSame_any g g XA A xn xc n c wc (HX.out.up B_w2.out) (H1.out.up B_w.out)
    rw [show sameG g g = true from (sameG_iff _ _).2 rfl] at HC
    refine HC.mono ?_
    clear HC
    rintro e w3 ⟨rfl, hb⟩
    have B_w : Hid (Below w.heap.size w w3) := below_on2 B_w.out hb
    have B_wa : Hid (Below wa.heap.size wa w3) := below_on2 B_wa.out hb
    have B_w0 : Hid (Below w0.heap.size w0 w3) := below_on2 B_w0.out hb
    have B_w1 : Hid (Below w1.heap.size w1 w3) := below_on2 B_w1.out hb
    have B_wb : Hid (Below wb.heap.size wb w3) := below_on2 B_wb.out hb
    have B_w2 : Hid (Below w2.heap.size w2 w3) := below_on2 B_w2.out hb
    have B_wc : Hid (Below wc.heap.size wc w3) := hb
    clear hb
    have kR : Hid (Row w3 (w1.heap.size) 28 [.int .i64 (packR g b).w, .int .i64 (packR g b).h, .int .i64 (packR g b).edge, .slice PA pn pc]) := (rowCells RQ.out B_wb.out)
    have k0 := kR.out.cell 0
    have k1 := kR.out.cell 1
    have k2 := kR.out.cell 2
    have k3 := kR.out.cell 3
    have kl := kR.out.lt
    simp only [List.getElem?_cons_zero, List.getElem?_cons_succ] at k0 k1 k2 k3
    clear kR
    go_wp2_with fail
    have HC := plRight_any (packR g b) PA pn pc sl w3 (HP.out.up B_w1.out)
    rw [HRI.out] at HC
    refine HC.mono ?_
    clear HC
    rintro e w4 ⟨rfl, hb⟩
    have B_w : Hid (Below w.heap.size w w4) := below_on2 B_w.out hb
    have B_wa : Hid (Below wa.heap.size wa w4) := below_on2 B_wa.out hb
    have B_w0 : Hid (Below w0.heap.size w0 w4) := below_on2 B_w0.out hb
    have B_w1 : Hid (Below w1.heap.size w1 w4) := below_on2 B_w1.out hb
    have B_wb : Hid (Below wb.heap.size wb w4) := below_on2 B_wb.out hb
    have B_w2 : Hid (Below w2.heap.size w2 w4) := below_on2 B_w2.out hb
    have B_wc : Hid (Below wc.heap.size wc w4) := below_on2 B_wc.out hb
    have B_w3 : Hid (Below w3.heap.size w3 w4) := hb
    clear k0 k1 k2 k3 kl
    clear hb
    have kR : Hid (Row w4 (w.heap.size + 1) 28 [.int .i64 p.w, .int .i64 p.h, .int .i64 p.edge, .slice B k d]) := (rowCells RP.out B_wa.out)
    have k0 := kR.out.cell 0
    have k1 := kR.out.cell 1
    have k2 := kR.out.cell 2
    have k3 := kR.out.cell 3
    have kl := kR.out.lt
    simp only [List.getElem?_cons_zero, List.getElem?_cons_succ] at k0 k1 k2 k3
    clear kR
    go_wp2_with fail
    refine (plUnpack_any p B k d sm w4 (H2.out.up B_w.out)).mono ?_
    rintro e z1 ⟨UA, un, uc, rfl, hga, hb⟩
    have HU : Hid (GAt z1 (unpackR p) UA un) := hga
    clear hga
    have B_w : Hid (Below w.heap.size w z1) := below_on2 B_w.out hb
    have B_wa : Hid (Below wa.heap.size wa z1) := below_on2 B_wa.out hb
    have B_w0 : Hid (Below w0.heap.size w0 z1) := below_on2 B_w0.out hb
    have B_w1 : Hid (Below w1.heap.size w1 z1) := below_on2 B_w1.out hb
    have B_wb : Hid (Below wb.heap.size wb z1) := below_on2 B_wb.out hb
    have B_w2 : Hid (Below w2.heap.size w2 z1) := below_on2 B_w2.out hb
    have B_wc : Hid (Below wc.heap.size wc z1) := below_on2 B_wc.out hb
    have B_w3 : Hid (Below w3.heap.size w3 z1) := below_on2 B_w3.out hb
    have B_w4 : Hid (Below w4.heap.size w4 z1) := hb
    clear k0 k1 k2 k3 kl
    clear hb
    cases hr : rightPl p
    · have HCN : Hid (countF p = []) := countF_nil hr
      have HUE : Hid (unpackErr p = 2) := by show _ = _; unfold unpackErr; rw [hr]; rfl
      rw [HUE.out]
      clear hr
      have kR : Hid (Row z1 (w.heap.size + 1) 28 [.int .i64 p.w, .int .i64 p.h, .int .i64 p.edge, .slice B k d]) := (rowCells RP.out B_wa.out)
      have k0 := kR.out.cell 0
      have k1 := kR.out.cell 1
      have k2 := kR.out.cell 2
      have k3 := kR.out.cell 3
      have kl := kR.out.lt
      simp only [List.getElem?_cons_zero, List.getElem?_cons_succ] at k0 k1 k2 k3
      clear kR
      go_wp2_with fail
      have RU : Hid (Row (World.alloc z1 (.cells #[.int .i64 (unpackR p).w, .int .i64 (unpackR p).h, .int .i64 (unpackR p).edge, .slice UA un uc] 24)) (z1.heap.size) 24 [.int .i64 (unpackR p).w, .int .i64 (unpackR p).h, .int .i64 (unpackR p).edge, .slice UA un uc]) := by
        have h0 := Row.new z1 24 [.int .i64 (unpackR p).w, .int .i64 (unpackR p).h, .int .i64 (unpackR p).edge, .slice UA un uc]
        try simp only [World.size_alloc] at h0
        exact h0
      have hgr9 : Below z1.heap.size z1 (World.alloc z1 (.cells #[.int .i64 (unpackR p).w, .int .i64 (unpackR p).h, .int .i64 (unpackR p).edge, .slice UA un uc] 24)) := by go_grown
      have B_w : Hid (Below w.heap.size w (World.alloc z1 (.cells #[.int .i64 (unpackR p).w, .int .i64 (unpackR p).h, .int .i64 (unpackR p).edge, .slice UA un uc] 24))) := below_on2 B_w.out hgr9
      have B_wa : Hid (Below wa.heap.size wa (World.alloc z1 (.cells #[.int .i64 (unpackR p).w, .int .i64 (unpackR p).h, .int .i64 (unpackR p).edge, .slice UA un uc] 24))) := below_on2 B_wa.out hgr9
      have B_w0 : Hid (Below w0.heap.size w0 (World.alloc z1 (.cells #[.int .i64 (unpackR p).w, .int .i64 (unpackR p).h, .int .i64 (unpackR p).edge, .slice UA un uc] 24))) := below_on2 B_w0.out hgr9
      have B_w1 : Hid (Below w1.heap.size w1 (World.alloc z1 (.cells #[.int .i64 (unpackR p).w, .int .i64 (unpackR p).h, .int .i64 (unpackR p).edge, .slice UA un uc] 24))) := below_on2 B_w1.out hgr9
      have B_wb : Hid (Below wb.heap.size wb (World.alloc z1 (.cells #[.int .i64 (unpackR p).w, .int .i64 (unpackR p).h, .int .i64 (unpackR p).edge, .slice UA un uc] 24))) := below_on2 B_wb.out hgr9
      have B_w2 : Hid (Below w2.heap.size w2 (World.alloc z1 (.cells #[.int .i64 (unpackR p).w, .int .i64 (unpackR p).h, .int .i64 (unpackR p).edge, .slice UA un uc] 24))) := below_on2 B_w2.out hgr9
      have B_wc : Hid (Below wc.heap.size wc (World.alloc z1 (.cells #[.int .i64 (unpackR p).w, .int .i64 (unpackR p).h, .int .i64 (unpackR p).edge, .slice UA un uc] 24))) := below_on2 B_wc.out hgr9
      have B_w3 : Hid (Below w3.heap.size w3 (World.alloc z1 (.cells #[.int .i64 (unpackR p).w, .int .i64 (unpackR p).h, .int .i64 (unpackR p).edge, .slice UA un uc] 24))) := below_on2 B_w3.out hgr9
      have B_w4 : Hid (Below w4.heap.size w4 (World.alloc z1 (.cells #[.int .i64 (unpackR p).w, .int .i64 (unpackR p).h, .int .i64 (unpackR p).edge, .slice UA un uc] 24))) := below_on2 B_w4.out hgr9
      have B_z1 : Hid (Below z1.heap.size z1 (World.alloc z1 (.cells #[.int .i64 (unpackR p).w, .int .i64 (unpackR p).h, .int .i64 (unpackR p).edge, .slice UA un uc] 24))) := hgr9
      clear hgr9
      clear k0 k1 k2 k3 kl
      revert RU B_w B_wa B_w0 B_w1 B_wb B_w2 B_wc B_w3 B_w4 B_z1
      generalize (World.alloc z1 (.cells #[.int .i64 (unpackR p).w, .int .i64 (unpackR p).h, .int .i64 (unpackR p).edge, .slice UA un uc] 24)) = z2
      intro RU B_w B_wa B_w0 B_w1 B_wb B_w2 B_wc B_w3 B_w4 B_z1
      have HC := plCount_any p B k d sm z2 (H2.out.up B_w.out)
      rw [HCN.out] at HC
      refine HC.mono ?_
      clear HC
      rintro e z3 ⟨CA, cn, cc, rfl, hcr, hcn, hb⟩
      obtain rfl : 0 = cn := by have := hcr.1; simp at this; omega
      clear hcr
      have B_w : Hid (Below w.heap.size w z3) := below_on2 B_w.out hb
      have B_wa : Hid (Below wa.heap.size wa z3) := below_on2 B_wa.out hb
      have B_w0 : Hid (Below w0.heap.size w0 z3) := below_on2 B_w0.out hb
      have B_w1 : Hid (Below w1.heap.size w1 z3) := below_on2 B_w1.out hb
      have B_wb : Hid (Below wb.heap.size wb z3) := below_on2 B_wb.out hb
      have B_w2 : Hid (Below w2.heap.size w2 z3) := below_on2 B_w2.out hb
      have B_wc : Hid (Below wc.heap.size wc z3) := below_on2 B_wc.out hb
      have B_w3 : Hid (Below w3.heap.size w3 z3) := below_on2 B_w3.out hb
      have B_w4 : Hid (Below w4.heap.size w4 z3) := below_on2 B_w4.out hb
      have B_z1 : Hid (Below z1.heap.size z1 z3) := below_on2 B_z1.out hb
      have B_z2 : Hid (Below z2.heap.size z2 z3) := hb
      clear hb
      go_wp2_with fail
      refine (awake_any _).mono ?_
      rintro e w9 ⟨rfl, hb⟩
      have HBE : Hid (Below w.heap.size w w9) := below_on2 B_w.out hb
      clear hb
      go_wp2
      go_ret
      exact ⟨rfl, HBE.out⟩
    · have HUE : Hid (unpackErr p = 0) := by show _ = _; unfold unpackErr; rw [hr]; rfl
      have HUR : Hid (unpackR p = unpackG p) := by show _ = _; unfold unpackR; rw [hr]; rfl
      rw [HUR.out] at HU ⊢
      rw [HUE.out]
      obtain ⟨pu1, pu2⟩ := pack_unpack hr
      rw [HKL.out] at pu1 pu2
      have HPE : Hid (packErr (unpackG p) k = 0) := pu1
      have HPR : Hid (packR (unpackG p) k = p) := by show _ = _; unfold packR; rw [if_pos pu1, Int.toNat_natCast]; exact pu2
      have HSU : Hid ((countF p).sum = p.w * p.h) := countF_sum hr
      obtain ⟨hsz, _, _⟩ := rightPl_parts hr
      obtain ⟨q1, q2, q3, _⟩ := sizedF_parts hsz
      have hsl := countF_len hr
      have hpb := prod_bd q1 q2
      obtain ⟨cnt, hcnt⟩ : ∃ cnt : Int, cnt = p.w * p.h := ⟨_, rfl⟩
      have HCT : Hid (p.w * p.h = cnt) := hcnt.symm
      rw [← hcnt] at hpb
      clear hr pu1 pu2 hsz q1 q2 q3 hcnt
      have kR : Hid (Row z1 (w.heap.size + 1) 28 [.int .i64 p.w, .int .i64 p.h, .int .i64 p.edge, .slice B k d]) := (rowCells RP.out B_wa.out)
      have k0 := kR.out.cell 0
      have k1 := kR.out.cell 1
      have k2 := kR.out.cell 2
      have k3 := kR.out.cell 3
      have kl := kR.out.lt
      simp only [List.getElem?_cons_zero, List.getElem?_cons_succ] at k0 k1 k2 k3
      clear kR
      go_wp2_with fail
      have RU : Hid (Row (World.alloc z1 (.cells #[.int .i64 (unpackG p).w, .int .i64 (unpackG p).h, .int .i64 (unpackG p).edge, .slice UA un uc] 24)) (z1.heap.size) 24 [.int .i64 (unpackG p).w, .int .i64 (unpackG p).h, .int .i64 (unpackG p).edge, .slice UA un uc]) := by
        have h0 := Row.new z1 24 [.int .i64 (unpackG p).w, .int .i64 (unpackG p).h, .int .i64 (unpackG p).edge, .slice UA un uc]
        try simp only [World.size_alloc] at h0
        exact h0
      have hgr9 : Below z1.heap.size z1 (World.alloc z1 (.cells #[.int .i64 (unpackG p).w, .int .i64 (unpackG p).h, .int .i64 (unpackG p).edge, .slice UA un uc] 24)) := by go_grown
      have B_w : Hid (Below w.heap.size w (World.alloc z1 (.cells #[.int .i64 (unpackG p).w, .int .i64 (unpackG p).h, .int .i64 (unpackG p).edge, .slice UA un uc] 24))) := below_on2 B_w.out hgr9
      have B_wa : Hid (Below wa.heap.size wa (World.alloc z1 (.cells #[.int .i64 (unpackG p).w, .int .i64 (unpackG p).h, .int .i64 (unpackG p).edge, .slice UA un uc] 24))) := below_on2 B_wa.out hgr9
      have B_w0 : Hid (Below w0.heap.size w0 (World.alloc z1 (.cells #[.int .i64 (unpackG p).w, .int .i64 (unpackG p).h, .int .i64 (unpackG p).edge, .slice UA un uc] 24))) := below_on2 B_w0.out hgr9
      have B_w1 : Hid (Below w1.heap.size w1 (World.alloc z1 (.cells #[.int .i64 (unpackG p).w, .int .i64 (unpackG p).h, .int .i64 (unpackG p).edge, .slice UA un uc] 24))) := below_on2 B_w1.out hgr9
      have B_wb : Hid (Below wb.heap.size wb (World.alloc z1 (.cells #[.int .i64 (unpackG p).w, .int .i64 (unpackG p).h, .int .i64 (unpackG p).edge, .slice UA un uc] 24))) := below_on2 B_wb.out hgr9
      have B_w2 : Hid (Below w2.heap.size w2 (World.alloc z1 (.cells #[.int .i64 (unpackG p).w, .int .i64 (unpackG p).h, .int .i64 (unpackG p).edge, .slice UA un uc] 24))) := below_on2 B_w2.out hgr9
      have B_wc : Hid (Below wc.heap.size wc (World.alloc z1 (.cells #[.int .i64 (unpackG p).w, .int .i64 (unpackG p).h, .int .i64 (unpackG p).edge, .slice UA un uc] 24))) := below_on2 B_wc.out hgr9
      have B_w3 : Hid (Below w3.heap.size w3 (World.alloc z1 (.cells #[.int .i64 (unpackG p).w, .int .i64 (unpackG p).h, .int .i64 (unpackG p).edge, .slice UA un uc] 24))) := below_on2 B_w3.out hgr9
      have B_w4 : Hid (Below w4.heap.size w4 (World.alloc z1 (.cells #[.int .i64 (unpackG p).w, .int .i64 (unpackG p).h, .int .i64 (unpackG p).edge, .slice UA un uc] 24))) := below_on2 B_w4.out hgr9
      have B_z1 : Hid (Below z1.heap.size z1 (World.alloc z1 (.cells #[.int .i64 (unpackG p).w, .int .i64 (unpackG p).h, .int .i64 (unpackG p).edge, .slice UA un uc] 24))) := hgr9
      clear hgr9
      clear k0 k1 k2 k3 kl
      revert RU B_w B_wa B_w0 B_w1 B_wb B_w2 B_wc B_w3 B_w4 B_z1
      generalize (World.alloc z1 (.cells #[.int .i64 (unpackG p).w, .int .i64 (unpackG p).h, .int .i64 (unpackG p).edge, .slice UA un uc] 24)) = z2
      intro RU B_w B_wa B_w0 B_w1 B_wb B_w2 B_wc B_w3 B_w4 B_z1
      have HC := plPack_any (unpackG p) UA un uc k z2 (HU.out.up B_z1.out)
      rw [HPE.out, HPR.out] at HC
      refine HC.mono ?_
      clear HC
      rintro e z3 h1
      obtain ⟨DA, dn, dc, sd, rfl, hpa, hb⟩ := ppost_at h1
      have HD : Hid (PAt z3 p DA dn sd) := hpa
      clear hpa h1
      have B_w : Hid (Below w.heap.size w z3) := below_on2 B_w.out hb
      have B_wa : Hid (Below wa.heap.size wa z3) := below_on2 B_wa.out hb
      have B_w0 : Hid (Below w0.heap.size w0 z3) := below_on2 B_w0.out hb
      have B_w1 : Hid (Below w1.heap.size w1 z3) := below_on2 B_w1.out hb
      have B_wb : Hid (Below wb.heap.size wb z3) := below_on2 B_wb.out hb
      have B_w2 : Hid (Below w2.heap.size w2 z3) := below_on2 B_w2.out hb
      have B_wc : Hid (Below wc.heap.size wc z3) := below_on2 B_wc.out hb
      have B_w3 : Hid (Below w3.heap.size w3 z3) := below_on2 B_w3.out hb
      have B_w4 : Hid (Below w4.heap.size w4 z3) := below_on2 B_w4.out hb
      have B_z1 : Hid (Below z1.heap.size z1 z3) := below_on2 B_z1.out hb
      have B_z2 : Hid (Below z2.heap.size z2 z3) := hb
      clear hb
      have kR : Hid (Row z3 (w.heap.size + 1) 28 [.int .i64 p.w, .int .i64 p.h, .int .i64 p.edge, .slice B k d]) := (rowCells RP.out B_wa.out)
      have k0 := kR.out.cell 0
      have k1 := kR.out.cell 1
      have k2 := kR.out.cell 2
      have k3 := kR.out.cell 3
      have kl := kR.out.lt
      simp only [List.getElem?_cons_zero, List.getElem?_cons_succ] at k0 k1 k2 k3
      clear kR
      go_wp2_with fail
      have RD : Hid (Row (World.alloc z3 (.cells #[.int .i64 p.w, .int .i64 p.h, .int .i64 p.edge, .slice DA dn dc] 28)) (z3.heap.size) 28 [.int .i64 p.w, .int .i64 p.h, .int .i64 p.edge, .slice DA dn dc]) := by
        have h0 := Row.new z3 28 [.int .i64 p.w, .int .i64 p.h, .int .i64 p.edge, .slice DA dn dc]
        try simp only [World.size_alloc] at h0
        exact h0
      have hgr9 : Below z3.heap.size z3 (World.alloc z3 (.cells #[.int .i64 p.w, .int .i64 p.h, .int .i64 p.edge, .slice DA dn dc] 28)) := by go_grown
      have B_w : Hid (Below w.heap.size w (World.alloc z3 (.cells #[.int .i64 p.w, .int .i64 p.h, .int .i64 p.edge, .slice DA dn dc] 28))) := below_on2 B_w.out hgr9
      have B_wa : Hid (Below wa.heap.size wa (World.alloc z3 (.cells #[.int .i64 p.w, .int .i64 p.h, .int .i64 p.edge, .slice DA dn dc] 28))) := below_on2 B_wa.out hgr9
      have B_w0 : Hid (Below w0.heap.size w0 (World.alloc z3 (.cells #[.int .i64 p.w, .int .i64 p.h, .int .i64 p.edge, .slice DA dn dc] 28))) := below_on2 B_w0.out hgr9
      have B_w1 : Hid (Below w1.heap.size w1 (World.alloc z3 (.cells #[.int .i64 p.w, .int .i64 p.h, .int .i64 p.edge, .slice DA dn dc] 28))) := below_on2 B_w1.out hgr9
      have B_wb : Hid (Below wb.heap.size wb (World.alloc z3 (.cells #[.int .i64 p.w, .int .i64 p.h, .int .i64 p.edge, .slice DA dn dc] 28))) := below_on2 B_wb.out hgr9
      have B_w2 : Hid (Below w2.heap.size w2 (World.alloc z3 (.cells #[.int .i64 p.w, .int .i64 p.h, .int .i64 p.edge, .slice DA dn dc] 28))) := below_on2 B_w2.out hgr9
      have B_wc : Hid (Below wc.heap.size wc (World.alloc z3 (.cells #[.int .i64 p.w, .int .i64 p.h, .int .i64 p.edge, .slice DA dn dc] 28))) := below_on2 B_wc.out hgr9
      have B_w3 : Hid (Below w3.heap.size w3 (World.alloc z3 (.cells #[.int .i64 p.w, .int .i64 p.h, .int .i64 p.edge, .slice DA dn dc] 28))) := below_on2 B_w3.out hgr9
      have B_w4 : Hid (Below w4.heap.size w4 (World.alloc z3 (.cells #[.int .i64 p.w, .int .i64 p.h, .int .i64 p.edge, .slice DA dn dc] 28))) := below_on2 B_w4.out hgr9
      have B_z1 : Hid (Below z1.heap.size z1 (World.alloc z3 (.cells #[.int .i64 p.w, .int .i64 p.h, .int .i64 p.edge, .slice DA dn dc] 28))) := below_on2 B_z1.out hgr9
      have B_z2 : Hid (Below z2.heap.size z2 (World.alloc z3 (.cells #[.int .i64 p.w, .int .i64 p.h, .int .i64 p.edge, .slice DA dn dc] 28))) := below_on2 B_z2.out hgr9
      have B_z3 : Hid (Below z3.heap.size z3 (World.alloc z3 (.cells #[.int .i64 p.w, .int .i64 p.h, .int .i64 p.edge, .slice DA dn dc] 28))) := hgr9
      clear hgr9
      clear k0 k1 k2 k3 kl
      revert RD B_w B_wa B_w0 B_w1 B_wb B_w2 B_wc B_w3 B_w4 B_z1 B_z2 B_z3
      generalize (World.alloc z3 (.cells #[.int .i64 p.w, .int .i64 p.h, .int .i64 p.edge, .slice DA dn dc] 28)) = z4
      intro RD B_w B_wa B_w0 B_w1 B_wb B_w2 B_wc B_w3 B_w4 B_z1 B_z2 B_z3
      refine (plCount_any p B k d sm z4 (H2.out.up B_w.out)).mono ?_
      rintro e z5 ⟨CA, cn, cc, rfl, hcr, hcn, hb⟩
      have HCR : Hid (Rd z5 z5.heap.size 1 CA cn (ints (countF p))) := hcr
      have HCL : Hid ((countF p).length = cn) := by have := hcr.1; rw [ints_length, Nat.mul_one] at this; exact this
      have hc8 : cn ≤ 8 := by rw [← HCL.out]; exact hsl
      clear hcr hcn
      have B_w : Hid (Below w.heap.size w z5) := below_on2 B_w.out hb
      have B_wa : Hid (Below wa.heap.size wa z5) := below_on2 B_wa.out hb
      have B_w0 : Hid (Below w0.heap.size w0 z5) := below_on2 B_w0.out hb
      have B_w1 : Hid (Below w1.heap.size w1 z5) := below_on2 B_w1.out hb
      have B_wb : Hid (Below wb.heap.size wb z5) := below_on2 B_wb.out hb
      have B_w2 : Hid (Below w2.heap.size w2 z5) := below_on2 B_w2.out hb
      have B_wc : Hid (Below wc.heap.size wc z5) := below_on2 B_wc.out hb
      have B_w3 : Hid (Below w3.heap.size w3 z5) := below_on2 B_w3.out hb
      have B_w4 : Hid (Below w4.heap.size w4 z5) := below_on2 B_w4.out hb
      have B_z1 : Hid (Below z1.heap.size z1 z5) := below_on2 B_z1.out hb
      have B_z2 : Hid (Below z2.heap.size z2 z5) := below_on2 B_z2.out hb
      have B_z3 : Hid (Below z3.heap.size z3 z5) := below_on2 B_z3.out hb
      have B_z4 : Hid (Below z4.heap.size z4 z5) := hb
      clear hb
      clear hsl
      go_wp2
      go_loopg [15, 17, 79] cn (fun gg s15 _ s79 wr => ∃ j : Nat, j ≤ cn ∧ cn - j ≤ gg ∧ s79 = .int .i64 j ∧ s15 = .int .i64 ((countF p).take j).sum ∧ Aside (Below z5.heap.size z5 wr))
      case atStart => exact ⟨0, Nat.zero_le _, by omega, rfl, rfl, Below.refl _ _⟩
      case round =>
        obtain ⟨j, hj, hgg, rfl, rfl, BW⟩ := hrel
        have hsb := take_sum_bd (countF p) (countF_get p) j
        have hcg := countF_get p j
        rw [HSU.out, HCT.out] at hsb
        by_cases hlt : j < cn
        · have hltz : (j : Int) < (cn : Int) := by omega
          obtain ⟨ad, rfl, _, hc⟩ := (HCR.out.up BW.out).int hlt
          have hts := take_sum_succ (countF p) j (by rw [HCL.out]; exact hlt)
          have hsb2 := take_sum_bd (countF p) (countF_get p) (j + 1)
          rw [HSU.out, HCT.out] at hsb2
          generalize (countF p).getD j 0 = x at hc hts hcg
          generalize hs1 : ((countF p).take j).sum = s1 at hsb hts ⊢
          generalize hs2 : ((countF p).take (j + 1)).sum = s2 at hts hsb2
          have HS2 : Hid (((countF p).take (j + 1)).sum = s1 + x) := by rw [hs2]; exact hts
          clear hs1 hs2
          obtain ⟨t1, t2⟩ := hsb
          obtain ⟨t3, t4⟩ := hsb2
          rw [hts] at t3 t4
          clear hts
          go_wp2
          go_roundg (cn - (j + 1))
          case measure => omega
          case rel => exact ⟨j + 1, by omega, by omega, by go_num, by rw [HS2.out], BW⟩
        · have hltz : ¬ (j : Int) < (cn : Int) := by omega
          obtain rfl : cn = j := by omega
          have HTS : Hid (((countF p).take cn).sum = cnt) := by
            show _ = _
            rw [List.take_of_length_le (by rw [HCL.out]; exact Nat.le_refl _), HSU.out, HCT.out]
          rw [HTS.out]
          clear hsb hcg
          have BWx : Below z5.heap.size z5 wr := BW.out
          have B_w : Hid (Below w.heap.size w wr) := below_on2 B_w.out BWx
          have B_wa : Hid (Below wa.heap.size wa wr) := below_on2 B_wa.out BWx
          have B_w0 : Hid (Below w0.heap.size w0 wr) := below_on2 B_w0.out BWx
          have B_w1 : Hid (Below w1.heap.size w1 wr) := below_on2 B_w1.out BWx
          have B_wb : Hid (Below wb.heap.size wb wr) := below_on2 B_wb.out BWx
          have B_w2 : Hid (Below w2.heap.size w2 wr) := below_on2 B_w2.out BWx
          have B_wc : Hid (Below wc.heap.size wc wr) := below_on2 B_wc.out BWx
          have B_w3 : Hid (Below w3.heap.size w3 wr) := below_on2 B_w3.out BWx
          have B_w4 : Hid (Below w4.heap.size w4 wr) := below_on2 B_w4.out BWx
          have B_z1 : Hid (Below z1.heap.size z1 wr) := below_on2 B_z1.out BWx
          have B_z2 : Hid (Below z2.heap.size z2 wr) := below_on2 B_z2.out BWx
          have B_z3 : Hid (Below z3.heap.size z3 wr) := below_on2 B_z3.out BWx
          have B_z4 : Hid (Below z4.heap.size z4 wr) := below_on2 B_z4.out BWx
          have B_z5 : Hid (Below z5.heap.size z5 wr) := BWx
          clear BWx
          have kR : Hid (Row wr (z3.heap.size) 28 [.int .i64 p.w, .int .i64 p.h, .int .i64 p.edge, .slice DA dn dc]) := (rowCells RD.out B_z4.out)
          have k0 := kR.out.cell 0
          have k1 := kR.out.cell 1
          have k2 := kR.out.cell 2
          have k3 := kR.out.cell 3
          have kl := kR.out.lt
          simp only [List.getElem?_cons_zero, List.getElem?_cons_succ] at k0 k1 k2 k3
          clear kR
          have rR : Hid (Row wr (w.heap.size + 1) 28 [.int .i64 p.w, .int .i64 p.h, .int .i64 p.edge, .slice B k d]) := (rowCells RP.out B_wa.out)
          have r0 := rR.out.cell 0
          have r1 := rR.out.cell 1
          have r2 := rR.out.cell 2
          have r3 := rR.out.cell 3
          have rl := rR.out.lt
          simp only [List.getElem?_cons_zero, List.getElem?_cons_succ] at r0 r1 r2 r3
          clear rR
          go_wp2_with fail
          have HC := rPlSame_any p p DA B dn dc k d sd sm wr (HD.out.up B_z3.out) (H2.out.up B_w.out)
          rw [samePl_self] at HC
          refine HC.mono ?_
          clear HC
          rintro e z7 ⟨rfl, hb⟩
          have B_w : Hid (Below w.heap.size w z7) := below_on2 B_w.out hb
          have B_wa : Hid (Below wa.heap.size wa z7) := below_on2 B_wa.out hb
          have B_w0 : Hid (Below w0.heap.size w0 z7) := below_on2 B_w0.out hb
          have B_w1 : Hid (Below w1.heap.size w1 z7) := below_on2 B_w1.out hb
          have B_wb : Hid (Below wb.heap.size wb z7) := below_on2 B_wb.out hb
          have B_w2 : Hid (Below w2.heap.size w2 z7) := below_on2 B_w2.out hb
          have B_wc : Hid (Below wc.heap.size wc z7) := below_on2 B_wc.out hb
          have B_w3 : Hid (Below w3.heap.size w3 z7) := below_on2 B_w3.out hb
          have B_w4 : Hid (Below w4.heap.size w4 z7) := below_on2 B_w4.out hb
          have B_z1 : Hid (Below z1.heap.size z1 z7) := below_on2 B_z1.out hb
          have B_z2 : Hid (Below z2.heap.size z2 z7) := below_on2 B_z2.out hb
          have B_z3 : Hid (Below z3.heap.size z3 z7) := below_on2 B_z3.out hb
          have B_z4 : Hid (Below z4.heap.size z4 z7) := below_on2 B_z4.out hb
          have B_z5 : Hid (Below z5.heap.size z5 z7) := below_on2 B_z5.out hb
          have B_wr : Hid (Below wr.heap.size wr z7) := hb
          clear k0 k1 k2 k3 kl r0 r1 r2 r3 rl
          clear hb
          have kR : Hid (Row z7 (w.heap.size + 1) 28 [.int .i64 p.w, .int .i64 p.h, .int .i64 p.edge, .slice B k d]) := (rowCells RP.out B_wa.out)
          have k0 := kR.out.cell 0
          have k1 := kR.out.cell 1
          have k2 := kR.out.cell 2
          have k3 := kR.out.cell 3
          have kl := kR.out.lt
          simp only [List.getElem?_cons_zero, List.getElem?_cons_succ] at k0 k1 k2 k3
          clear kR
          have hwc : IntKind.i64.wrap cnt = cnt := IntWalk.i64_in _ (by omega)
          have hpw : p.w * p.h = cnt := HCT.out
          have hcc : (cnt == cnt) = true := by simp
          go_wp2_with fail
          refine (awake_any _).mono ?_
          rintro e w9 ⟨rfl, hb⟩
          have HBE : Hid (Below w.heap.size w w9) := below_on2 B_w.out hb
          clear hb
          go_wp2
          go_ret
          exact ⟨rfl, HBE.out⟩
  · obtain ⟨ev, hev⟩ : ∃ ev, packErr g b = ev := ⟨_, rfl⟩
    rw [hev] at he ⊢
    have hne : (ev == 0) = false := by simpa using he
    clear hev he
    rintro e w1 h1
    obtain ⟨PA, pn, pc, sl, rfl, hpa, hb⟩ := ppost_at h1
    clear hpa h1
    have B_w : Hid (Below w.heap.size w w1) := below_on2 B_w.out hb
    have B_wa : Hid (Below wa.heap.size wa w1) := below_on2 B_wa.out hb
    have B_w0 : Hid (Below w0.heap.size w0 w1) := hb
    clear k0 k1 k2 k3 kl
    clear hb
    have kR : Hid (Row w1 (w.heap.size + 1) 28 [.int .i64 p.w, .int .i64 p.h, .int .i64 p.edge, .slice B k d]) := (rowCells RP.out B_wa.out)
    have k0 := kR.out.cell 0
    have k1 := kR.out.cell 1
    have k2 := kR.out.cell 2
    have k3 := kR.out.cell 3
    have kl := kR.out.lt
    simp only [List.getElem?_cons_zero, List.getElem?_cons_succ] at k0 k1 k2 k3
    clear kR
    go_wp2_with fail
    have RQ : Hid (Row (World.alloc w1 (.cells #[.int .i64 (packR g b).w, .int .i64 (packR g b).h, .int .i64 (packR g b).edge, .slice PA pn pc] 28)) (w1.heap.size) 28 [.int .i64 (packR g b).w, .int .i64 (packR g b).h, .int .i64 (packR g b).edge, .slice PA pn pc]) := by
      have h0 := Row.new w1 28 [.int .i64 (packR g b).w, .int .i64 (packR g b).h, .int .i64 (packR g b).edge, .slice PA pn pc]
      try simp only [World.size_alloc] at h0
      exact h0
    have hgr9 : Below w1.heap.size w1 (World.alloc w1 (.cells #[.int .i64 (packR g b).w, .int .i64 (packR g b).h, .int .i64 (packR g b).edge, .slice PA pn pc] 28)) := by go_grown
    have B_w : Hid (Below w.heap.size w (World.alloc w1 (.cells #[.int .i64 (packR g b).w, .int .i64 (packR g b).h, .int .i64 (packR g b).edge, .slice PA pn pc] 28))) := below_on2 B_w.out hgr9
    have B_wa : Hid (Below wa.heap.size wa (World.alloc w1 (.cells #[.int .i64 (packR g b).w, .int .i64 (packR g b).h, .int .i64 (packR g b).edge, .slice PA pn pc] 28))) := below_on2 B_wa.out hgr9
    have B_w0 : Hid (Below w0.heap.size w0 (World.alloc w1 (.cells #[.int .i64 (packR g b).w, .int .i64 (packR g b).h, .int .i64 (packR g b).edge, .slice PA pn pc] 28))) := below_on2 B_w0.out hgr9
    have B_w1 : Hid (Below w1.heap.size w1 (World.alloc w1 (.cells #[.int .i64 (packR g b).w, .int .i64 (packR g b).h, .int .i64 (packR g b).edge, .slice PA pn pc] 28))) := hgr9
    clear hgr9
    clear k0 k1 k2 k3 kl
    revert RQ B_w B_wa B_w0 B_w1
    generalize (World.alloc w1 (.cells #[.int .i64 (packR g b).w, .int .i64 (packR g b).h, .int .i64 (packR g b).edge, .slice PA pn pc] 28)) = z0
    intro RQ B_w B_wa B_w0 B_w1
    refine (plUnpack_any p B k d sm z0 (H2.out.up B_w.out)).mono ?_
    rintro e z1 ⟨UA, un, uc, rfl, hga, hb⟩
    have HU : Hid (GAt z1 (unpackR p) UA un) := hga
    clear hga
    have B_w : Hid (Below w.heap.size w z1) := below_on2 B_w.out hb
    have B_wa : Hid (Below wa.heap.size wa z1) := below_on2 B_wa.out hb
    have B_w0 : Hid (Below w0.heap.size w0 z1) := below_on2 B_w0.out hb
    have B_w1 : Hid (Below w1.heap.size w1 z1) := below_on2 B_w1.out hb
    have B_z0 : Hid (Below z0.heap.size z0 z1) := hb
    clear hb
    cases hr : rightPl p
    · have HCN : Hid (countF p = []) := countF_nil hr
      have HUE : Hid (unpackErr p = 2) := by show _ = _; unfold unpackErr; rw [hr]; rfl
      rw [HUE.out]
      clear hr
      have kR : Hid (Row z1 (w.heap.size + 1) 28 [.int .i64 p.w, .int .i64 p.h, .int .i64 p.edge, .slice B k d]) := (rowCells RP.out B_wa.out)
      have k0 := kR.out.cell 0
      have k1 := kR.out.cell 1
      have k2 := kR.out.cell 2
      have k3 := kR.out.cell 3
      have kl := kR.out.lt
      simp only [List.getElem?_cons_zero, List.getElem?_cons_succ] at k0 k1 k2 k3
      clear kR
      go_wp2_with fail
      have RU : Hid (Row (World.alloc z1 (.cells #[.int .i64 (unpackR p).w, .int .i64 (unpackR p).h, .int .i64 (unpackR p).edge, .slice UA un uc] 24)) (z1.heap.size) 24 [.int .i64 (unpackR p).w, .int .i64 (unpackR p).h, .int .i64 (unpackR p).edge, .slice UA un uc]) := by
        have h0 := Row.new z1 24 [.int .i64 (unpackR p).w, .int .i64 (unpackR p).h, .int .i64 (unpackR p).edge, .slice UA un uc]
        try simp only [World.size_alloc] at h0
        exact h0
      have hgr9 : Below z1.heap.size z1 (World.alloc z1 (.cells #[.int .i64 (unpackR p).w, .int .i64 (unpackR p).h, .int .i64 (unpackR p).edge, .slice UA un uc] 24)) := by go_grown
      have B_w : Hid (Below w.heap.size w (World.alloc z1 (.cells #[.int .i64 (unpackR p).w, .int .i64 (unpackR p).h, .int .i64 (unpackR p).edge, .slice UA un uc] 24))) := below_on2 B_w.out hgr9
      have B_wa : Hid (Below wa.heap.size wa (World.alloc z1 (.cells #[.int .i64 (unpackR p).w, .int .i64 (unpackR p).h, .int .i64 (unpackR p).edge, .slice UA un uc] 24))) := below_on2 B_wa.out hgr9
      have B_w0 : Hid (Below w0.heap.size w0 (World.alloc z1 (.cells #[.int .i64 (unpackR p).w, .int .i64 (unpackR p).h, .int .i64 (unpackR p).edge, .slice UA un uc] 24))) := below_on2 B_w0.out hgr9
      have B_w1 : Hid (Below w1.heap.size w1 (World.alloc z1 (.cells #[.int .i64 (unpackR p).w, .int .i64 (unpackR p).h, .int .i64 (unpackR p).edge, .slice UA un uc] 24))) := below_on2 B_w1.out hgr9
      have B_z0 : Hid (Below z0.heap.size z0 (World.alloc z1 (.cells #[.int .i64 (unpackR p).w, .int .i64 (unpackR p).h, .int .i64 (unpackR p).edge, .slice UA un uc] 24))) := below_on2 B_z0.out hgr9
      have B_z1 : Hid (Below z1.heap.size z1 (World.alloc z1 (.cells #[.int .i64 (unpackR p).w, .int .i64 (unpackR p).h, .int .i64 (unpackR p).edge, .slice UA un uc] 24))) := hgr9
      clear hgr9
      clear k0 k1 k2 k3 kl
      revert RU B_w B_wa B_w0 B_w1 B_z0 B_z1
      generalize (World.alloc z1 (.cells #[.int .i64 (unpackR p).w, .int .i64 (unpackR p).h, .int .i64 (unpackR p).edge, .slice UA un uc] 24)) = z2
      intro RU B_w B_wa B_w0 B_w1 B_z0 B_z1
      have HC := plCount_any p B k d sm z2 (H2.out.up B_w.out)
      rw [HCN.out] at HC
      refine HC.mono ?_
      clear HC
      rintro e z3 ⟨CA, cn, cc, rfl, hcr, hcn, hb⟩
      obtain rfl : 0 = cn := by have := hcr.1; simp at this; omega
      clear hcr
      have B_w : Hid (Below w.heap.size w z3) := below_on2 B_w.out hb
      have B_wa : Hid (Below wa.heap.size wa z3) := below_on2 B_wa.out hb
      have B_w0 : Hid (Below w0.heap.size w0 z3) := below_on2 B_w0.out hb
      have B_w1 : Hid (Below w1.heap.size w1 z3) := below_on2 B_w1.out hb
      have B_z0 : Hid (Below z0.heap.size z0 z3) := below_on2 B_z0.out hb
      have B_z1 : Hid (Below z1.heap.size z1 z3) := below_on2 B_z1.out hb
      have B_z2 : Hid (Below z2.heap.size z2 z3) := hb
      clear hb
      go_wp2_with fail
      refine (awake_any _).mono ?_
      rintro e w9 ⟨rfl, hb⟩
      have HBE : Hid (Below w.heap.size w w9) := below_on2 B_w.out hb
      clear hb
      go_wp2
      go_ret
      exact ⟨rfl, HBE.out⟩
    · have HUE : Hid (unpackErr p = 0) := by show _ = _; unfold unpackErr; rw [hr]; rfl
      have HUR : Hid (unpackR p = unpackG p) := by show _ = _; unfold unpackR; rw [hr]; rfl
      rw [HUR.out] at HU ⊢
      rw [HUE.out]
      obtain ⟨pu1, pu2⟩ := pack_unpack hr
      rw [HKL.out] at pu1 pu2
      have HPE : Hid (packErr (unpackG p) k = 0) := pu1
      have HPR : Hid (packR (unpackG p) k = p) := by show _ = _; unfold packR; rw [if_pos pu1, Int.toNat_natCast]; exact pu2
      have HSU : Hid ((countF p).sum = p.w * p.h) := countF_sum hr
      obtain ⟨hsz, _, _⟩ := rightPl_parts hr
      obtain ⟨q1, q2, q3, _⟩ := sizedF_parts hsz
      have hsl := countF_len hr
      have hpb := prod_bd q1 q2
      obtain ⟨cnt, hcnt⟩ : ∃ cnt : Int, cnt = p.w * p.h := ⟨_, rfl⟩
      have HCT : Hid (p.w * p.h = cnt) := hcnt.symm
      rw [← hcnt] at hpb
      clear hr pu1 pu2 hsz q1 q2 q3 hcnt
      have kR : Hid (Row z1 (w.heap.size + 1) 28 [.int .i64 p.w, .int .i64 p.h, .int .i64 p.edge, .slice B k d]) := (rowCells RP.out B_wa.out)
      have k0 := kR.out.cell 0
      have k1 := kR.out.cell 1
      have k2 := kR.out.cell 2
      have k3 := kR.out.cell 3
      have kl := kR.out.lt
      simp only [List.getElem?_cons_zero, List.getElem?_cons_succ] at k0 k1 k2 k3
      clear kR
      go_wp2_with fail
      have RU : Hid (Row (World.alloc z1 (.cells #[.int .i64 (unpackG p).w, .int .i64 (unpackG p).h, .int .i64 (unpackG p).edge, .slice UA un uc] 24)) (z1.heap.size) 24 [.int .i64 (unpackG p).w, .int .i64 (unpackG p).h, .int .i64 (unpackG p).edge, .slice UA un uc]) := by
        have h0 := Row.new z1 24 [.int .i64 (unpackG p).w, .int .i64 (unpackG p).h, .int .i64 (unpackG p).edge, .slice UA un uc]
        try simp only [World.size_alloc] at h0
        exact h0
      have hgr9 : Below z1.heap.size z1 (World.alloc z1 (.cells #[.int .i64 (unpackG p).w, .int .i64 (unpackG p).h, .int .i64 (unpackG p).edge, .slice UA un uc] 24)) := by go_grown
      have B_w : Hid (Below w.heap.size w (World.alloc z1 (.cells #[.int .i64 (unpackG p).w, .int .i64 (unpackG p).h, .int .i64 (unpackG p).edge, .slice UA un uc] 24))) := below_on2 B_w.out hgr9
      have B_wa : Hid (Below wa.heap.size wa (World.alloc z1 (.cells #[.int .i64 (unpackG p).w, .int .i64 (unpackG p).h, .int .i64 (unpackG p).edge, .slice UA un uc] 24))) := below_on2 B_wa.out hgr9
      have B_w0 : Hid (Below w0.heap.size w0 (World.alloc z1 (.cells #[.int .i64 (unpackG p).w, .int .i64 (unpackG p).h, .int .i64 (unpackG p).edge, .slice UA un uc] 24))) := below_on2 B_w0.out hgr9
      have B_w1 : Hid (Below w1.heap.size w1 (World.alloc z1 (.cells #[.int .i64 (unpackG p).w, .int .i64 (unpackG p).h, .int .i64 (unpackG p).edge, .slice UA un uc] 24))) := below_on2 B_w1.out hgr9
      have B_z0 : Hid (Below z0.heap.size z0 (World.alloc z1 (.cells #[.int .i64 (unpackG p).w, .int .i64 (unpackG p).h, .int .i64 (unpackG p).edge, .slice UA un uc] 24))) := below_on2 B_z0.out hgr9
      have B_z1 : Hid (Below z1.heap.size z1 (World.alloc z1 (.cells #[.int .i64 (unpackG p).w, .int .i64 (unpackG p).h, .int .i64 (unpackG p).edge, .slice UA un uc] 24))) := hgr9
      clear hgr9
      clear k0 k1 k2 k3 kl
      revert RU B_w B_wa B_w0 B_w1 B_z0 B_z1
      generalize (World.alloc z1 (.cells #[.int .i64 (unpackG p).w, .int .i64 (unpackG p).h, .int .i64 (unpackG p).edge, .slice UA un uc] 24)) = z2
      intro RU B_w B_wa B_w0 B_w1 B_z0 B_z1
      have HC := plPack_any (unpackG p) UA un uc k z2 (HU.out.up B_z1.out)
      rw [HPE.out, HPR.out] at HC
      refine HC.mono ?_
      clear HC
      rintro e z3 h1
      obtain ⟨DA, dn, dc, sd, rfl, hpa, hb⟩ := ppost_at h1
      have HD : Hid (PAt z3 p DA dn sd) := hpa
      clear hpa h1
      have B_w : Hid (Below w.heap.size w z3) := below_on2 B_w.out hb
      have B_wa : Hid (Below wa.heap.size wa z3) := below_on2 B_wa.out hb
      have B_w0 : Hid (Below w0.heap.size w0 z3) := below_on2 B_w0.out hb
      have B_w1 : Hid (Below w1.heap.size w1 z3) := below_on2 B_w1.out hb
      have B_z0 : Hid (Below z0.heap.size z0 z3) := below_on2 B_z0.out hb
      have B_z1 : Hid (Below z1.heap.size z1 z3) := below_on2 B_z1.out hb
      have B_z2 : Hid (Below z2.heap.size z2 z3) := hb
      clear hb
      have kR : Hid (Row z3 (w.heap.size + 1) 28 [.int .i64 p.w, .int .i64 p.h, .int .i64 p.edge, .slice B k d]) := (rowCells RP.out B_wa.out)
      have k0 := kR.out.cell 0
      have k1 := kR.out.cell 1
      have k2 := kR.out.cell 2
      have k3 := kR.out.cell 3
      have kl := kR.out.lt
      simp only [List.getElem?_cons_zero, List.getElem?_cons_succ] at k0 k1 k2 k3
      clear kR
      go_wp2_with fail
      have RD : Hid (Row (World.alloc z3 (.cells #[.int .i64 p.w, .int .i64 p.h, .int .i64 p.edge, .slice DA dn dc] 28)) (z3.heap.size) 28 [.int .i64 p.w, .int .i64 p.h, .int .i64 p.edge, .slice DA dn dc]) := by
        have h0 := Row.new z3 28 [.int .i64 p.w, .int .i64 p.h, .int .i64 p.edge, .slice DA dn dc]
        try simp only [World.size_alloc] at h0
        exact h0
      have hgr9 : Below z3.heap.size z3 (World.alloc z3 (.cells #[.int .i64 p.w, .int .i64 p.h, .int .i64 p.edge, .slice DA dn dc] 28)) := by go_grown
      have B_w : Hid (Below w.heap.size w (World.alloc z3 (.cells #[.int .i64 p.w, .int .i64 p.h, .int .i64 p.edge, .slice DA dn dc] 28))) := below_on2 B_w.out hgr9
      have B_wa : Hid (Below wa.heap.size wa (World.alloc z3 (.cells #[.int .i64 p.w, .int .i64 p.h, .int .i64 p.edge, .slice DA dn dc] 28))) := below_on2 B_wa.out hgr9
      have B_w0 : Hid (Below w0.heap.size w0 (World.alloc z3 (.cells #[.int .i64 p.w, .int .i64 p.h, .int .i64 p.edge, .slice DA dn dc] 28))) := below_on2 B_w0.out hgr9
      have B_w1 : Hid (Below w1.heap.size w1 (World.alloc z3 (.cells #[.int .i64 p.w, .int .i64 p.h, .int .i64 p.edge, .slice DA dn dc] 28))) := below_on2 B_w1.out hgr9
      have B_z0 : Hid (Below z0.heap.size z0 (World.alloc z3 (.cells #[.int .i64 p.w, .int .i64 p.h, .int .i64 p.edge, .slice DA dn dc] 28))) := below_on2 B_z0.out hgr9
      have B_z1 : Hid (Below z1.heap.size z1 (World.alloc z3 (.cells #[.int .i64 p.w, .int .i64 p.h, .int .i64 p.edge, .slice DA dn dc] 28))) := below_on2 B_z1.out hgr9
      have B_z2 : Hid (Below z2.heap.size z2 (World.alloc z3 (.cells #[.int .i64 p.w, .int .i64 p.h, .int .i64 p.edge, .slice DA dn dc] 28))) := below_on2 B_z2.out hgr9
      have B_z3 : Hid (Below z3.heap.size z3 (World.alloc z3 (.cells #[.int .i64 p.w, .int .i64 p.h, .int .i64 p.edge, .slice DA dn dc] 28))) := hgr9
      clear hgr9
      clear k0 k1 k2 k3 kl
      revert RD B_w B_wa B_w0 B_w1 B_z0 B_z1 B_z2 B_z3
      generalize (World.alloc z3 (.cells #[.int .i64 p.w, .int .i64 p.h, .int .i64 p.edge, .slice DA dn dc] 28)) = z4
      intro RD B_w B_wa B_w0 B_w1 B_z0 B_z1 B_z2 B_z3
      refine (plCount_any p B k d sm z4 (H2.out.up B_w.out)).mono ?_
      rintro e z5 ⟨CA, cn, cc, rfl, hcr, hcn, hb⟩
      have HCR : Hid (Rd z5 z5.heap.size 1 CA cn (ints (countF p))) := hcr
      have HCL : Hid ((countF p).length = cn) := by have := hcr.1; rw [ints_length, Nat.mul_one] at this; exact this
      have hc8 : cn ≤ 8 := by rw [← HCL.out]; exact hsl
      clear hcr hcn
      have B_w : Hid (Below w.heap.size w z5) := below_on2 B_w.out hb
      have B_wa : Hid (Below wa.heap.size wa z5) := below_on2 B_wa.out hb
      have B_w0 : Hid (Below w0.heap.size w0 z5) := below_on2 B_w0.out hb
      have B_w1 : Hid (Below w1.heap.size w1 z5) := below_on2 B_w1.out hb
      have B_z0 : Hid (Below z0.heap.size z0 z5) := below_on2 B_z0.out hb
      have B_z1 : Hid (Below z1.heap.size z1 z5) := below_on2 B_z1.out hb
      have B_z2 : Hid (Below z2.heap.size z2 z5) := below_on2 B_z2.out hb
      have B_z3 : Hid (Below z3.heap.size z3 z5) := below_on2 B_z3.out hb
      have B_z4 : Hid (Below z4.heap.size z4 z5) := hb
      clear hb
      clear hsl
      go_wp2
      go_loopg [15, 17, 79] cn (fun gg s15 _ s79 wr => ∃ j : Nat, j ≤ cn ∧ cn - j ≤ gg ∧ s79 = .int .i64 j ∧ s15 = .int .i64 ((countF p).take j).sum ∧ Aside (Below z5.heap.size z5 wr))
      case atStart => exact ⟨0, Nat.zero_le _, by omega, rfl, rfl, Below.refl _ _⟩
      case round =>
        obtain ⟨j, hj, hgg, rfl, rfl, BW⟩ := hrel
        have hsb := take_sum_bd (countF p) (countF_get p) j
        have hcg := countF_get p j
        rw [HSU.out, HCT.out] at hsb
        by_cases hlt : j < cn
        · have hltz : (j : Int) < (cn : Int) := by omega
          obtain ⟨ad, rfl, _, hc⟩ := (HCR.out.up BW.out).int hlt
          have hts := take_sum_succ (countF p) j (by rw [HCL.out]; exact hlt)
          have hsb2 := take_sum_bd (countF p) (countF_get p) (j + 1)
          rw [HSU.out, HCT.out] at hsb2
          generalize (countF p).getD j 0 = x at hc hts hcg
          generalize hs1 : ((countF p).take j).sum = s1 at hsb hts ⊢
          generalize hs2 : ((countF p).take (j + 1)).sum = s2 at hts hsb2
          have HS2 : Hid (((countF p).take (j + 1)).sum = s1 + x) := by rw [hs2]; exact hts
          clear hs1 hs2
          obtain ⟨t1, t2⟩ := hsb
          obtain ⟨t3, t4⟩ := hsb2
          rw [hts] at t3 t4
          clear hts
          go_wp2
          go_roundg (cn - (j + 1))
          case measure => omega
          case rel => exact ⟨j + 1, by omega, by omega, by go_num, by rw [HS2.out], BW⟩
        · have hltz : ¬ (j : Int) < (cn : Int) := by omega
          obtain rfl : cn = j := by omega
          have HTS : Hid (((countF p).take cn).sum = cnt) := by
            show _ = _
            rw [List.take_of_length_le (by rw [HCL.out]; exact Nat.le_refl _), HSU.out, HCT.out]
          rw [HTS.out]
          clear hsb hcg
          have BWx : Below z5.heap.size z5 wr := BW.out
          have B_w : Hid (Below w.heap.size w wr) := below_on2 B_w.out BWx
          have B_wa : Hid (Below wa.heap.size wa wr) := below_on2 B_wa.out BWx
          have B_w0 : Hid (Below w0.heap.size w0 wr) := below_on2 B_w0.out BWx
          have B_w1 : Hid (Below w1.heap.size w1 wr) := below_on2 B_w1.out BWx
          have B_z0 : Hid (Below z0.heap.size z0 wr) := below_on2 B_z0.out BWx
          have B_z1 : Hid (Below z1.heap.size z1 wr) := below_on2 B_z1.out BWx
          have B_z2 : Hid (Below z2.heap.size z2 wr) := below_on2 B_z2.out BWx
          have B_z3 : Hid (Below z3.heap.size z3 wr) := below_on2 B_z3.out BWx
          have B_z4 : Hid (Below z4.heap.size z4 wr) := below_on2 B_z4.out BWx
          have B_z5 : Hid (Below z5.heap.size z5 wr) := BWx
          clear BWx
          have kR : Hid (Row wr (z3.heap.size) 28 [.int .i64 p.w, .int .i64 p.h, .int .i64 p.edge, .slice DA dn dc]) := (rowCells RD.out B_z4.out)
          have k0 := kR.out.cell 0
          have k1 := kR.out.cell 1
          have k2 := kR.out.cell 2
          have k3 := kR.out.cell 3
          have kl := kR.out.lt
          simp only [List.getElem?_cons_zero, List.getElem?_cons_succ] at k0 k1 k2 k3
          clear kR
          have rR : Hid (Row wr (w.heap.size + 1) 28 [.int .i64 p.w, .int .i64 p.h, .int .i64 p.edge, .slice B k d]) := (rowCells RP.out B_wa.out)
          have r0 := rR.out.cell 0
          have r1 := rR.out.cell 1
          have r2 := rR.out.cell 2
          have r3 := rR.out.cell 3
          have rl := rR.out.lt
          simp only [List.getElem?_cons_zero, List.getElem?_cons_succ] at r0 r1 r2 r3
          clear rR
          go_wp2_with fail
          have HC := rPlSame_any p p DA B dn dc k d sd sm wr (HD.out.up B_z3.out) (H2.out.up B_w.out)
          rw [samePl_self] at HC
          refine HC.mono ?_
          clear HC
          rintro e z7 ⟨rfl, hb⟩
          have B_w : Hid (Below w.heap.size w z7) := below_on2 B_w.out hb
          have B_wa : Hid (Below wa.heap.size wa z7) := below_on2 B_wa.out hb
          have B_w0 : Hid (Below w0.heap.size w0 z7) := below_on2 B_w0.out hb
          have B_w1 : Hid (Below w1.heap.size w1 z7) := below_on2 B_w1.out hb
          have B_z0 : Hid (Below z0.heap.size z0 z7) := below_on2 B_z0.out hb
          have B_z1 : Hid (Below z1.heap.size z1 z7) := below_on2 B_z1.out hb
          have B_z2 : Hid (Below z2.heap.size z2 z7) := below_on2 B_z2.out hb
          have B_z3 : Hid (Below z3.heap.size z3 z7) := below_on2 B_z3.out hb
          have B_z4 : Hid (Below z4.heap.size z4 z7) := below_on2 B_z4.out hb
          have B_z5 : Hid (Below z5.heap.size z5 z7) := below_on2 B_z5.out hb
          have B_wr : Hid (Below wr.heap.size wr z7) := hb
          clear k0 k1 k2 k3 kl r0 r1 r2 r3 rl
          clear hb
          have kR : Hid (Row z7 (w.heap.size + 1) 28 [.int .i64 p.w, .int .i64 p.h, .int .i64 p.edge, .slice B k d]) := (rowCells RP.out B_wa.out)
          have k0 := kR.out.cell 0
          have k1 := kR.out.cell 1
          have k2 := kR.out.cell 2
          have k3 := kR.out.cell 3
          have kl := kR.out.lt
          simp only [List.getElem?_cons_zero, List.getElem?_cons_succ] at k0 k1 k2 k3
          clear kR
          have hwc : IntKind.i64.wrap cnt = cnt := IntWalk.i64_in _ (by omega)
          have hpw : p.w * p.h = cnt := HCT.out
          have hcc : (cnt == cnt) = true := by simp
          go_wp2_with fail
          refine (awake_any _).mono ?_
          rintro e w9 ⟨rfl, hb⟩
          have HBE : Hid (Below w.heap.size w w9) := below_on2 B_w.out hb
          clear hb
          go_wp2
          go_ret
          exact ⟨rfl, HBE.out⟩
end Go.Proofs.Ytfknooffjhncgaa
