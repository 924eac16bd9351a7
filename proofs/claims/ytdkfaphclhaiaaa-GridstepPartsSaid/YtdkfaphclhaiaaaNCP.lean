/-
  The law GridstepParts: what it does.
-/
import Derived.Test.YtdkfaphclhaiaaaNAwake
import Derived.Test.YtdkfaphclhaiaaaNOpn
namespace Go.Proofs.Ytdkfaphclhaiaaa
open Go.RowKit
set_option linter.unusedSimpArgs false
set_option linter.unusedVariables false
set_option maxRecDepth 100000 in
set_option maxHeartbeats 4000000 in
theorem lawParts_any (t : Tre) (g : Grd) (v : Nat) (hv : v ≤ 65535) (HA NA A : Option Addr) (hn hc nn nc n ac : Nat) (sl : List Sl) (w : World) (ht : TAt w t HA NA hn nn sl) (hg : GAt w g A n) :
    Calls Try.prog 7 #[.agg #[.int .i64 t.states, .slice HA hn hc, .slice NA nn nc], .agg #[.int .i64 g.w, .int .i64 g.h, .int .i64 g.edge, .slice A n ac], .int .u16 (v : Int)] w fun e w' => e = .returned (.bool true) ∧ Below w.heap.size w w' := by
  have HT : Hid (TAt w t HA NA hn nn sl) := ht
  have HG : Hid (GAt w g A n) := hg
  have HO : Hid (∀ B, NewOr A n w.heap.size B) := fun B => hg.cells.newOr
  clear ht hg
  go_enter Try.func7, Try.ntmps7
  go_wp2_with fail
  have RT : Hid (Row (World.alloc (World.alloc w (.cells #[.int .i64 t.states, .slice HA hn hc, .slice NA nn nc] 25)) (.cells #[.int .i64 g.w, .int .i64 g.h, .int .i64 g.edge, .slice A n ac] 28)) (w.heap.size) 25 [.int .i64 t.states, .slice HA hn hc, .slice NA nn nc]) := by
    have h0 := Row.new w 25 [.int .i64 t.states, .slice HA hn hc, .slice NA nn nc]
    try simp only [World.size_alloc] at h0
    exact (h0.alloc _)
  have RG : Hid (Row (World.alloc (World.alloc w (.cells #[.int .i64 t.states, .slice HA hn hc, .slice NA nn nc] 25)) (.cells #[.int .i64 g.w, .int .i64 g.h, .int .i64 g.edge, .slice A n ac] 28)) (w.heap.size + 1) 28 [.int .i64 g.w, .int .i64 g.h, .int .i64 g.edge, .slice A n ac]) := by
    have h0 := Row.new (World.alloc w (.cells #[.int .i64 t.states, .slice HA hn hc, .slice NA nn nc] 25)) 28 [.int .i64 g.w, .int .i64 g.h, .int .i64 g.edge, .slice A n ac]
    try simp only [World.size_alloc] at h0
    exact h0
  have hgr9 : Below w.heap.size w (World.alloc (World.alloc w (.cells #[.int .i64 t.states, .slice HA hn hc, .slice NA nn nc] 25)) (.cells #[.int .i64 g.w, .int .i64 g.h, .int .i64 g.edge, .slice A n ac] 28)) := by go_grown
  have B_w : Hid (Below w.heap.size w (World.alloc (World.alloc w (.cells #[.int .i64 t.states, .slice HA hn hc, .slice NA nn nc] 25)) (.cells #[.int .i64 g.w, .int .i64 g.h, .int .i64 g.edge, .slice A n ac] 28))) := hgr9
  clear hgr9
  revert RT RG B_w
  generalize (World.alloc (World.alloc w (.cells #[.int .i64 t.states, .slice HA hn hc, .slice NA nn nc] 25)) (.cells #[.int .i64 g.w, .int .i64 g.h, .int .i64 g.edge, .slice A n ac] 28)) = wa
  intro RT RG B_w
  refine (smallN_any t g HA NA A hn hc nn nc n ac sl wa (HT.out.up B_w.out) (HG.out.up B_w.out)).mono ?_
  rintro e w1 ⟨rfl, hb⟩
  have B_w : Hid (Below w.heap.size w w1) := below_on2 B_w.out hb
  have B_wa : Hid (Below wa.heap.size wa w1) := hb
  clear hb
  cases hsm : smallN t g
  · clear hsm
    go_wp2_with fail
    refine (awake_any _).mono ?_
    rintro e w9 ⟨rfl, hb⟩
    have HBE : Hid (Below w.heap.size w w9) := below_on2 B_w.out hb
    clear hb
    go_wp2
    go_ret
    exact ⟨rfl, HBE.out⟩
  clear hsm
  obtain ⟨a, ha⟩ : ∃ a, v % 20 = a := ⟨_, rfl⟩
  obtain ⟨b, hb⟩ : ∃ b, v / 256 % 20 = b := ⟨_, rfl⟩
  have ha1 : Int.tmod (v : Int) 20 = (a : Int) := by rw [Int.tmod_eq_emod_of_nonneg (by omega)]; omega
  have hb1 : Int.tmod (Int.tdiv (v : Int) 256) 20 = (b : Int) := by rw [Int.tdiv_eq_ediv_of_nonneg (by omega), Int.tmod_eq_emod_of_nonneg (by omega)]; omega
  have ha3 : (v : Int) % 20 = (a : Int) := by omega
  have hb3 : (v : Int) / 256 % 20 = (b : Int) := by omega
  have ha2 : a < 20 := by omega
  have hb2 : b < 20 := by omega
  clear ha hb
  obtain ⟨fe, hfe⟩ : ∃ fe, fitsN t g = fe := ⟨_, rfl⟩
  obtain ⟨x, hx⟩ : ∃ x, runR t g ((a : Int) + (b : Int)) = x := ⟨_, rfl⟩
  obtain ⟨y, hy⟩ : ∃ y, runR t g (a : Int) = y := ⟨_, rfl⟩
  have HFE : Hid (∀ _ : Unit, fitsN t g = fe) := fun _ => hfe
  have HR1 : Hid (∀ _ : Unit, runR t g ((a : Int) + (b : Int)) = x ∧ runErr t g ((a : Int) + (b : Int)) = fe) := fun _ => ⟨hx, by have h := runErr_in (t := t) (g := g) (m := a + b) (by omega); rw [Int.natCast_add] at h; rw [h, hfe]⟩
  have HR2 : Hid (∀ _ : Unit, runR t g (a : Int) = y ∧ runErr t g (a : Int) = fe) := fun _ => ⟨hy, by rw [runErr_in (by omega), hfe]⟩
  have HR3 : Hid (fe = 0 → runR t y (b : Int) = x ∧ runErr t y (b : Int) = 0) := fun h0 => by
    obtain ⟨h1, h2⟩ := run_parts (t := t) (g := g) (a := a) (b := b) (hfe.trans h0) (by omega)
    rw [Int.natCast_add, hx, hy] at h2
    rw [hy] at h1
    exact ⟨h2.symm, h1⟩
  clear hfe hx hy
  have kR : Hid (Row w1 (w.heap.size) 25 [.int .i64 t.states, .slice HA hn hc, .slice NA nn nc]) := (rowCells RT.out B_wa.out)
  have k0 := kR.out.cell 0
  have k1 := kR.out.cell 1
  have k2 := kR.out.cell 2
  have kl := kR.out.lt
  simp only [List.getElem?_cons_zero, List.getElem?_cons_succ] at k0 k1 k2
  clear kR
  have qR : Hid (Row w1 (w.heap.size + 1) 28 [.int .i64 g.w, .int .i64 g.h, .int .i64 g.edge, .slice A n ac]) := (rowCells RG.out B_wa.out)
  have q0 := qR.out.cell 0
  have q1 := qR.out.cell 1
  have q2 := qR.out.cell 2
  have q3 := qR.out.cell 3
  have ql := qR.out.lt
  simp only [List.getElem?_cons_zero, List.getElem?_cons_succ] at q0 q1 q2 q3
  clear qR
  go_wp2_with fail
  have HC := (callsIn_wide (n := 3)).1 (gRun_any t g ((a : Int) + (b : Int)) HA NA A hn hc nn nc n ac sl w1 (HT.out.up B_w.out) (HG.out.up B_w.out) w1.heap.size (fun B => ((HG.out.up B_w.out)).cells.newOr) (Nat.le_refl _))
  rw [(HR1.out ()).1, (HR1.out ()).2] at HC
  refine HC.mono ?_
  clear HC
  rintro e w2 ⟨XA, Xn, Xc, rfl, hga, hno, hb⟩
  have HX : Hid (GAt w2 x XA Xn) := hga
  clear hga hno
  have B_w : Hid (Below w.heap.size w w2) := below_on2 B_w.out hb
  have B_wa : Hid (Below wa.heap.size wa w2) := below_on2 B_wa.out hb
  have B_w1 : Hid (Below w1.heap.size w1 w2) := hb
  clear k0 k1 k2 kl q0 q1 q2 q3 ql
  clear hb
  have kR : Hid (Row w2 (w.heap.size) 25 [.int .i64 t.states, .slice HA hn hc, .slice NA nn nc]) := (rowCells RT.out B_wa.out)
  have k0 := kR.out.cell 0
  have k1 := kR.out.cell 1
  have k2 := kR.out.cell 2
  have kl := kR.out.lt
  simp only [List.getElem?_cons_zero, List.getElem?_cons_succ] at k0 k1 k2
  clear kR
  have qR : Hid (Row w2 (w.heap.size + 1) 28 [.int .i64 g.w, .int .i64 g.h, .int .i64 g.edge, .slice A n ac]) := (rowCells RG.out B_wa.out)
  have q0 := qR.out.cell 0
  have q1 := qR.out.cell 1
  have q2 := qR.out.cell 2
  have q3 := qR.out.cell 3
  have ql := qR.out.lt
  simp only [List.getElem?_cons_zero, List.getElem?_cons_succ] at q0 q1 q2 q3
  clear qR
  go_wp2_with fail
  have RX : Hid (Row (World.alloc w2 (.cells #[.int .i64 x.w, .int .i64 x.h, .int .i64 x.edge, .slice XA Xn Xc] 28)) (w2.heap.size) 28 [.int .i64 x.w, .int .i64 x.h, .int .i64 x.edge, .slice XA Xn Xc]) := by
    have h0 := Row.new w2 28 [.int .i64 x.w, .int .i64 x.h, .int .i64 x.edge, .slice XA Xn Xc]
    try simp only [World.size_alloc] at h0
    exact h0
  have hgr9 : Below w2.heap.size w2 (World.alloc w2 (.cells #[.int .i64 x.w, .int .i64 x.h, .int .i64 x.edge, .slice XA Xn Xc] 28)) := by go_grown
  have B_w : Hid (Below w.heap.size w (World.alloc w2 (.cells #[.int .i64 x.w, .int .i64 x.h, .int .i64 x.edge, .slice XA Xn Xc] 28))) := below_on2 B_w.out hgr9
  have B_wa : Hid (Below wa.heap.size wa (World.alloc w2 (.cells #[.int .i64 x.w, .int .i64 x.h, .int .i64 x.edge, .slice XA Xn Xc] 28))) := below_on2 B_wa.out hgr9
  have B_w1 : Hid (Below w1.heap.size w1 (World.alloc w2 (.cells #[.int .i64 x.w, .int .i64 x.h, .int .i64 x.edge, .slice XA Xn Xc] 28))) := below_on2 B_w1.out hgr9
  have B_w2 : Hid (Below w2.heap.size w2 (World.alloc w2 (.cells #[.int .i64 x.w, .int .i64 x.h, .int .i64 x.edge, .slice XA Xn Xc] 28))) := hgr9
  clear hgr9
  clear k0 k1 k2 kl q0 q1 q2 q3 ql
  revert RX B_w B_wa B_w1 B_w2
  generalize (World.alloc w2 (.cells #[.int .i64 x.w, .int .i64 x.h, .int .i64 x.edge, .slice XA Xn Xc] 28)) = wb
  intro RX B_w B_wa B_w1 B_w2
  have HC := (callsIn_wide (n := 3)).1 (gRun_any t g (a : Int) HA NA A hn hc nn nc n ac sl wb (HT.out.up B_w.out) (HG.out.up B_w.out) wb.heap.size (fun B => ((HG.out.up B_w.out)).cells.newOr) (Nat.le_refl _))
  rw [(HR2.out ()).1, (HR2.out ()).2] at HC
  refine HC.mono ?_
  clear HC
  rintro e w3 ⟨YA, Yn, Yc, rfl, hga, hno, hb⟩
  have HY : Hid (GAt w3 y YA Yn) := hga
  clear hga hno
  have B_w : Hid (Below w.heap.size w w3) := below_on2 B_w.out hb
  have B_wa : Hid (Below wa.heap.size wa w3) := below_on2 B_wa.out hb
  have B_w1 : Hid (Below w1.heap.size w1 w3) := below_on2 B_w1.out hb
  have B_w2 : Hid (Below w2.heap.size w2 w3) := below_on2 B_w2.out hb
  have B_wb : Hid (Below wb.heap.size wb w3) := hb
  clear hb
  by_cases hf : fe = 0
  · subst hf
    have HRZ : Hid (∀ _ : Unit, runR t y (b : Int) = x ∧ runErr t y (b : Int) = 0) := fun _ => HR3.out rfl
    clear HR3
    have kR : Hid (Row w3 (w.heap.size) 25 [.int .i64 t.states, .slice HA hn hc, .slice NA nn nc]) := (rowCells RT.out B_wa.out)
    have k0 := kR.out.cell 0
    have k1 := kR.out.cell 1
    have k2 := kR.out.cell 2
    have kl := kR.out.lt
    simp only [List.getElem?_cons_zero, List.getElem?_cons_succ] at k0 k1 k2
    clear kR
    go_wp2_with fail
    have RY : Hid (Row (World.alloc w3 (.cells #[.int .i64 y.w, .int .i64 y.h, .int .i64 y.edge, .slice YA Yn Yc] 28)) (w3.heap.size) 28 [.int .i64 y.w, .int .i64 y.h, .int .i64 y.edge, .slice YA Yn Yc]) := by
      have h0 := Row.new w3 28 [.int .i64 y.w, .int .i64 y.h, .int .i64 y.edge, .slice YA Yn Yc]
      try simp only [World.size_alloc] at h0
      exact h0
    have hgr9 : Below w3.heap.size w3 (World.alloc w3 (.cells #[.int .i64 y.w, .int .i64 y.h, .int .i64 y.edge, .slice YA Yn Yc] 28)) := by go_grown
    have B_w : Hid (Below w.heap.size w (World.alloc w3 (.cells #[.int .i64 y.w, .int .i64 y.h, .int .i64 y.edge, .slice YA Yn Yc] 28))) := below_on2 B_w.out hgr9
    have B_wa : Hid (Below wa.heap.size wa (World.alloc w3 (.cells #[.int .i64 y.w, .int .i64 y.h, .int .i64 y.edge, .slice YA Yn Yc] 28))) := below_on2 B_wa.out hgr9
    have B_w1 : Hid (Below w1.heap.size w1 (World.alloc w3 (.cells #[.int .i64 y.w, .int .i64 y.h, .int .i64 y.edge, .slice YA Yn Yc] 28))) := below_on2 B_w1.out hgr9
    have B_w2 : Hid (Below w2.heap.size w2 (World.alloc w3 (.cells #[.int .i64 y.w, .int .i64 y.h, .int .i64 y.edge, .slice YA Yn Yc] 28))) := below_on2 B_w2.out hgr9
    have B_wb : Hid (Below wb.heap.size wb (World.alloc w3 (.cells #[.int .i64 y.w, .int .i64 y.h, .int .i64 y.edge, .slice YA Yn Yc] 28))) := below_on2 B_wb.out hgr9
    have B_w3 : Hid (Below w3.heap.size w3 (World.alloc w3 (.cells #[.int .i64 y.w, .int .i64 y.h, .int .i64 y.edge, .slice YA Yn Yc] 28))) := hgr9
    clear hgr9
    clear k0 k1 k2 kl
    revert RY B_w B_wa B_w1 B_w2 B_wb B_w3
    generalize (World.alloc w3 (.cells #[.int .i64 y.w, .int .i64 y.h, .int .i64 y.edge, .slice YA Yn Yc] 28)) = wc
    intro RY B_w B_wa B_w1 B_w2 B_wb B_w3
    have HC := (callsIn_wide (n := 3)).1 (gRun_any t y (b : Int) HA NA YA hn hc nn nc Yn Yc sl wc (HT.out.up B_w.out) (HY.out.up B_w3.out) wc.heap.size (fun B => ((HY.out.up B_w3.out)).cells.newOr) (Nat.le_refl _))
    rw [(HRZ.out ()).1, (HRZ.out ()).2] at HC
    refine HC.mono ?_
    clear HC
    rintro e w4 ⟨ZA, Zn, Zc, rfl, hga, hno, hb⟩
    have HZ : Hid (GAt w4 x ZA Zn) := hga
    clear hga hno
    have B_w : Hid (Below w.heap.size w w4) := below_on2 B_w.out hb
    have B_wa : Hid (Below wa.heap.size wa w4) := below_on2 B_wa.out hb
    have B_w1 : Hid (Below w1.heap.size w1 w4) := below_on2 B_w1.out hb
    have B_w2 : Hid (Below w2.heap.size w2 w4) := below_on2 B_w2.out hb
    have B_wb : Hid (Below wb.heap.size wb w4) := below_on2 B_wb.out hb
    have B_w3 : Hid (Below w3.heap.size w3 w4) := below_on2 B_w3.out hb
    have B_wc : Hid (Below wc.heap.size wc w4) := hb
    clear hb
    have kR : Hid (Row w4 (w2.heap.size) 28 [.int .i64 x.w, .int .i64 x.h, .int .i64 x.edge, .slice XA Xn Xc]) := (rowCells RX.out B_wb.out)
    have k0 := kR.out.cell 0
    have k1 := kR.out.cell 1
    have k2 := kR.out.cell 2
    have k3 := kR.out.cell 3
    have kl := kR.out.lt
    simp only [List.getElem?_cons_zero, List.getElem?_cons_succ] at k0 k1 k2 k3
    clear kR
    go_wp2_with fail
    have RZ : Hid (Row (World.alloc w4 (.cells #[.int .i64 x.w, .int .i64 x.h, .int .i64 x.edge, .slice ZA Zn Zc] 28)) (w4.heap.size) 28 [.int .i64 x.w, .int .i64 x.h, .int .i64 x.edge, .slice ZA Zn Zc]) := by
      have h0 := Row.new w4 28 [.int .i64 x.w, .int .i64 x.h, .int .i64 x.edge, .slice ZA Zn Zc]
      try simp only [World.size_alloc] at h0
      exact h0
    have hgr9 : Below w4.heap.size w4 (World.alloc w4 (.cells #[.int .i64 x.w, .int .i64 x.h, .int .i64 x.edge, .slice ZA Zn Zc] 28)) := by go_grown
    have B_w : Hid (Below w.heap.size w (World.alloc w4 (.cells #[.int .i64 x.w, .int .i64 x.h, .int .i64 x.edge, .slice ZA Zn Zc] 28))) := below_on2 B_w.out hgr9
    have B_wa : Hid (Below wa.heap.size wa (World.alloc w4 (.cells #[.int .i64 x.w, .int .i64 x.h, .int .i64 x.edge, .slice ZA Zn Zc] 28))) := below_on2 B_wa.out hgr9
    have B_w1 : Hid (Below w1.heap.size w1 (World.alloc w4 (.cells #[.int .i64 x.w, .int .i64 x.h, .int .i64 x.edge, .slice ZA Zn Zc] 28))) := below_on2 B_w1.out hgr9
    have B_w2 : Hid (Below w2.heap.size w2 (World.alloc w4 (.cells #[.int .i64 x.w, .int .i64 x.h, .int .i64 x.edge, .slice ZA Zn Zc] 28))) := below_on2 B_w2.out hgr9
    have B_wb : Hid (Below wb.heap.size wb (World.alloc w4 (.cells #[.int .i64 x.w, .int .i64 x.h, .int .i64 x.edge, .slice ZA Zn Zc] 28))) := below_on2 B_wb.out hgr9
    have B_w3 : Hid (Below w3.heap.size w3 (World.alloc w4 (.cells #[.int .i64 x.w, .int .i64 x.h, .int .i64 x.edge, .slice ZA Zn Zc] 28))) := below_on2 B_w3.out hgr9
    have B_wc : Hid (Below wc.heap.size wc (World.alloc w4 (.cells #[.int .i64 x.w, .int .i64 x.h, .int .i64 x.edge, .slice ZA Zn Zc] 28))) := below_on2 B_wc.out hgr9
    have B_w4 : Hid (Below w4.heap.size w4 (World.alloc w4 (.cells #[.int .i64 x.w, .int .i64 x.h, .int .i64 x.edge, .slice ZA Zn Zc] 28))) := hgr9
    clear hgr9
    clear k0 k1 k2 k3 kl
    revert RZ B_w B_wa B_w1 B_w2 B_wb B_w3 B_wc B_w4
    generalize (World.alloc w4 (.cells #[.int .i64 x.w, .int .i64 x.h, .int .i64 x.edge, .slice ZA Zn Zc] 28)) = wd
    intro RZ B_w B_wa B_w1 B_w2 B_wb B_w3 B_wc B_w4
    have HC := rGSame_any x x XA ZA Xn Xc Zn Zc wd (HX.out.up B_w2.out) (HZ.out.up B_w4.out)
    rw [(sameG_iff _ _).2 rfl] at HC
    refine HC.mono ?_
    clear HC
    rintro e w5 ⟨rfl, hb⟩
    have B_w : Hid (Below w.heap.size w w5) := below_on2 B_w.out hb
    have B_wa : Hid (Below wa.heap.size wa w5) := below_on2 B_wa.out hb
    have B_w1 : Hid (Below w1.heap.size w1 w5) := below_on2 B_w1.out hb
    have B_w2 : Hid (Below w2.heap.size w2 w5) := below_on2 B_w2.out hb
    have B_wb : Hid (Below wb.heap.size wb w5) := below_on2 B_wb.out hb
    have B_w3 : Hid (Below w3.heap.size w3 w5) := below_on2 B_w3.out hb
    have B_wc : Hid (Below wc.heap.size wc w5) := below_on2 B_wc.out hb
    have B_w4 : Hid (Below w4.heap.size w4 w5) := below_on2 B_w4.out hb
    have B_wd : Hid (Below wd.heap.size wd w5) := hb
    clear hb
    obtain ⟨s, hs⟩ : ∃ s, cycS t g 20 = s := ⟨_, rfl⟩
    obtain ⟨p, hp⟩ : ∃ p, cycP t g 20 = p := ⟨_, rfl⟩
    obtain ⟨kc, hkc⟩ : ∃ kc, cycErr t g 20 = kc := ⟨_, rfl⟩
    have HC5 : Hid (∀ _ : Unit, cycS t g 20 = s ∧ cycP t g 20 = p ∧ cycErr t g 20 = kc) := fun _ => ⟨hs, hp, hkc⟩
    clear hs hp hkc
    have kR : Hid (Row w5 (w.heap.size) 25 [.int .i64 t.states, .slice HA hn hc, .slice NA nn nc]) := (rowCells RT.out B_wa.out)
    have k0 := kR.out.cell 0
    have k1 := kR.out.cell 1
    have k2 := kR.out.cell 2
    have kl := kR.out.lt
    simp only [List.getElem?_cons_zero, List.getElem?_cons_succ] at k0 k1 k2
    clear kR
    have qR : Hid (Row w5 (w.heap.size + 1) 28 [.int .i64 g.w, .int .i64 g.h, .int .i64 g.edge, .slice A n ac]) := (rowCells RG.out B_wa.out)
    have q0 := qR.out.cell 0
    have q1 := qR.out.cell 1
    have q2 := qR.out.cell 2
    have q3 := qR.out.cell 3
    have ql := qR.out.lt
    simp only [List.getElem?_cons_zero, List.getElem?_cons_succ] at q0 q1 q2 q3
    clear qR
    go_wp2_with fail
    have HC := gCyc_any t g 20 HA NA A hn hc nn nc n ac sl w5 (HT.out.up B_w.out) (HG.out.up B_w.out)
    rw [(HC5.out ()).1, (HC5.out ()).2.1, (HC5.out ()).2.2] at HC
    refine HC.mono ?_
    clear HC
    rintro e w6 ⟨rfl, hb⟩
    have B_w : Hid (Below w.heap.size w w6) := below_on2 B_w.out hb
    have B_wa : Hid (Below wa.heap.size wa w6) := below_on2 B_wa.out hb
    have B_w1 : Hid (Below w1.heap.size w1 w6) := below_on2 B_w1.out hb
    have B_w2 : Hid (Below w2.heap.size w2 w6) := below_on2 B_w2.out hb
    have B_wb : Hid (Below wb.heap.size wb w6) := below_on2 B_wb.out hb
    have B_w3 : Hid (Below w3.heap.size w3 w6) := below_on2 B_w3.out hb
    have B_wc : Hid (Below wc.heap.size wc w6) := below_on2 B_wc.out hb
    have B_w4 : Hid (Below w4.heap.size w4 w6) := below_on2 B_w4.out hb
    have B_wd : Hid (Below wd.heap.size wd w6) := below_on2 B_wd.out hb
    have B_w5 : Hid (Below w5.heap.size w5 w6) := hb
    clear k0 k1 k2 kl q0 q1 q2 q3 ql
    clear hb
    by_cases hkz : kc = 0
    · subst hkz
      have HB : ∃ sn pn : Nat, s = (sn : Int) ∧ p = (pn : Int) ∧ 1 ≤ pn ∧ sn + pn ≤ 20 ∧ runErr t g (sn : Int) = 0 ∧ runErr t g ((sn : Int) + (pn : Int)) = 0 ∧ runR t g (sn : Int) = runR t g ((sn : Int) + (pn : Int)) := by
        obtain ⟨sn, pn, h1, h2, h3, h4, _, h5, h6, h7⟩ := cyc_back (t := t) (g := g) (m := 20) (by omega) (HC5.out ()).2.2
        rw [Int.natCast_add] at h6 h7
        exact ⟨sn, pn, (HC5.out ()).1.symm.trans h1, (HC5.out ()).2.1.symm.trans h2, h3, h4, h5, h6, h7⟩
      obtain ⟨sn, pn, rfl, rfl, hp1, hsp, h5, h6, h7⟩ := HB
      obtain ⟨u, hu⟩ : ∃ u, runR t g (sn : Int) = u := ⟨_, rfl⟩
      have HR6 : Hid (∀ _ : Unit, runR t g (sn : Int) = u ∧ runErr t g (sn : Int) = 0) := fun _ => ⟨hu, h5⟩
      have HR7 : Hid (∀ _ : Unit, runR t g ((sn : Int) + (pn : Int)) = u ∧ runErr t g ((sn : Int) + (pn : Int)) = 0) := fun _ => ⟨h7.symm.trans hu, h6⟩
      have hpz : (1 : Int) ≤ (pn : Int) := by omega
      clear h5 h6 h7 hu
      have kR : Hid (Row w6 (w.heap.size) 25 [.int .i64 t.states, .slice HA hn hc, .slice NA nn nc]) := (rowCells RT.out B_wa.out)
      have k0 := kR.out.cell 0
      have k1 := kR.out.cell 1
      have k2 := kR.out.cell 2
      have kl := kR.out.lt
      simp only [List.getElem?_cons_zero, List.getElem?_cons_succ] at k0 k1 k2
      clear kR
      have qR : Hid (Row w6 (w.heap.size + 1) 28 [.int .i64 g.w, .int .i64 g.h, .int .i64 g.edge, .slice A n ac]) := (rowCells RG.out B_wa.out)
      have q0 := qR.out.cell 0
      have q1 := qR.out.cell 1
      have q2 := qR.out.cell 2
      have q3 := qR.out.cell 3
      have ql := qR.out.lt
      simp only [List.getElem?_cons_zero, List.getElem?_cons_succ] at q0 q1 q2 q3
      clear qR
      go_wp2_with fail
      have HC := (callsIn_wide (n := 3)).1 (gRun_any t g (sn : Int) HA NA A hn hc nn nc n ac sl w6 (HT.out.up B_w.out) (HG.out.up B_w.out) w6.heap.size (fun B => ((HG.out.up B_w.out)).cells.newOr) (Nat.le_refl _))
      rw [(HR6.out ()).1, (HR6.out ()).2] at HC
      refine HC.mono ?_
      clear HC
      rintro e w7 ⟨UA, Un, Uc, rfl, hga, hno, hb⟩
      have HU : Hid (GAt w7 u UA Un) := hga
      clear hga hno
      have B_w : Hid (Below w.heap.size w w7) := below_on2 B_w.out hb
      have B_wa : Hid (Below wa.heap.size wa w7) := below_on2 B_wa.out hb
      have B_w1 : Hid (Below w1.heap.size w1 w7) := below_on2 B_w1.out hb
      have B_w2 : Hid (Below w2.heap.size w2 w7) := below_on2 B_w2.out hb
      have B_wb : Hid (Below wb.heap.size wb w7) := below_on2 B_wb.out hb
      have B_w3 : Hid (Below w3.heap.size w3 w7) := below_on2 B_w3.out hb
      have B_wc : Hid (Below wc.heap.size wc w7) := below_on2 B_wc.out hb
      have B_w4 : Hid (Below w4.heap.size w4 w7) := below_on2 B_w4.out hb
      have B_wd : Hid (Below wd.heap.size wd w7) := below_on2 B_wd.out hb
      have B_w5 : Hid (Below w5.heap.size w5 w7) := below_on2 B_w5.out hb
      have B_w6 : Hid (Below w6.heap.size w6 w7) := hb
      clear k0 k1 k2 kl q0 q1 q2 q3 ql
      clear hb
      have kR : Hid (Row w7 (w.heap.size) 25 [.int .i64 t.states, .slice HA hn hc, .slice NA nn nc]) := (rowCells RT.out B_wa.out)
      have k0 := kR.out.cell 0
      have k1 := kR.out.cell 1
      have k2 := kR.out.cell 2
      have kl := kR.out.lt
      simp only [List.getElem?_cons_zero, List.getElem?_cons_succ] at k0 k1 k2
      clear kR
      have qR : Hid (Row w7 (w.heap.size + 1) 28 [.int .i64 g.w, .int .i64 g.h, .int .i64 g.edge, .slice A n ac]) := (rowCells RG.out B_wa.out)
      have q0 := qR.out.cell 0
      have q1 := qR.out.cell 1
      have q2 := qR.out.cell 2
      have q3 := qR.out.cell 3
      have ql := qR.out.lt
      simp only [List.getElem?_cons_zero, List.getElem?_cons_succ] at q0 q1 q2 q3
      clear qR
      go_wp2_with fail
      have RU : Hid (Row (World.alloc w7 (.cells #[.int .i64 u.w, .int .i64 u.h, .int .i64 u.edge, .slice UA Un Uc] 28)) (w7.heap.size) 28 [.int .i64 u.w, .int .i64 u.h, .int .i64 u.edge, .slice UA Un Uc]) := by
        have h0 := Row.new w7 28 [.int .i64 u.w, .int .i64 u.h, .int .i64 u.edge, .slice UA Un Uc]
        try simp only [World.size_alloc] at h0
        exact h0
      have hgr9 : Below w7.heap.size w7 (World.alloc w7 (.cells #[.int .i64 u.w, .int .i64 u.h, .int .i64 u.edge, .slice UA Un Uc] 28)) := by go_grown
      have B_w : Hid (Below w.heap.size w (World.alloc w7 (.cells #[.int .i64 u.w, .int .i64 u.h, .int .i64 u.edge, .slice UA Un Uc] 28))) := below_on2 B_w.out hgr9
      have B_wa : Hid (Below wa.heap.size wa (World.alloc w7 (.cells #[.int .i64 u.w, .int .i64 u.h, .int .i64 u.edge, .slice UA Un Uc] 28))) := below_on2 B_wa.out hgr9
      have B_w1 : Hid (Below w1.heap.size w1 (World.alloc w7 (.cells #[.int .i64 u.w, .int .i64 u.h, .int .i64 u.edge, .slice UA Un Uc] 28))) := below_on2 B_w1.out hgr9
      have B_w2 : Hid (Below w2.heap.size w2 (World.alloc w7 (.cells #[.int .i64 u.w, .int .i64 u.h, .int .i64 u.edge, .slice UA Un Uc] 28))) := below_on2 B_w2.out hgr9
      have B_wb : Hid (Below wb.heap.size wb (World.alloc w7 (.cells #[.int .i64 u.w, .int .i64 u.h, .int .i64 u.edge, .slice UA Un Uc] 28))) := below_on2 B_wb.out hgr9
      have B_w3 : Hid (Below w3.heap.size w3 (World.alloc w7 (.cells #[.int .i64 u.w, .int .i64 u.h, .int .i64 u.edge, .slice UA Un Uc] 28))) := below_on2 B_w3.out hgr9
      have B_wc : Hid (Below wc.heap.size wc (World.alloc w7 (.cells #[.int .i64 u.w, .int .i64 u.h, .int .i64 u.edge, .slice UA Un Uc] 28))) := below_on2 B_wc.out hgr9
      have B_w4 : Hid (Below w4.heap.size w4 (World.alloc w7 (.cells #[.int .i64 u.w, .int .i64 u.h, .int .i64 u.edge, .slice UA Un Uc] 28))) := below_on2 B_w4.out hgr9
      have B_wd : Hid (Below wd.heap.size wd (World.alloc w7 (.cells #[.int .i64 u.w, .int .i64 u.h, .int .i64 u.edge, .slice UA Un Uc] 28))) := below_on2 B_wd.out hgr9
      have B_w5 : Hid (Below w5.heap.size w5 (World.alloc w7 (.cells #[.int .i64 u.w, .int .i64 u.h, .int .i64 u.edge, .slice UA Un Uc] 28))) := below_on2 B_w5.out hgr9
      have B_w6 : Hid (Below w6.heap.size w6 (World.alloc w7 (.cells #[.int .i64 u.w, .int .i64 u.h, .int .i64 u.edge, .slice UA Un Uc] 28))) := below_on2 B_w6.out hgr9
      have B_w7 : Hid (Below w7.heap.size w7 (World.alloc w7 (.cells #[.int .i64 u.w, .int .i64 u.h, .int .i64 u.edge, .slice UA Un Uc] 28))) := hgr9
      clear hgr9
      clear k0 k1 k2 kl q0 q1 q2 q3 ql
      revert RU B_w B_wa B_w1 B_w2 B_wb B_w3 B_wc B_w4 B_wd B_w5 B_w6 B_w7
      generalize (World.alloc w7 (.cells #[.int .i64 u.w, .int .i64 u.h, .int .i64 u.edge, .slice UA Un Uc] 28)) = we
      intro RU B_w B_wa B_w1 B_w2 B_wb B_w3 B_wc B_w4 B_wd B_w5 B_w6 B_w7
      have HC := (callsIn_wide (n := 3)).1 (gRun_any t g ((sn : Int) + (pn : Int)) HA NA A hn hc nn nc n ac sl we (HT.out.up B_w.out) (HG.out.up B_w.out) we.heap.size (fun B => ((HG.out.up B_w.out)).cells.newOr) (Nat.le_refl _))
      rw [(HR7.out ()).1, (HR7.out ()).2] at HC
      refine HC.mono ?_
      clear HC
      rintro e w8 ⟨VA, Vn, Vc, rfl, hga, hno, hb⟩
      have HV : Hid (GAt w8 u VA Vn) := hga
      clear hga hno
      have B_w : Hid (Below w.heap.size w w8) := below_on2 B_w.out hb
      have B_wa : Hid (Below wa.heap.size wa w8) := below_on2 B_wa.out hb
      have B_w1 : Hid (Below w1.heap.size w1 w8) := below_on2 B_w1.out hb
      have B_w2 : Hid (Below w2.heap.size w2 w8) := below_on2 B_w2.out hb
      have B_wb : Hid (Below wb.heap.size wb w8) := below_on2 B_wb.out hb
      have B_w3 : Hid (Below w3.heap.size w3 w8) := below_on2 B_w3.out hb
      have B_wc : Hid (Below wc.heap.size wc w8) := below_on2 B_wc.out hb
      have B_w4 : Hid (Below w4.heap.size w4 w8) := below_on2 B_w4.out hb
      have B_wd : Hid (Below wd.heap.size wd w8) := below_on2 B_wd.out hb
      have B_w5 : Hid (Below w5.heap.size w5 w8) := below_on2 B_w5.out hb
      have B_w6 : Hid (Below w6.heap.size w6 w8) := below_on2 B_w6.out hb
      have B_w7 : Hid (Below w7.heap.size w7 w8) := below_on2 B_w7.out hb
      have B_we : Hid (Below we.heap.size we w8) := hb
      clear hb
      have kR : Hid (Row w8 (w7.heap.size) 28 [.int .i64 u.w, .int .i64 u.h, .int .i64 u.edge, .slice UA Un Uc]) := (rowCells RU.out B_we.out)
      have k0 := kR.out.cell 0
      have k1 := kR.out.cell 1
      have k2 := kR.out.cell 2
      have k3 := kR.out.cell 3
      have kl := kR.out.lt
      simp only [List.getElem?_cons_zero, List.getElem?_cons_succ] at k0 k1 k2 k3
      clear kR
      go_wp2_with fail
      have RV : Hid (Row (World.alloc w8 (.cells #[.int .i64 u.w, .int .i64 u.h, .int .i64 u.edge, .slice VA Vn Vc] 28)) (w8.heap.size) 28 [.int .i64 u.w, .int .i64 u.h, .int .i64 u.edge, .slice VA Vn Vc]) := by
        have h0 := Row.new w8 28 [.int .i64 u.w, .int .i64 u.h, .int .i64 u.edge, .slice VA Vn Vc]
        try simp only [World.size_alloc] at h0
        exact h0
      have hgr9 : Below w8.heap.size w8 (World.alloc w8 (.cells #[.int .i64 u.w, .int .i64 u.h, .int .i64 u.edge, .slice VA Vn Vc] 28)) := by go_grown
      have B_w : Hid (Below w.heap.size w (World.alloc w8 (.cells #[.int .i64 u.w, .int .i64 u.h, .int .i64 u.edge, .slice VA Vn Vc] 28))) := below_on2 B_w.out hgr9
      have B_wa : Hid (Below wa.heap.size wa (World.alloc w8 (.cells #[.int .i64 u.w, .int .i64 u.h, .int .i64 u.edge, .slice VA Vn Vc] 28))) := below_on2 B_wa.out hgr9
      have B_w1 : Hid (Below w1.heap.size w1 (World.alloc w8 (.cells #[.int .i64 u.w, .int .i64 u.h, .int .i64 u.edge, .slice VA Vn Vc] 28))) := below_on2 B_w1.out hgr9
      have B_w2 : Hid (Below w2.heap.size w2 (World.alloc w8 (.cells #[.int .i64 u.w, .int .i64 u.h, .int .i64 u.edge, .slice VA Vn Vc] 28))) := below_on2 B_w2.out hgr9
      have B_wb : Hid (Below wb.heap.size wb (World.alloc w8 (.cells #[.int .i64 u.w, .int .i64 u.h, .int .i64 u.edge, .slice VA Vn Vc] 28))) := below_on2 B_wb.out hgr9
      have B_w3 : Hid (Below w3.heap.size w3 (World.alloc w8 (.cells #[.int .i64 u.w, .int .i64 u.h, .int .i64 u.edge, .slice VA Vn Vc] 28))) := below_on2 B_w3.out hgr9
      have B_wc : Hid (Below wc.heap.size wc (World.alloc w8 (.cells #[.int .i64 u.w, .int .i64 u.h, .int .i64 u.edge, .slice VA Vn Vc] 28))) := below_on2 B_wc.out hgr9
      have B_w4 : Hid (Below w4.heap.size w4 (World.alloc w8 (.cells #[.int .i64 u.w, .int .i64 u.h, .int .i64 u.edge, .slice VA Vn Vc] 28))) := below_on2 B_w4.out hgr9
      have B_wd : Hid (Below wd.heap.size wd (World.alloc w8 (.cells #[.int .i64 u.w, .int .i64 u.h, .int .i64 u.edge, .slice VA Vn Vc] 28))) := below_on2 B_wd.out hgr9
      have B_w5 : Hid (Below w5.heap.size w5 (World.alloc w8 (.cells #[.int .i64 u.w, .int .i64 u.h, .int .i64 u.edge, .slice VA Vn Vc] 28))) := below_on2 B_w5.out hgr9
      have B_w6 : Hid (Below w6.heap.size w6 (World.alloc w8 (.cells #[.int .i64 u.w, .int .i64 u.h, .int .i64 u.edge, .slice VA Vn Vc] 28))) := below_on2 B_w6.out hgr9
      have B_w7 : Hid (Below w7.heap.size w7 (World.alloc w8 (.cells #[.int .i64 u.w, .int .i64 u.h, .int .i64 u.edge, .slice VA Vn Vc] 28))) := below_on2 B_w7.out hgr9
      have B_we : Hid (Below we.heap.size we (World.alloc w8 (.cells #[.int .i64 u.w, .int .i64 u.h, .int .i64 u.edge, .slice VA Vn Vc] 28))) := below_on2 B_we.out hgr9
      have B_w8 : Hid (Below w8.heap.size w8 (World.alloc w8 (.cells #[.int .i64 u.w, .int .i64 u.h, .int .i64 u.edge, .slice VA Vn Vc] 28))) := hgr9
      clear hgr9
      clear k0 k1 k2 k3 kl
      revert RV B_w B_wa B_w1 B_w2 B_wb B_w3 B_wc B_w4 B_wd B_w5 B_w6 B_w7 B_we B_w8
      generalize (World.alloc w8 (.cells #[.int .i64 u.w, .int .i64 u.h, .int .i64 u.edge, .slice VA Vn Vc] 28)) = wf
      intro RV B_w B_wa B_w1 B_w2 B_wb B_w3 B_wc B_w4 B_wd B_w5 B_w6 B_w7 B_we B_w8
      have HC := rGSame_any u u UA VA Un Uc Vn Vc wf (HU.out.up B_w7.out) (HV.out.up B_w8.out)
      rw [(sameG_iff _ _).2 rfl] at HC
      refine HC.mono ?_
      clear HC
      rintro e w10 ⟨rfl, hb⟩
      have B_w : Hid (Below w.heap.size w w10) := below_on2 B_w.out hb
      have B_wa : Hid (Below wa.heap.size wa w10) := below_on2 B_wa.out hb
      have B_w1 : Hid (Below w1.heap.size w1 w10) := below_on2 B_w1.out hb
      have B_w2 : Hid (Below w2.heap.size w2 w10) := below_on2 B_w2.out hb
      have B_wb : Hid (Below wb.heap.size wb w10) := below_on2 B_wb.out hb
      have B_w3 : Hid (Below w3.heap.size w3 w10) := below_on2 B_w3.out hb
      have B_wc : Hid (Below wc.heap.size wc w10) := below_on2 B_wc.out hb
      have B_w4 : Hid (Below w4.heap.size w4 w10) := below_on2 B_w4.out hb
      have B_wd : Hid (Below wd.heap.size wd w10) := below_on2 B_wd.out hb
      have B_w5 : Hid (Below w5.heap.size w5 w10) := below_on2 B_w5.out hb
      have B_w6 : Hid (Below w6.heap.size w6 w10) := below_on2 B_w6.out hb
      have B_w7 : Hid (Below w7.heap.size w7 w10) := below_on2 B_w7.out hb
      have B_we : Hid (Below we.heap.size we w10) := below_on2 B_we.out hb
      have B_w8 : Hid (Below w8.heap.size w8 w10) := below_on2 B_w8.out hb
      have B_wf : Hid (Below wf.heap.size wf w10) := hb
      clear hb
      go_wp2_with fail
      refine (awake_any _).mono ?_
      rintro e w9 ⟨rfl, hb⟩
      have HBE : Hid (Below w.heap.size w w9) := below_on2 B_w.out hb
      clear hb
      go_wp2
      go_ret
      exact ⟨rfl, HBE.out⟩
    · go_wp2_with fail
      refine (awake_any _).mono ?_
      rintro e w9 ⟨rfl, hb⟩
      have HBE : Hid (Below w.heap.size w w9) := below_on2 B_w.out hb
      clear hb
      go_wp2
      go_ret
      exact ⟨rfl, HBE.out⟩
  · clear HR3
    go_wp2_with fail
    have RY : Hid (Row (World.alloc w3 (.cells #[.int .i64 y.w, .int .i64 y.h, .int .i64 y.edge, .slice YA Yn Yc] 28)) (w3.heap.size) 28 [.int .i64 y.w, .int .i64 y.h, .int .i64 y.edge, .slice YA Yn Yc]) := by
      have h0 := Row.new w3 28 [.int .i64 y.w, .int .i64 y.h, .int .i64 y.edge, .slice YA Yn Yc]
      try simp only [World.size_alloc] at h0
      exact h0
    have hgr9 : Below w3.heap.size w3 (World.alloc w3 (.cells #[.int .i64 y.w, .int .i64 y.h, .int .i64 y.edge, .slice YA Yn Yc] 28)) := by go_grown
    have B_w : Hid (Below w.heap.size w (World.alloc w3 (.cells #[.int .i64 y.w, .int .i64 y.h, .int .i64 y.edge, .slice YA Yn Yc] 28))) := below_on2 B_w.out hgr9
    have B_wa : Hid (Below wa.heap.size wa (World.alloc w3 (.cells #[.int .i64 y.w, .int .i64 y.h, .int .i64 y.edge, .slice YA Yn Yc] 28))) := below_on2 B_wa.out hgr9
    have B_w1 : Hid (Below w1.heap.size w1 (World.alloc w3 (.cells #[.int .i64 y.w, .int .i64 y.h, .int .i64 y.edge, .slice YA Yn Yc] 28))) := below_on2 B_w1.out hgr9
    have B_w2 : Hid (Below w2.heap.size w2 (World.alloc w3 (.cells #[.int .i64 y.w, .int .i64 y.h, .int .i64 y.edge, .slice YA Yn Yc] 28))) := below_on2 B_w2.out hgr9
    have B_wb : Hid (Below wb.heap.size wb (World.alloc w3 (.cells #[.int .i64 y.w, .int .i64 y.h, .int .i64 y.edge, .slice YA Yn Yc] 28))) := below_on2 B_wb.out hgr9
    have B_w3 : Hid (Below w3.heap.size w3 (World.alloc w3 (.cells #[.int .i64 y.w, .int .i64 y.h, .int .i64 y.edge, .slice YA Yn Yc] 28))) := hgr9
    clear hgr9
    revert RY B_w B_wa B_w1 B_w2 B_wb B_w3
    generalize (World.alloc w3 (.cells #[.int .i64 y.w, .int .i64 y.h, .int .i64 y.edge, .slice YA Yn Yc] 28)) = wc
    intro RY B_w B_wa B_w1 B_w2 B_wb B_w3
    refine (awake_any _).mono ?_
    rintro e w9 ⟨rfl, hb⟩
    have HBE : Hid (Below w.heap.size w w9) := below_on2 B_w.out hb
    clear hb
    go_wp2
    go_ret
    exact ⟨rfl, HBE.out⟩
end Go.Proofs.Ytdkfaphclhaiaaa

/-
  The row of GridstepParts.
-/
namespace Go.Proofs.Ytdkfaphclhaiaaa
open Go.RowKit Go.ChangeShapes Go.WideShapes Go.ChangeAt Go.Joins
set_option linter.unusedSimpArgs false
set_option linter.unusedVariables false

set_option maxRecDepth 100000 in
theorem gridstepParts_lifted (os : Os) (started : os.Started) (H : Type) (enc : TypeId × Value → H) :
    ReturnsInHanded {} Try.checked os 7 .any (Rows.gridstepPartsSpec.pre6 enc Try.prog Try.f7 Rows.gridstepPartsRow.domain false) (Rows.gridstepPartsSpec.post enc Try.prog Try.f7 false true false false) := by
  refine returnsInHanded_of_change (C := Try.checked) Try.own' started (by kernel_rfl) Try.func7
    (ChangeSpec.witness6 (enc := enc) (C := Try.checked) false ⟨#[], #[.agg #[.int .i64 0, .slice none 0 0, .slice none 0 0], .agg #[.int .i64 0, .int .i64 0, .int .i64 0, .slice none 0 0], .int .u16 0], []⟩ 8 (by kernel_rfl) (by kernel_rfl) (by kernel_rfl) (by kernel_rfl)) ?_
  intro W base args ds gs before hval0 hW hcnd _
  have hval : ∀ (j : Nat) t v, Try.f7.params[j]? = some t → args[j]? = some v → Value.okWide Try.prog W .any base t v := hval0
  have hW' := hW
  obtain ⟨p, q, hA0, hV, rfl, hfz, hnd⟩ := hW
  have hA : DataW.TrodAll enc Try.prog W 0 (fun _ => true) true Try.f7.params.toList args.toList ds p := hA0
  rw [Try.params7] at hA hval
  obtain ⟨v0, v1, v2, d0, d1, d2, p0, p1, p2, rfl, rfl, rfl, h0, h1, h2⟩ := trodAll_three hA
  obtain ⟨rfl, rfl⟩ := trodVars_none hV
  have h0k := h0
  have hlt0 : ∀ x ∈ p0, x.block < W.heap.size := fun x hx => hW'.lt x (by simp [hx])
  have h1k := h1
  have hlt1 : ∀ x ∈ p1, x.block < W.heap.size := fun x hx => hW'.lt x (by simp [hx])
  have h2k := h2
  have hlt2 : ∀ x ∈ p2, x.block < W.heap.size := fun x hx => hW'.lt x (by simp [hx])
  obtain ⟨t0, HA0, hn0, hc0, NA0, nn0, nc0, sl0, rfl, hm0⟩ := open_tree (hval 0 25 v0 rfl rfl) h0
  obtain ⟨g1, A1, n1, ac1, rfl, hm1⟩ := open_grid (hval 1 28 v1 rfl rfl) h1
  obtain ⟨k2, rfl, hk2⟩ := open_u16_arg (hval 2 41 v2 rfl rfl) h2
  clear hA0 hval0
  refine (lawParts_any t0 g1 k2 hk2 HA0 NA0 A1 hn0 hc0 nn0 nc0 n1 ac1 sl0 W hm0 hm1).mono fun e W' ⟨he, hb⟩ => ?_
  subst he
  exact ⟨_, rfl, law_post (pa := p0 ++ (p1 ++ p2)) (pv := []) hW' (fun _ _ _ => trodAll_mk1 (shut_bool Try.underlying4 true)) (trodAll_mk3 (Below.trod Try.laidOut' (by kernel_rfl) (of_decide_eq_true (by kernel_rfl)) h0k hb hlt0) (Below.trod Try.laidOut' (by kernel_rfl) (of_decide_eq_true (by kernel_rfl)) h1k hb hlt1) (Below.trod Try.laidOut' (by kernel_rfl) (of_decide_eq_true (by kernel_rfl)) h2k hb hlt2)) rfl hb⟩

theorem gridstepParts_holds : Rows.GridstepPartsSaid :=
  OpenClaim.holds_of_wide 7 Try.f7 rfl rfl rfl rfl rfl rfl rfl ⟨rfl, rfl, rfl, rfl, rfl⟩ rfl rfl rfl rfl rfl (by kernel_rfl) Try.func7 (by kernel_rfl)
    (of_decide_eq_true (by kernel_rfl)) (by unfold Func.isWrapper; first | (rw [if_pos (by decide +kernel)]; kernel_rfl) | (rw [if_neg (by decide +kernel)]; exact ⟨rfl, rfl⟩))
    (fun os started H enc _ => gridstepParts_lifted os started H enc)

end Go.Proofs.Ytdkfaphclhaiaaa
