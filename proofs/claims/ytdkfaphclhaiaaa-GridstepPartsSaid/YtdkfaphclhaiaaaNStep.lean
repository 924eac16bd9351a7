/-
  Step of package gridstep and of the reference, walked.
-/
import Derived.Test.YtdkfaphclhaiaaaNRun
import Derived.Test.YtdkfaphclhaiaaaNRefNext
namespace Go.Proofs.Ytdkfaphclhaiaaa
open Go.RowKit
set_option linter.unusedSimpArgs false
set_option linter.unusedVariables false
set_option maxRecDepth 100000 in
set_option maxHeartbeats 2000000 in
theorem gStep_any (t : Tre) (g : Grd) (HA NA A : Option Addr) (hn hc nn nc n ac : Nat) (sl : List Sl) (w : World) (ht : TAt w t HA NA hn nn sl) (hg : GAt w g A n) (b0 : Nat) (hO : ∀ B, NewOr A n b0 B) (hb0 : b0 ≤ w.heap.size) :
    Calls Try.prog 11 #[.agg #[.int .i64 t.states, .slice HA hn hc, .slice NA nn nc], .agg #[.int .i64 g.w, .int .i64 g.h, .int .i64 g.edge, .slice A n ac]] w (GPostN (runR t g 1) (runErr t g 1) b0 w) := by
  have HT : Hid (TAt w t HA NA hn nn sl) := ht
  have HG : Hid (GAt w g A n) := hg
  have HO : Hid (∀ B, NewOr A n b0 B) := hO
  clear ht hg hO
  go_enter Try.func11, Try.ntmps11
  go_wp2_with fail
  have RT : Hid (Row (World.alloc (World.alloc (World.alloc w (.cells #[.int .i64 t.states, .slice HA hn hc, .slice NA nn nc] 25)) (.cells #[.int .i64 g.w, .int .i64 g.h, .int .i64 g.edge, .slice A n ac] 28)) (.cells #[.int .i64 0, .int .i64 0, .int .i64 0, .slice none 0 0] 28)) (w.heap.size) 25 [.int .i64 t.states, .slice HA hn hc, .slice NA nn nc]) := by
    have h0 := Row.new w 25 [.int .i64 t.states, .slice HA hn hc, .slice NA nn nc]
    try simp only [World.size_alloc] at h0
    exact ((h0.alloc _).alloc _)
  have RG : Hid (Row (World.alloc (World.alloc (World.alloc w (.cells #[.int .i64 t.states, .slice HA hn hc, .slice NA nn nc] 25)) (.cells #[.int .i64 g.w, .int .i64 g.h, .int .i64 g.edge, .slice A n ac] 28)) (.cells #[.int .i64 0, .int .i64 0, .int .i64 0, .slice none 0 0] 28)) (w.heap.size + 1) 28 [.int .i64 g.w, .int .i64 g.h, .int .i64 g.edge, .slice A n ac]) := by
    have h0 := Row.new (World.alloc w (.cells #[.int .i64 t.states, .slice HA hn hc, .slice NA nn nc] 25)) 28 [.int .i64 g.w, .int .i64 g.h, .int .i64 g.edge, .slice A n ac]
    try simp only [World.size_alloc] at h0
    exact (h0.alloc _)
  have RZ : Hid (Row (World.alloc (World.alloc (World.alloc w (.cells #[.int .i64 t.states, .slice HA hn hc, .slice NA nn nc] 25)) (.cells #[.int .i64 g.w, .int .i64 g.h, .int .i64 g.edge, .slice A n ac] 28)) (.cells #[.int .i64 0, .int .i64 0, .int .i64 0, .slice none 0 0] 28)) (w.heap.size + 1 + 1) 28 [.int .i64 0, .int .i64 0, .int .i64 0, .slice none 0 0]) := by
    have h0 := Row.new (World.alloc (World.alloc w (.cells #[.int .i64 t.states, .slice HA hn hc, .slice NA nn nc] 25)) (.cells #[.int .i64 g.w, .int .i64 g.h, .int .i64 g.edge, .slice A n ac] 28)) 28 [.int .i64 0, .int .i64 0, .int .i64 0, .slice none 0 0]
    try simp only [World.size_alloc] at h0
    exact h0
  have hgr9 : Below w.heap.size w (World.alloc (World.alloc (World.alloc w (.cells #[.int .i64 t.states, .slice HA hn hc, .slice NA nn nc] 25)) (.cells #[.int .i64 g.w, .int .i64 g.h, .int .i64 g.edge, .slice A n ac] 28)) (.cells #[.int .i64 0, .int .i64 0, .int .i64 0, .slice none 0 0] 28)) := by go_grown
  have B_w : Hid (Below w.heap.size w (World.alloc (World.alloc (World.alloc w (.cells #[.int .i64 t.states, .slice HA hn hc, .slice NA nn nc] 25)) (.cells #[.int .i64 g.w, .int .i64 g.h, .int .i64 g.edge, .slice A n ac] 28)) (.cells #[.int .i64 0, .int .i64 0, .int .i64 0, .slice none 0 0] 28))) := hgr9
  clear hgr9
  revert RT RG RZ B_w
  generalize (World.alloc (World.alloc (World.alloc w (.cells #[.int .i64 t.states, .slice HA hn hc, .slice NA nn nc] 25)) (.cells #[.int .i64 g.w, .int .i64 g.h, .int .i64 g.edge, .slice A n ac] 28)) (.cells #[.int .i64 0, .int .i64 0, .int .i64 0, .slice none 0 0] 28)) = wa
  intro RT RG RZ B_w
  have hwa : w.heap.size + 1 + 1 < wa.heap.size := RZ.out.lt
  refine ((callsIn_wide (n := 3)).1 (gRun_any t g 1 HA NA A hn hc nn nc n ac sl wa (HT.out.up B_w.out) (HG.out.up B_w.out) b0 HO.out (by omega))).mono ?_
  rintro e w1 ⟨RA, rn, rc, rfl, hra, hno, hb⟩
  have HRA : Hid (GAt w1 (runR t g 1) RA rn) := hra
  have HNO : Hid (NewOr RA rn b0 wa.heap.size) := hno
  clear hra hno
  have B_w : Hid (Below w.heap.size w w1) := below_on2 B_w.out hb
  have B_wa : Hid (Below wa.heap.size wa w1) := hb
  clear hb
  have zR : Hid (Row w1 (w.heap.size + 1 + 1) 28 [.int .i64 0, .int .i64 0, .int .i64 0, .slice none 0 0]) := (rowCells RZ.out B_wa.out)
  have z0 := zR.out.cell 0
  have z1 := zR.out.cell 1
  have z2 := zR.out.cell 2
  have z3 := zR.out.cell 3
  have zl := zR.out.lt
  simp only [List.getElem?_cons_zero, List.getElem?_cons_succ] at z0 z1 z2 z3
  clear zR
  have zf0 := (show Row _ _ _ _ from (rowCells RZ.out B_wa.out)).frozen 0
  have zf1 := (show Row _ _ _ _ from (rowCells RZ.out B_wa.out)).frozen 1
  have zf2 := (show Row _ _ _ _ from (rowCells RZ.out B_wa.out)).frozen 2
  have zf3 := (show Row _ _ _ _ from (rowCells RZ.out B_wa.out)).frozen 3
  go_wp2
  have Z9 : Row (World.setCell (World.setCell (World.setCell (World.setCell w1 ⟨w.heap.size + 1 + 1, 0, none⟩ (.int .i64 (runR t g 1).w)) ⟨w.heap.size + 1 + 1, 1, none⟩ (.int .i64 (runR t g 1).h)) ⟨w.heap.size + 1 + 1, 2, none⟩ (.int .i64 (runR t g 1).edge)) ⟨w.heap.size + 1 + 1, 3, none⟩ (.slice RA rn rc)) (w.heap.size + 1 + 1) 28 [.int .i64 (runR t g 1).w, .int .i64 (runR t g 1).h, .int .i64 (runR t g 1).edge, .slice RA rn rc] := (Row.set (Row.set (Row.set (Row.set (rowCells RZ.out B_wa.out) 0 (.int .i64 (runR t g 1).w)) 1 (.int .i64 (runR t g 1).h)) 2 (.int .i64 (runR t g 1).edge)) 3 (.slice RA rn rc))
  have B9 : Hid (Below w.heap.size w (World.setCell (World.setCell (World.setCell (World.setCell w1 ⟨w.heap.size + 1 + 1, 0, none⟩ (.int .i64 (runR t g 1).w)) ⟨w.heap.size + 1 + 1, 1, none⟩ (.int .i64 (runR t g 1).h)) ⟨w.heap.size + 1 + 1, 2, none⟩ (.int .i64 (runR t g 1).edge)) ⟨w.heap.size + 1 + 1, 3, none⟩ (.slice RA rn rc))) := (Below.setCell (Below.setCell (Below.setCell (Below.setCell B_w.out (p := ⟨w.heap.size + 1 + 1, 0, none⟩) (by show _ ≤ w.heap.size + 1 + 1; omega) (.int .i64 (runR t g 1).w)) (p := ⟨w.heap.size + 1 + 1, 1, none⟩) (by show _ ≤ w.heap.size + 1 + 1; omega) (.int .i64 (runR t g 1).h)) (p := ⟨w.heap.size + 1 + 1, 2, none⟩) (by show _ ≤ w.heap.size + 1 + 1; omega) (.int .i64 (runR t g 1).edge)) (p := ⟨w.heap.size + 1 + 1, 3, none⟩) (by show _ ≤ w.heap.size + 1 + 1; omega) (.slice RA rn rc))
  have d0 := Z9.cell 0
  have d1 := Z9.cell 1
  have d2 := Z9.cell 2
  have d3 := Z9.cell 3
  simp only [List.getElem?_cons_zero, List.getElem?_cons_succ] at d0 d1 d2 d3
  clear Z9
  refine bodyPost_ret (v := .tuple #[.agg #[.int .i64 (runR t g 1).w, .int .i64 (runR t g 1).h, .int .i64 (runR t g 1).edge, .slice RA rn rc], .int .i64 (runErr t g 1)]) (by simp [results, Try.results11, go_sem, d0, d1, d2, d3]) rfl ?_
  exact ⟨RA, rn, rc, rfl, (GAt.farSet (GAt.farSet (GAt.farSet (GAt.farSet HRA.out HNO.out (p := ⟨w.heap.size + 1 + 1, 0, none⟩) (by show _ ≤ w.heap.size + 1 + 1; omega) (by show w.heap.size + 1 + 1 < _; omega) _) HNO.out (p := ⟨w.heap.size + 1 + 1, 1, none⟩) (by show _ ≤ w.heap.size + 1 + 1; omega) (by show w.heap.size + 1 + 1 < _; omega) _) HNO.out (p := ⟨w.heap.size + 1 + 1, 2, none⟩) (by show _ ≤ w.heap.size + 1 + 1; omega) (by show w.heap.size + 1 + 1 < _; omega) _) HNO.out (p := ⟨w.heap.size + 1 + 1, 3, none⟩) (by show _ ≤ w.heap.size + 1 + 1; omega) (by show w.heap.size + 1 + 1 < _; omega) _), HNO.out.mono (Nat.le_refl _) (by omega), B9.out⟩
theorem runErr_1 {t : Tre} {g : Grd} (h : fitsN t g = 0) : runErr t g 1 = 0 := runErr_ok h (by decide)
theorem runR_1 {t : Tre} {g : Grd} (h : fitsN t g = 0) : runR t g 1 = nextG t g := by rw [runR, if_pos (runErr_1 h)]; rfl
set_option maxRecDepth 100000 in
set_option maxHeartbeats 2000000 in
theorem rStep_any (t : Tre) (g : Grd) (HA NA A : Option Addr) (hn hc nn nc n ac : Nat) (sl : List Sl) (w : World) (ht : TAt w t HA NA hn nn sl) (hg : GAt w g A n) :
    Calls Try.prog 12 #[.agg #[.int .i64 t.states, .slice HA hn hc, .slice NA nn nc], .agg #[.int .i64 g.w, .int .i64 g.h, .int .i64 g.edge, .slice A n ac]] w (GPostN (runR t g 1) (runErr t g 1) 0 w) := by
  have HT : Hid (TAt w t HA NA hn nn sl) := ht
  have HG : Hid (GAt w g A n) := hg
  clear ht hg
  go_enter Try.func12, Try.ntmps12
  go_wp2_with fail
  have RT : Hid (Row (World.alloc (World.alloc (World.alloc w (.cells #[.int .i64 t.states, .slice HA hn hc, .slice NA nn nc] 25)) (.cells #[.int .i64 g.w, .int .i64 g.h, .int .i64 g.edge, .slice A n ac] 28)) (.cells #[.int .i64 0, .int .i64 0, .int .i64 0, .slice none 0 0] 28)) (w.heap.size) 25 [.int .i64 t.states, .slice HA hn hc, .slice NA nn nc]) := by
    have h0 := Row.new w 25 [.int .i64 t.states, .slice HA hn hc, .slice NA nn nc]
    try simp only [World.size_alloc] at h0
    exact ((h0.alloc _).alloc _)
  have RG : Hid (Row (World.alloc (World.alloc (World.alloc w (.cells #[.int .i64 t.states, .slice HA hn hc, .slice NA nn nc] 25)) (.cells #[.int .i64 g.w, .int .i64 g.h, .int .i64 g.edge, .slice A n ac] 28)) (.cells #[.int .i64 0, .int .i64 0, .int .i64 0, .slice none 0 0] 28)) (w.heap.size + 1) 28 [.int .i64 g.w, .int .i64 g.h, .int .i64 g.edge, .slice A n ac]) := by
    have h0 := Row.new (World.alloc w (.cells #[.int .i64 t.states, .slice HA hn hc, .slice NA nn nc] 25)) 28 [.int .i64 g.w, .int .i64 g.h, .int .i64 g.edge, .slice A n ac]
    try simp only [World.size_alloc] at h0
    exact (h0.alloc _)
  have RZ : Hid (Row (World.alloc (World.alloc (World.alloc w (.cells #[.int .i64 t.states, .slice HA hn hc, .slice NA nn nc] 25)) (.cells #[.int .i64 g.w, .int .i64 g.h, .int .i64 g.edge, .slice A n ac] 28)) (.cells #[.int .i64 0, .int .i64 0, .int .i64 0, .slice none 0 0] 28)) (w.heap.size + 1 + 1) 28 [.int .i64 0, .int .i64 0, .int .i64 0, .slice none 0 0]) := by
    have h0 := Row.new (World.alloc (World.alloc w (.cells #[.int .i64 t.states, .slice HA hn hc, .slice NA nn nc] 25)) (.cells #[.int .i64 g.w, .int .i64 g.h, .int .i64 g.edge, .slice A n ac] 28)) 28 [.int .i64 0, .int .i64 0, .int .i64 0, .slice none 0 0]
    try simp only [World.size_alloc] at h0
    exact h0
  have hgr9 : Below w.heap.size w (World.alloc (World.alloc (World.alloc w (.cells #[.int .i64 t.states, .slice HA hn hc, .slice NA nn nc] 25)) (.cells #[.int .i64 g.w, .int .i64 g.h, .int .i64 g.edge, .slice A n ac] 28)) (.cells #[.int .i64 0, .int .i64 0, .int .i64 0, .slice none 0 0] 28)) := by go_grown
  have B_w : Hid (Below w.heap.size w (World.alloc (World.alloc (World.alloc w (.cells #[.int .i64 t.states, .slice HA hn hc, .slice NA nn nc] 25)) (.cells #[.int .i64 g.w, .int .i64 g.h, .int .i64 g.edge, .slice A n ac] 28)) (.cells #[.int .i64 0, .int .i64 0, .int .i64 0, .slice none 0 0] 28))) := hgr9
  clear hgr9
  revert RT RG RZ B_w
  generalize (World.alloc (World.alloc (World.alloc w (.cells #[.int .i64 t.states, .slice HA hn hc, .slice NA nn nc] 25)) (.cells #[.int .i64 g.w, .int .i64 g.h, .int .i64 g.edge, .slice A n ac] 28)) (.cells #[.int .i64 0, .int .i64 0, .int .i64 0, .slice none 0 0] 28)) = wa
  intro RT RG RZ B_w
  refine (rCheck_any t g HA NA A hn hc nn nc n ac sl wa (HT.out.up B_w.out) (HG.out.up B_w.out)).mono ?_
  rintro e w1 ⟨rfl, hb⟩
  have B_w : Hid (Below w.heap.size w w1) := below_on2 B_w.out hb
  have B_wa : Hid (Below wa.heap.size wa w1) := hb
  clear hb
  have hwa : w.heap.size + 1 + 1 < w1.heap.size := (show Row _ _ _ _ from (rowCells RZ.out B_wa.out)).lt
  obtain ⟨fe, hfe⟩ : ∃ fe, fitsN t g = fe := ⟨_, rfl⟩
  have HFE : Hid (∀ _ : Unit, fitsN t g = fe) := fun _ => hfe
  rw [hfe]
  clear hfe
  by_cases hf : fe = 0
  · subst hf
    have HER : Hid (∀ _ : Unit, runErr t g 1 = 0) := fun _ => runErr_1 (HFE.out ())
    have HRR : Hid (∀ _ : Unit, runR t g 1 = nextG t g) := fun _ => runR_1 (HFE.out ())
    have HOK : Hid (OkTG t g) := fits_ok (HFE.out ())
    have pR : Hid (Row w1 (w.heap.size) 25 [.int .i64 t.states, .slice HA hn hc, .slice NA nn nc]) := (rowCells RT.out B_wa.out)
    have p0 := pR.out.cell 0
    have p1 := pR.out.cell 1
    have p2 := pR.out.cell 2
    have pl := pR.out.lt
    simp only [List.getElem?_cons_zero, List.getElem?_cons_succ] at p0 p1 p2
    clear pR
    have qR : Hid (Row w1 (w.heap.size + 1) 28 [.int .i64 g.w, .int .i64 g.h, .int .i64 g.edge, .slice A n ac]) := (rowCells RG.out B_wa.out)
    have q0 := qR.out.cell 0
    have q1 := qR.out.cell 1
    have q2 := qR.out.cell 2
    have q3 := qR.out.cell 3
    have ql := qR.out.lt
    simp only [List.getElem?_cons_zero, List.getElem?_cons_succ] at q0 q1 q2 q3
    clear qR
    go_wp2_with fail
    refine (rNext_any t g HA NA A hn hc nn nc n ac sl w1 (HT.out.up B_w.out) (HG.out.up B_w.out) HOK.out).mono ?_
    rintro e w2 ⟨RA, rn, rc, rfl, hra, hno, hb⟩
    have HRA : Hid (GAt w2 (nextG t g) RA rn) := hra
    have HNO : Hid (NewOr RA rn 0 w1.heap.size) := hno
    clear hra hno
    have B_w : Hid (Below w.heap.size w w2) := below_on2 B_w.out hb
    have B_wa : Hid (Below wa.heap.size wa w2) := below_on2 B_wa.out hb
    have B_w1 : Hid (Below w1.heap.size w1 w2) := hb
    clear p0 p1 p2 pl q0 q1 q2 q3 ql
    clear hb
    have zR : Hid (Row w2 (w.heap.size + 1 + 1) 28 [.int .i64 0, .int .i64 0, .int .i64 0, .slice none 0 0]) := (rowCells RZ.out B_wa.out)
    have z0 := zR.out.cell 0
    have z1 := zR.out.cell 1
    have z2 := zR.out.cell 2
    have z3 := zR.out.cell 3
    have zl := zR.out.lt
    simp only [List.getElem?_cons_zero, List.getElem?_cons_succ] at z0 z1 z2 z3
    clear zR
    have zf0 := (show Row _ _ _ _ from (rowCells RZ.out B_wa.out)).frozen 0
    have zf1 := (show Row _ _ _ _ from (rowCells RZ.out B_wa.out)).frozen 1
    have zf2 := (show Row _ _ _ _ from (rowCells RZ.out B_wa.out)).frozen 2
    have zf3 := (show Row _ _ _ _ from (rowCells RZ.out B_wa.out)).frozen 3
    go_wp2
    have Z9 : Row (World.setCell (World.setCell (World.setCell (World.setCell w2 ⟨w.heap.size + 1 + 1, 0, none⟩ (.int .i64 (nextG t g).w)) ⟨w.heap.size + 1 + 1, 1, none⟩ (.int .i64 (nextG t g).h)) ⟨w.heap.size + 1 + 1, 2, none⟩ (.int .i64 (nextG t g).edge)) ⟨w.heap.size + 1 + 1, 3, none⟩ (.slice RA rn rc)) (w.heap.size + 1 + 1) 28 [.int .i64 (nextG t g).w, .int .i64 (nextG t g).h, .int .i64 (nextG t g).edge, .slice RA rn rc] := (Row.set (Row.set (Row.set (Row.set (rowCells RZ.out B_wa.out) 0 (.int .i64 (nextG t g).w)) 1 (.int .i64 (nextG t g).h)) 2 (.int .i64 (nextG t g).edge)) 3 (.slice RA rn rc))
    have B9 : Hid (Below w.heap.size w (World.setCell (World.setCell (World.setCell (World.setCell w2 ⟨w.heap.size + 1 + 1, 0, none⟩ (.int .i64 (nextG t g).w)) ⟨w.heap.size + 1 + 1, 1, none⟩ (.int .i64 (nextG t g).h)) ⟨w.heap.size + 1 + 1, 2, none⟩ (.int .i64 (nextG t g).edge)) ⟨w.heap.size + 1 + 1, 3, none⟩ (.slice RA rn rc))) := (Below.setCell (Below.setCell (Below.setCell (Below.setCell B_w.out (p := ⟨w.heap.size + 1 + 1, 0, none⟩) (by show _ ≤ w.heap.size + 1 + 1; omega) (.int .i64 (nextG t g).w)) (p := ⟨w.heap.size + 1 + 1, 1, none⟩) (by show _ ≤ w.heap.size + 1 + 1; omega) (.int .i64 (nextG t g).h)) (p := ⟨w.heap.size + 1 + 1, 2, none⟩) (by show _ ≤ w.heap.size + 1 + 1; omega) (.int .i64 (nextG t g).edge)) (p := ⟨w.heap.size + 1 + 1, 3, none⟩) (by show _ ≤ w.heap.size + 1 + 1; omega) (.slice RA rn rc))
    have d0 := Z9.cell 0
    have d1 := Z9.cell 1
    have d2 := Z9.cell 2
    have d3 := Z9.cell 3
    simp only [List.getElem?_cons_zero, List.getElem?_cons_succ] at d0 d1 d2 d3
    clear Z9
    refine bodyPost_ret (v := .tuple #[.agg #[.int .i64 (nextG t g).w, .int .i64 (nextG t g).h, .int .i64 (nextG t g).edge, .slice RA rn rc], .int .i64 (0)]) (by simp [results, Try.results12, go_sem, d0, d1, d2, d3]) rfl ?_
    show GPostN _ _ _ _ _ _
    rw [HER.out (), HRR.out ()]
    exact ⟨RA, rn, rc, rfl, (GAt.farSet (GAt.farSet (GAt.farSet (GAt.farSet HRA.out HNO.out (p := ⟨w.heap.size + 1 + 1, 0, none⟩) (by show 0 ≤ w.heap.size + 1 + 1; omega) (by show w.heap.size + 1 + 1 < _; omega) _) HNO.out (p := ⟨w.heap.size + 1 + 1, 1, none⟩) (by show 0 ≤ w.heap.size + 1 + 1; omega) (by show w.heap.size + 1 + 1 < _; omega) _) HNO.out (p := ⟨w.heap.size + 1 + 1, 2, none⟩) (by show 0 ≤ w.heap.size + 1 + 1; omega) (by show w.heap.size + 1 + 1 < _; omega) _) HNO.out (p := ⟨w.heap.size + 1 + 1, 3, none⟩) (by show 0 ≤ w.heap.size + 1 + 1; omega) (by show w.heap.size + 1 + 1 < _; omega) _), HNO.out.mono (Nat.le_refl _) (by have := hwa; omega), B9.out⟩
  · have HER : Hid (∀ _ : Unit, runErr t g 1 = fe ∧ fe ≠ 0) := fun _ => ⟨by rw [← HFE.out ()]; exact runErr_fits 1 (by rw [HFE.out ()]; exact hf), hf⟩
    clear HFE
    have zR : Hid (Row w1 (w.heap.size + 1 + 1) 28 [.int .i64 0, .int .i64 0, .int .i64 0, .slice none 0 0]) := (rowCells RZ.out B_wa.out)
    have z0 := zR.out.cell 0
    have z1 := zR.out.cell 1
    have z2 := zR.out.cell 2
    have z3 := zR.out.cell 3
    have zl := zR.out.lt
    simp only [List.getElem?_cons_zero, List.getElem?_cons_succ] at z0 z1 z2 z3
    clear zR
    have zf0 := (show Row _ _ _ _ from (rowCells RZ.out B_wa.out)).frozen 0
    have zf1 := (show Row _ _ _ _ from (rowCells RZ.out B_wa.out)).frozen 1
    have zf2 := (show Row _ _ _ _ from (rowCells RZ.out B_wa.out)).frozen 2
    have zf3 := (show Row _ _ _ _ from (rowCells RZ.out B_wa.out)).frozen 3
    go_wp2
    have Z9 : Row (World.setCell (World.setCell (World.setCell (World.setCell w1 ⟨w.heap.size + 1 + 1, 0, none⟩ (.int .i64 0)) ⟨w.heap.size + 1 + 1, 1, none⟩ (.int .i64 0)) ⟨w.heap.size + 1 + 1, 2, none⟩ (.int .i64 0)) ⟨w.heap.size + 1 + 1, 3, none⟩ (.slice none 0 0)) (w.heap.size + 1 + 1) 28 [.int .i64 0, .int .i64 0, .int .i64 0, .slice none 0 0] := (Row.set (Row.set (Row.set (Row.set (rowCells RZ.out B_wa.out) 0 (.int .i64 0)) 1 (.int .i64 0)) 2 (.int .i64 0)) 3 (.slice none 0 0))
    have B9 : Hid (Below w.heap.size w (World.setCell (World.setCell (World.setCell (World.setCell w1 ⟨w.heap.size + 1 + 1, 0, none⟩ (.int .i64 0)) ⟨w.heap.size + 1 + 1, 1, none⟩ (.int .i64 0)) ⟨w.heap.size + 1 + 1, 2, none⟩ (.int .i64 0)) ⟨w.heap.size + 1 + 1, 3, none⟩ (.slice none 0 0))) := (Below.setCell (Below.setCell (Below.setCell (Below.setCell B_w.out (p := ⟨w.heap.size + 1 + 1, 0, none⟩) (by show _ ≤ w.heap.size + 1 + 1; omega) (.int .i64 0)) (p := ⟨w.heap.size + 1 + 1, 1, none⟩) (by show _ ≤ w.heap.size + 1 + 1; omega) (.int .i64 0)) (p := ⟨w.heap.size + 1 + 1, 2, none⟩) (by show _ ≤ w.heap.size + 1 + 1; omega) (.int .i64 0)) (p := ⟨w.heap.size + 1 + 1, 3, none⟩) (by show _ ≤ w.heap.size + 1 + 1; omega) (.slice none 0 0))
    have d0 := Z9.cell 0
    have d1 := Z9.cell 1
    have d2 := Z9.cell 2
    have d3 := Z9.cell 3
    simp only [List.getElem?_cons_zero, List.getElem?_cons_succ] at d0 d1 d2 d3
    clear Z9
    refine bodyPost_ret (v := .tuple #[.agg #[.int .i64 0, .int .i64 0, .int .i64 0, .slice none 0 0], .int .i64 (fe)]) (by simp [results, Try.results12, go_sem, d0, d1, d2, d3]) rfl ?_
    exact gpostN_err (runR_err (HER.out ()).1 (HER.out ()).2) (HER.out ()).1 B9.out
end Go.Proofs.Ytdkfaphclhaiaaa
