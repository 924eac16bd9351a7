/-
  The reference's Run, walked.
-/
import Derived.Test.YtdkfaphclhaiaaaNStep
namespace Go.Proofs.Ytdkfaphclhaiaaa
open Go.RowKit
set_option linter.unusedSimpArgs false
set_option linter.unusedVariables false
set_option maxRecDepth 100000 in
set_option maxHeartbeats 4000000 in
theorem rRun_any (t : Tre) (g : Grd) (z : Int) (HA NA A : Option Addr) (hn hc nn nc n ac : Nat) (sl : List Sl) (w : World) (ht : TAt w t HA NA hn nn sl) (hg : GAt w g A n) (b0 : Nat) (hO : ∀ B, NewOr A n b0 B) (hb0 : b0 ≤ w.heap.size) :
    Calls Try.prog 15 #[.agg #[.int .i64 t.states, .slice HA hn hc, .slice NA nn nc], .agg #[.int .i64 g.w, .int .i64 g.h, .int .i64 g.edge, .slice A n ac], .int .i64 z] w (GPostN (runR t g z) (runErr t g z) b0 w) := by
  have HT : Hid (TAt w t HA NA hn nn sl) := ht
  have HG : Hid (GAt w g A n) := hg
  have HL : Hid (∀ _ : Unit, g.cells.length = n) := fun _ => hg.cl
  have HO : Hid (∀ B, NewOr A n b0 B) := hO
  clear ht hg hO
  go_enter Try.func15, Try.ntmps15
  go_wp2_with fail
  have RT : Hid (Row (World.alloc (World.alloc (World.alloc w (.cells #[.int .i64 t.states, .slice HA hn hc, .slice NA nn nc] 25)) (.cells #[.int .i64 g.w, .int .i64 g.h, .int .i64 g.edge, .slice A n ac] 28)) (.cells #[.int .i64 0, .int .i64 0, .int .i64 0, .slice none 0 0] 28)) (w.heap.size) 25 [.int .i64 t.states, .slice HA hn hc, .slice NA nn nc]) := by
    have h0 := Row.new w 25 [.int .i64 t.states, .slice HA hn hc, .slice NA nn nc]
    try simp only [World.size_alloc] at h0
    exact ((h0.alloc _).alloc _)
  have RG : Hid (Row (World.alloc (World.alloc (World.alloc w (.cells #[.int .i64 t.states, .slice HA hn hc, .slice NA nn nc] 25)) (.cells #[.int .i64 g.w, .int .i64 g.h, .int .i64 g.edge, .slice A n ac] 28)) (.cells #[.int .i64 0, .int .i64 0, .int .i64 0, .slice none 0 0] 28)) (w.heap.size + 1) 28 [.int .i64 g.w, .int .i64 g.h, .int .i64 g.edge, .slice A n ac]) := by
    have h0 := Row.new (World.alloc w (.cells #[.int .i64 t.states, .slice HA hn hc, .slice NA nn nc] 25)) 28 [.int .i64 g.w, .int .i64 g.h, .int .i64 g.edge, .slice A n ac]
    try simp only [World.size_alloc] at h0
    exact (h0.alloc _)
  have RZ : Hid (Row (World.alloc (World.alloc (World.alloc w (.cells #[.int .i64 t.states, .slice HA hn hc, .slice NA nn nc] 25)) (.cells #[.int .i64 g.w, .int .i64 g.h, .int .i64 g.edge, .slice A n ac] 28)) (.cells #[.int .i64 0, .int .i64 0, .int .i64 0, .slice none 0 0] 28)) (w.heap.size + 1 + 1) 28 [.int .i64 0, .int .i64 0, .int .i64 0, .slice none 0 0]) := by
    have h0 := Row.new (World.alloc (World.alloc w (.cells #[.int .i64 t.states, .slice HA hn hc, .slice NA nn nc] 25)) (.cells #[.int .i64 g.w, .int .i64 g.h, .int .i64 g.edge, .slice A n ac] 28)) 28 [.int .i64 0, .int .i64 0, .int .i64 0, .slice none 0 0]
    try simp only [World.size_alloc] at h0
    exact h0
  have hgr9 : Below w.heap.size w (World.alloc (World.alloc (World.alloc w (.cells #[.int .i64 t.states, .slice HA hn hc, .slice NA nn nc] 25)) (.cells #[.int .i64 g.w, .int .i64 g.h, .int .i64 g.edge, .slice A n ac] 28)) (.cells #[.int .i64 0, .int .i64 0, .int .i64 0, .slice none 0 0] 28)) := by go_grown
  have B_w : Hid (Below w.heap.size w (World.alloc (World.alloc (World.alloc w (.cells #[.int .i64 t.states, .slice HA hn hc, .slice NA nn nc] 25)) (.cells #[.int .i64 g.w, .int .i64 g.h, .int .i64 g.edge, .slice A n ac] 28)) (.cells #[.int .i64 0, .int .i64 0, .int .i64 0, .slice none 0 0] 28))) := hgr9
  clear hgr9
  revert RT RG RZ B_w
  generalize (World.alloc (World.alloc (World.alloc w (.cells #[.int .i64 t.states, .slice HA hn hc, .slice NA nn nc] 25)) (.cells #[.int .i64 g.w, .int .i64 g.h, .int .i64 g.edge, .slice A n ac] 28)) (.cells #[.int .i64 0, .int .i64 0, .int .i64 0, .slice none 0 0] 28)) = wa
  intro RT RG RZ B_w
  have hwa : w.heap.size + 1 + 1 < wa.heap.size := RZ.out.lt
  refine (rCheck_any t g HA NA A hn hc nn nc n ac sl wa (HT.out.up B_w.out) (HG.out.up B_w.out)).mono ?_
  rintro e w1 ⟨rfl, hb⟩
  have hwb : wa.heap.size ≤ w1.heap.size := hb.size
  have B_w : Hid (Below w.heap.size w w1) := below_on2 B_w.out hb
  have B_wa : Hid (Below wa.heap.size wa w1) := hb
  clear hb
  obtain ⟨fe, hfe⟩ : ∃ fe, fitsN t g = fe := ⟨_, rfl⟩
  have HFE : Hid (∀ _ : Unit, fitsN t g = fe) := fun _ => hfe
  rw [hfe]
  clear hfe
  by_cases hf : fe = 0
  · subst hf
    by_cases hz : 0 ≤ z ∧ z ≤ 10000
    · have HER : Hid (∀ _ : Unit, runErr t g z = 0) := fun _ => runErr_ok (HFE.out ()) hz
      have HOK : Hid (OkTG t g) := fits_ok (HFE.out ())
      obtain ⟨z0, z1⟩ := hz
      obtain ⟨mz, rfl⟩ : ∃ mz : Nat, z = (mz : Int) := ⟨z.toNat, by omega⟩
      have HRR : Hid (∀ _ : Unit, runR t g (mz : Int) = genG t g mz) := fun _ => by rw [runR, if_pos (HER.out ()), Int.toNat_natCast]
      have RT1 : Hid (Row w1 w.heap.size 25 [.int .i64 t.states, .slice HA hn hc, .slice NA nn nc]) := (rowCells RT.out B_wa.out)
      have RG1 : Hid (Row w1 (w.heap.size + 1) 28 [.int .i64 g.w, .int .i64 g.h, .int .i64 g.edge, .slice A n ac]) := (rowCells RG.out B_wa.out)
      have RZ1 : Hid (Row w1 (w.heap.size + 1 + 1) 28 [.int .i64 0, .int .i64 0, .int .i64 0, .slice none 0 0]) := (rowCells RZ.out B_wa.out)
      have BW1 : Hid (Below w.heap.size w w1) := B_w
      have GA1 : Hid (GAt w1 g A n) := (HG.out.up B_w.out)
      clear B_w B_wa RT RG RZ HFE
      go_wp2_with fail
      go_loopg [9] mz (fun gg s9 wr => ∃ (k : Nat) (A' : Option Addr) (c' : Nat), k ≤ mz ∧ mz - k ≤ gg ∧ s9 = .int .i64 k ∧ w1.heap.size ≤ wr.heap.size ∧ Aside (Below w.heap.size w wr) ∧ Aside (Row wr w.heap.size 25 [.int .i64 t.states, .slice HA hn hc, .slice NA nn nc]) ∧ Aside (Row wr (w.heap.size + 1) 28 [.int .i64 g.w, .int .i64 g.h, .int .i64 g.edge, .slice A' n c']) ∧ Aside (Row wr (w.heap.size + 1 + 1) 28 [.int .i64 0, .int .i64 0, .int .i64 0, .slice none 0 0]) ∧ Aside (GAt wr (genG t g k) A' n) ∧ Aside (NewOr A' n b0 wa.heap.size))
      case atStart => exact ⟨0, A, ac, Nat.zero_le _, by omega, rfl, Nat.le_refl _, BW1.out, RT1.out, RG1.out, RZ1.out, GA1.out, HO.out _⟩
      case round =>
        obtain ⟨k, A', c', hkm, hgg, rfl, hsw, BW, RT, RG, RZ, GA, NO⟩ := hrel
        have hs9 : wa.heap.size ≤ wr.heap.size := by omega
        by_cases hlt : k < mz
        · have hlz : (k : Int) < (mz : Int) := by omega
          have p0 := RT.out.cell 0
          have p1 := RT.out.cell 1
          have p2 := RT.out.cell 2
          have pl := RT.out.lt
          simp only [List.getElem?_cons_zero, List.getElem?_cons_succ] at p0 p1 p2
          have q0 := RG.out.cell 0
          have q1 := RG.out.cell 1
          have q2 := RG.out.cell 2
          have q3 := RG.out.cell 3
          have ql := RG.out.lt
          simp only [List.getElem?_cons_zero, List.getElem?_cons_succ] at q0 q1 q2 q3
          go_wp2_with fail
          have HC := rNext_any t (genG t g k) HA NA A' hn hc nn nc n c' sl wr (HT.out.up BW.out) GA.out (HOK.out.gen k)
          rw [(genG_shape t g k).1, (genG_shape t g k).2.1, (genG_shape t g k).2.2.1] at HC
          refine HC.mono ?_
          clear HC
          rintro e W2 ⟨RA, rn, rc, he, hra, hno, hb⟩
          have HSH := genG_shape t g (k + 1)
          have he2 : e = .returned (.agg #[.int .i64 g.w, .int .i64 g.h, .int .i64 g.edge, .slice RA n rc]) := by
            rw [he, show nextG t (genG t g k) = genG t g (k + 1) from rfl, HSH.1, HSH.2.1, HSH.2.2.1, ← hra.cl, show nextG t (genG t g k) = genG t g (k + 1) from rfl, HSH.2.2.2, HL.out ()]
          have hrn : rn = n := by rw [← hra.cl, show nextG t (genG t g k) = genG t g (k + 1) from rfl, HSH.2.2.2, HL.out ()]
          subst hrn
          subst he2
          clear HSH he
          have RT2 : Hid (Row W2 w.heap.size 25 [.int .i64 t.states, .slice HA hn hc, .slice NA nn nc]) := rowCells RT.out hb
          have RG2 : Hid (Row W2 (w.heap.size + 1) 28 [.int .i64 g.w, .int .i64 g.h, .int .i64 g.edge, .slice A' rn c']) := rowCells RG.out hb
          have RZ2 : Hid (Row W2 (w.heap.size + 1 + 1) 28 [.int .i64 0, .int .i64 0, .int .i64 0, .slice none 0 0]) := rowCells RZ.out hb
          have BW2 : Hid (Below w.heap.size w W2) := below_on2 BW.out hb
          have GA2 : Hid (GAt W2 (genG t g (k + 1)) RA rn) := hra
          have NO2 : Hid (NewOr RA rn 0 wr.heap.size) := hno
          have hsz2 : wr.heap.size ≤ W2.heap.size := hb.size
          clear hb hra hno p0 p1 p2 q0 q1 q2 q3
          have q0 := RG2.out.cell 0
          have q1 := RG2.out.cell 1
          have q2 := RG2.out.cell 2
          have q3 := RG2.out.cell 3
          have ql := RG2.out.lt
          simp only [List.getElem?_cons_zero, List.getElem?_cons_succ] at q0 q1 q2 q3
          have qf0 := RG2.out.frozen 0
          have qf1 := RG2.out.frozen 1
          have qf2 := RG2.out.frozen 2
          have qf3 := RG2.out.frozen 3
          go_wp2
          go_roundg (mz - (k + 1))
          case measure => omega
          case rel =>
            refine ⟨k + 1, RA, rc, by omega, by omega, by go_num, ?_, ?_, ?_, ?_, ?_, ?_, ?_⟩
            · simp only [World.size_setCell]; omega
            · exact ((((BW2.out.setCell (p := ⟨(w.heap.size + 1), 0, none⟩) (by show _ ≤ (w.heap.size + 1); omega) _).setCell (p := ⟨(w.heap.size + 1), 1, none⟩) (by show _ ≤ (w.heap.size + 1); omega) _).setCell (p := ⟨(w.heap.size + 1), 2, none⟩) (by show _ ≤ (w.heap.size + 1); omega) _).setCell (p := ⟨(w.heap.size + 1), 3, none⟩) (by show _ ≤ (w.heap.size + 1); omega) _)
            · exact ((((RT2.out.far (p := ⟨(w.heap.size + 1), 0, none⟩) (by show w.heap.size ≠ (w.heap.size + 1); omega) _).far (p := ⟨(w.heap.size + 1), 1, none⟩) (by show w.heap.size ≠ (w.heap.size + 1); omega) _).far (p := ⟨(w.heap.size + 1), 2, none⟩) (by show w.heap.size ≠ (w.heap.size + 1); omega) _).far (p := ⟨(w.heap.size + 1), 3, none⟩) (by show w.heap.size ≠ (w.heap.size + 1); omega) _)
            · exact (((RG2.out.set 0 _).set 1 _).set 2 _).set 3 _
            · exact ((((RZ2.out.far (p := ⟨(w.heap.size + 1), 0, none⟩) (by show (w.heap.size + 1 + 1) ≠ (w.heap.size + 1); omega) _).far (p := ⟨(w.heap.size + 1), 1, none⟩) (by show (w.heap.size + 1 + 1) ≠ (w.heap.size + 1); omega) _).far (p := ⟨(w.heap.size + 1), 2, none⟩) (by show (w.heap.size + 1 + 1) ≠ (w.heap.size + 1); omega) _).far (p := ⟨(w.heap.size + 1), 3, none⟩) (by show (w.heap.size + 1 + 1) ≠ (w.heap.size + 1); omega) _)
            · exact ((((GA2.out.farSet NO2.out (p := ⟨(w.heap.size + 1), 0, none⟩) (by show 0 ≤ (w.heap.size + 1); omega) (by show (w.heap.size + 1) < _; omega) _).farSet NO2.out (p := ⟨(w.heap.size + 1), 1, none⟩) (by show 0 ≤ (w.heap.size + 1); omega) (by show (w.heap.size + 1) < _; omega) _).farSet NO2.out (p := ⟨(w.heap.size + 1), 2, none⟩) (by show 0 ≤ (w.heap.size + 1); omega) (by show (w.heap.size + 1) < _; omega) _).farSet NO2.out (p := ⟨(w.heap.size + 1), 3, none⟩) (by show 0 ≤ (w.heap.size + 1); omega) (by show (w.heap.size + 1) < _; omega) _)
            · exact NO2.out.mono (Nat.zero_le _) (by omega)
        · have hlz : ¬ (k : Int) < (mz : Int) := by omega
          obtain rfl : mz = k := by omega
          have q0 := RG.out.cell 0
          have q1 := RG.out.cell 1
          have q2 := RG.out.cell 2
          have q3 := RG.out.cell 3
          have ql := RG.out.lt
          simp only [List.getElem?_cons_zero, List.getElem?_cons_succ] at q0 q1 q2 q3
          have z0 := RZ.out.cell 0
          have z1 := RZ.out.cell 1
          have z2 := RZ.out.cell 2
          have z3 := RZ.out.cell 3
          have zl := RZ.out.lt
          simp only [List.getElem?_cons_zero, List.getElem?_cons_succ] at z0 z1 z2 z3
          have zf0 := RZ.out.frozen 0
          have zf1 := RZ.out.frozen 1
          have zf2 := RZ.out.frozen 2
          have zf3 := RZ.out.frozen 3
          go_wp2
          have Z9 : Row (World.setCell (World.setCell (World.setCell (World.setCell wr ⟨w.heap.size + 1 + 1, 0, none⟩ (.int .i64 g.w)) ⟨w.heap.size + 1 + 1, 1, none⟩ (.int .i64 g.h)) ⟨w.heap.size + 1 + 1, 2, none⟩ (.int .i64 g.edge)) ⟨w.heap.size + 1 + 1, 3, none⟩ (.slice A' n c')) (w.heap.size + 1 + 1) 28 [.int .i64 g.w, .int .i64 g.h, .int .i64 g.edge, .slice A' n c'] := (Row.set (Row.set (Row.set (Row.set RZ.out 0 (.int .i64 g.w)) 1 (.int .i64 g.h)) 2 (.int .i64 g.edge)) 3 (.slice A' n c'))
          have B9 : Hid (Below w.heap.size w (World.setCell (World.setCell (World.setCell (World.setCell wr ⟨w.heap.size + 1 + 1, 0, none⟩ (.int .i64 g.w)) ⟨w.heap.size + 1 + 1, 1, none⟩ (.int .i64 g.h)) ⟨w.heap.size + 1 + 1, 2, none⟩ (.int .i64 g.edge)) ⟨w.heap.size + 1 + 1, 3, none⟩ (.slice A' n c'))) := (Below.setCell (Below.setCell (Below.setCell (Below.setCell BW.out (p := ⟨w.heap.size + 1 + 1, 0, none⟩) (by show _ ≤ w.heap.size + 1 + 1; omega) (.int .i64 g.w)) (p := ⟨w.heap.size + 1 + 1, 1, none⟩) (by show _ ≤ w.heap.size + 1 + 1; omega) (.int .i64 g.h)) (p := ⟨w.heap.size + 1 + 1, 2, none⟩) (by show _ ≤ w.heap.size + 1 + 1; omega) (.int .i64 g.edge)) (p := ⟨w.heap.size + 1 + 1, 3, none⟩) (by show _ ≤ w.heap.size + 1 + 1; omega) (.slice A' n c'))
          have d0 := Z9.cell 0
          have d1 := Z9.cell 1
          have d2 := Z9.cell 2
          have d3 := Z9.cell 3
          simp only [List.getElem?_cons_zero, List.getElem?_cons_succ] at d0 d1 d2 d3
          clear Z9
          refine bodyPost_ret (v := .tuple #[.agg #[.int .i64 g.w, .int .i64 g.h, .int .i64 g.edge, .slice A' n c'], .int .i64 (0)]) (by simp [results, Try.results15, go_sem, d0, d1, d2, d3]) rfl ?_
          show GPostN _ _ _ _ _ _
          rw [HER.out (), HRR.out ()]
          exact ⟨A', n, c', by rw [(genG_shape t g mz).1, (genG_shape t g mz).2.1, (genG_shape t g mz).2.2.1], (GAt.farSet (GAt.farSet (GAt.farSet (GAt.farSet GA.out NO.out (p := ⟨(w.heap.size + 1 + 1), 0, none⟩) (by show _ ≤ (w.heap.size + 1 + 1); omega) (by show (w.heap.size + 1 + 1) < _; omega) _) NO.out (p := ⟨(w.heap.size + 1 + 1), 1, none⟩) (by show _ ≤ (w.heap.size + 1 + 1); omega) (by show (w.heap.size + 1 + 1) < _; omega) _) NO.out (p := ⟨(w.heap.size + 1 + 1), 2, none⟩) (by show _ ≤ (w.heap.size + 1 + 1); omega) (by show (w.heap.size + 1 + 1) < _; omega) _) NO.out (p := ⟨(w.heap.size + 1 + 1), 3, none⟩) (by show _ ≤ (w.heap.size + 1 + 1); omega) (by show (w.heap.size + 1 + 1) < _; omega) _), NO.out.mono (Nat.le_refl _) (by omega), B9.out⟩
    · have HER : Hid (∀ _ : Unit, runErr t g z = 2) := fun _ => runErr_out (HFE.out ()) hz
      clear HFE
      have zR : Hid (Row w1 (w.heap.size + 1 + 1) 28 [.int .i64 0, .int .i64 0, .int .i64 0, .slice none 0 0]) := (rowCells RZ.out B_wa.out)
      have z0 := zR.out.cell 0
      have z1 := zR.out.cell 1
      have z2 := zR.out.cell 2
      have z3 := zR.out.cell 3
      have zl := zR.out.lt
      simp only [List.getElem?_cons_zero, List.getElem?_cons_succ] at z0 z1 z2 z3
      clear zR
      have zf0 := (show Row _ _ _ _ from (rowCells RZ.out B_wa.out)).frozen 0
      have zf1 := (show Row _ _ _ _ from (rowCells RZ.out B_wa.out)).frozen 1
      have zf2 := (show Row _ _ _ _ from (rowCells RZ.out B_wa.out)).frozen 2
      have zf3 := (show Row _ _ _ _ from (rowCells RZ.out B_wa.out)).frozen 3
      by_cases hz0 : z < 0
      · clear hz
        go_wp2
        have Z9 : Row (World.setCell (World.setCell (World.setCell (World.setCell w1 ⟨w.heap.size + 1 + 1, 0, none⟩ (.int .i64 0)) ⟨w.heap.size + 1 + 1, 1, none⟩ (.int .i64 0)) ⟨w.heap.size + 1 + 1, 2, none⟩ (.int .i64 0)) ⟨w.heap.size + 1 + 1, 3, none⟩ (.slice none 0 0)) (w.heap.size + 1 + 1) 28 [.int .i64 0, .int .i64 0, .int .i64 0, .slice none 0 0] := (Row.set (Row.set (Row.set (Row.set (rowCells RZ.out B_wa.out) 0 (.int .i64 0)) 1 (.int .i64 0)) 2 (.int .i64 0)) 3 (.slice none 0 0))
        have B9 : Hid (Below w.heap.size w (World.setCell (World.setCell (World.setCell (World.setCell w1 ⟨w.heap.size + 1 + 1, 0, none⟩ (.int .i64 0)) ⟨w.heap.size + 1 + 1, 1, none⟩ (.int .i64 0)) ⟨w.heap.size + 1 + 1, 2, none⟩ (.int .i64 0)) ⟨w.heap.size + 1 + 1, 3, none⟩ (.slice none 0 0))) := (Below.setCell (Below.setCell (Below.setCell (Below.setCell B_w.out (p := ⟨w.heap.size + 1 + 1, 0, none⟩) (by show _ ≤ w.heap.size + 1 + 1; omega) (.int .i64 0)) (p := ⟨w.heap.size + 1 + 1, 1, none⟩) (by show _ ≤ w.heap.size + 1 + 1; omega) (.int .i64 0)) (p := ⟨w.heap.size + 1 + 1, 2, none⟩) (by show _ ≤ w.heap.size + 1 + 1; omega) (.int .i64 0)) (p := ⟨w.heap.size + 1 + 1, 3, none⟩) (by show _ ≤ w.heap.size + 1 + 1; omega) (.slice none 0 0))
        have d0 := Z9.cell 0
        have d1 := Z9.cell 1
        have d2 := Z9.cell 2
        have d3 := Z9.cell 3
        simp only [List.getElem?_cons_zero, List.getElem?_cons_succ] at d0 d1 d2 d3
        clear Z9
        refine bodyPost_ret (v := .tuple #[.agg #[.int .i64 0, .int .i64 0, .int .i64 0, .slice none 0 0], .int .i64 (2)]) (by simp [results, Try.results15, go_sem, d0, d1, d2, d3]) rfl ?_
        exact gpostN_err (runR_err (HER.out ()) (by decide)) (HER.out ()) B9.out
      · have hz1 : z > 10000 := by omega
        clear hz
        go_wp2
        have Z9 : Row (World.setCell (World.setCell (World.setCell (World.setCell w1 ⟨w.heap.size + 1 + 1, 0, none⟩ (.int .i64 0)) ⟨w.heap.size + 1 + 1, 1, none⟩ (.int .i64 0)) ⟨w.heap.size + 1 + 1, 2, none⟩ (.int .i64 0)) ⟨w.heap.size + 1 + 1, 3, none⟩ (.slice none 0 0)) (w.heap.size + 1 + 1) 28 [.int .i64 0, .int .i64 0, .int .i64 0, .slice none 0 0] := (Row.set (Row.set (Row.set (Row.set (rowCells RZ.out B_wa.out) 0 (.int .i64 0)) 1 (.int .i64 0)) 2 (.int .i64 0)) 3 (.slice none 0 0))
        have B9 : Hid (Below w.heap.size w (World.setCell (World.setCell (World.setCell (World.setCell w1 ⟨w.heap.size + 1 + 1, 0, none⟩ (.int .i64 0)) ⟨w.heap.size + 1 + 1, 1, none⟩ (.int .i64 0)) ⟨w.heap.size + 1 + 1, 2, none⟩ (.int .i64 0)) ⟨w.heap.size + 1 + 1, 3, none⟩ (.slice none 0 0))) := (Below.setCell (Below.setCell (Below.setCell (Below.setCell B_w.out (p := ⟨w.heap.size + 1 + 1, 0, none⟩) (by show _ ≤ w.heap.size + 1 + 1; omega) (.int .i64 0)) (p := ⟨w.heap.size + 1 + 1, 1, none⟩) (by show _ ≤ w.heap.size + 1 + 1; omega) (.int .i64 0)) (p := ⟨w.heap.size + 1 + 1, 2, none⟩) (by show _ ≤ w.heap.size + 1 + 1; omega) (.int .i64 0)) (p := ⟨w.heap.size + 1 + 1, 3, none⟩) (by show _ ≤ w.heap.size + 1 + 1; omega) (.slice none 0 0))
        have d0 := Z9.cell 0
        have d1 := Z9.cell 1
        have d2 := Z9.cell 2
        have d3 := Z9.cell 3
        simp only [List.getElem?_cons_zero, List.getElem?_cons_succ] at d0 d1 d2 d3
        clear Z9
        refine bodyPost_ret (v := .tuple #[.agg #[.int .i64 0, .int .i64 0, .int .i64 0, .slice none 0 0], .int .i64 (2)]) (by simp [results, Try.results15, go_sem, d0, d1, d2, d3]) rfl ?_
        exact gpostN_err (runR_err (HER.out ()) (by decide)) (HER.out ()) B9.out
  · have HER : Hid (∀ _ : Unit, runErr t g z = fe ∧ fe ≠ 0) := fun _ => ⟨by rw [← HFE.out ()]; exact runErr_fits z (by rw [HFE.out ()]; exact hf), hf⟩
    clear HFE
    have zR : Hid (Row w1 (w.heap.size + 1 + 1) 28 [.int .i64 0, .int .i64 0, .int .i64 0, .slice none 0 0]) := (rowCells RZ.out B_wa.out)
    have z0 := zR.out.cell 0
    have z1 := zR.out.cell 1
    have z2 := zR.out.cell 2
    have z3 := zR.out.cell 3
    have zl := zR.out.lt
    simp only [List.getElem?_cons_zero, List.getElem?_cons_succ] at z0 z1 z2 z3
    clear zR
    have zf0 := (show Row _ _ _ _ from (rowCells RZ.out B_wa.out)).frozen 0
    have zf1 := (show Row _ _ _ _ from (rowCells RZ.out B_wa.out)).frozen 1
    have zf2 := (show Row _ _ _ _ from (rowCells RZ.out B_wa.out)).frozen 2
    have zf3 := (show Row _ _ _ _ from (rowCells RZ.out B_wa.out)).frozen 3
    go_wp2
    have Z9 : Row (World.setCell (World.setCell (World.setCell (World.setCell w1 ⟨w.heap.size + 1 + 1, 0, none⟩ (.int .i64 0)) ⟨w.heap.size + 1 + 1, 1, none⟩ (.int .i64 0)) ⟨w.heap.size + 1 + 1, 2, none⟩ (.int .i64 0)) ⟨w.heap.size + 1 + 1, 3, none⟩ (.slice none 0 0)) (w.heap.size + 1 + 1) 28 [.int .i64 0, .int .i64 0, .int .i64 0, .slice none 0 0] := (Row.set (Row.set (Row.set (Row.set (rowCells RZ.out B_wa.out) 0 (.int .i64 0)) 1 (.int .i64 0)) 2 (.int .i64 0)) 3 (.slice none 0 0))
    have B9 : Hid (Below w.heap.size w (World.setCell (World.setCell (World.setCell (World.setCell w1 ⟨w.heap.size + 1 + 1, 0, none⟩ (.int .i64 0)) ⟨w.heap.size + 1 + 1, 1, none⟩ (.int .i64 0)) ⟨w.heap.size + 1 + 1, 2, none⟩ (.int .i64 0)) ⟨w.heap.size + 1 + 1, 3, none⟩ (.slice none 0 0))) := (Below.setCell (Below.setCell (Below.setCell (Below.setCell B_w.out (p := ⟨w.heap.size + 1 + 1, 0, none⟩) (by show _ ≤ w.heap.size + 1 + 1; omega) (.int .i64 0)) (p := ⟨w.heap.size + 1 + 1, 1, none⟩) (by show _ ≤ w.heap.size + 1 + 1; omega) (.int .i64 0)) (p := ⟨w.heap.size + 1 + 1, 2, none⟩) (by show _ ≤ w.heap.size + 1 + 1; omega) (.int .i64 0)) (p := ⟨w.heap.size + 1 + 1, 3, none⟩) (by show _ ≤ w.heap.size + 1 + 1; omega) (.slice none 0 0))
    have d0 := Z9.cell 0
    have d1 := Z9.cell 1
    have d2 := Z9.cell 2
    have d3 := Z9.cell 3
    simp only [List.getElem?_cons_zero, List.getElem?_cons_succ] at d0 d1 d2 d3
    clear Z9
    refine bodyPost_ret (v := .tuple #[.agg #[.int .i64 0, .int .i64 0, .int .i64 0, .slice none 0 0], .int .i64 (fe)]) (by simp [results, Try.results15, go_sem, d0, d1, d2, d3]) rfl ?_
    exact gpostN_err (runR_err (HER.out ()).1 (HER.out ()).2) (HER.out ()).1 B9.out
end Go.Proofs.Ytdkfaphclhaiaaa
