/-
  Plain: on a torus, moving and evolving can be exchanged. Nothing of the program stands here.
-/
import Derived.Test.YtdkfaphclhaiaaaNPlain
import Derived.Test.YtdkfaphclhaiaaaGRollP
import Derived.Test.YtdkfaphclhaiaaaNAwake
import Derived.Test.YtdkfaphclhaiaaaGRoll
import Derived.Test.YtdkfaphclhaiaaaNOpn
namespace Go.Proofs.Ytdkfaphclhaiaaa
open Go.RowKit
set_option linter.unusedSimpArgs false
set_option linter.unusedVariables false
/-- The cell at x, y of a torus. -/
def tor (w h : Int) (cs : List Int) (x y : Int) : Int := cs.getD (y % h * w + x % w).toNat 0
theorem atF_tor {x w : Int} (hw : 1 ≤ w) : atF x w 1 = x % w := by
  unfold atF
  split
  · rename_i h
    rw [Int.emod_eq_of_lt h.1 h.2]
  · rw [if_pos rfl]
theorem getF_tor {g : Grd} (h : rightG g = true) (he : g.edge = 1) (x y : Int) : getF g x y = tor g.w g.h g.cells x y := by
  obtain ⟨h1, _, _⟩ := rightG_parts h
  obtain ⟨⟨s1, _⟩, ⟨s3, _⟩, _⟩ := sizedF_parts h1
  have a1 := Int.emod_nonneg x (show g.w ≠ 0 by omega)
  have a2 := Int.emod_nonneg y (show g.h ≠ 0 by omega)
  unfold getF tor
  rw [if_pos h, he, atF_tor s1, atF_tor s3, if_neg (by omega)]
theorem tor_congr {w h : Int} {cs : List Int} {x y x' y' : Int} (hx : x % w = x' % w) (hy : y % h = y' % h) : tor w h cs x y = tor w h cs x' y' := by
  unfold tor
  rw [hx, hy]
/-- A moved torus. -/
theorem tor_scat {w h a b : Int} {cs : List Int} {n : Nat} (hw : 1 ≤ w) (hh : 1 ≤ h) (hn : (n : Int) = w * h) (x y : Int) : tor w h (scat w h a b cs n n) x y = tor w h cs (x - a) (y - b) := by
  have hx := mod_bd x w (by omega)
  have hy := mod_bd y h (by omega)
  have hp := place_bd hx hy
  obtain ⟨k, hk⟩ : ∃ k : Nat, y % h * w + x % w = (k : Int) := ⟨(y % h * w + x % w).toNat, by omega⟩
  unfold tor
  rw [hk, Int.toNat_natCast, scat_at _ _ _ _ _ _ _ _ (by omega)]
  have hb := src_bd (w := w) (h := h) (a := a) (b := b) (k := (k : Int)) hw hh
  rw [if_pos (by omega)]
  congr 2
  unfold srcI
  rw [← hk, (two_mod (h := 0) hx hw).1, (two_mod (h := 0) hx hw).2, Int.emod_sub_emod, Int.emod_sub_emod]
theorem nextTo_at (t : Tre) (g : Grd) (W n i : Nat) (h : i < n) : (nextTo t g W n).getD i 0 = nextAt t g ((i % W : Nat) : Int) ((i / W : Nat) : Int) := by
  rw [nextTo, List.getD_eq_getElem?_getD, List.getElem?_map, List.getElem?_range h]; rfl
/-- The next generation of a torus, at a place. -/
theorem tor_next {t : Tre} {g : Grd} (h : rightG g = true) (he : g.edge = 1) (x y : Int) :
    tor g.w g.h (nextG t g).cells x y = valueT t (t.hood.map (fun p => tor g.w g.h g.cells (x + p.x) (y + p.y))) := by
  obtain ⟨h1, h2, _⟩ := rightG_parts h
  obtain ⟨⟨s1, _⟩, ⟨s3, _⟩, _⟩ := sizedF_parts h1
  have hx := mod_bd x g.w (by omega)
  have hy := mod_bd y g.h (by omega)
  have hp := place_bd hx hy
  obtain ⟨W, hW⟩ : ∃ W : Nat, g.w = (W : Int) := ⟨g.w.toNat, by omega⟩
  obtain ⟨k, hk⟩ : ∃ k : Nat, y % g.h * g.w + x % g.w = (k : Int) := ⟨(y % g.h * g.w + x % g.w).toNat, by omega⟩
  have e1 : ((k % W : Nat) : Int) = x % g.w := by rw [Int.natCast_emod, ← hk, ← hW, (two_mod (h := 0) hx s1).1]
  have e2 : ((k / W : Nat) : Int) = y % g.h := by rw [Int.natCast_ediv, ← hk, ← hW, (two_mod (h := 0) hx s1).2]
  show (nextTo t g g.w.toNat g.cells.length).getD (y % g.h * g.w + x % g.w).toNat 0 = _
  rw [hk, Int.toNat_natCast, nextTo_at _ _ _ _ _ (by omega), show g.w.toNat = W by omega, e1, e2]
  unfold nextAt hoodIn
  congr 1
  refine List.map_congr_left (fun p _ => ?_)
  rw [getF_tor h he]
  exact tor_congr (by rw [Int.emod_add_emod]) (by rw [Int.emod_add_emod])
/-- A list of cells is told by the torus. -/
theorem tor_ext {w h : Int} {cs ds : List Int} (hw : 1 ≤ w) (hh : 1 ≤ h) (hc : (cs.length : Int) = w * h) (hd : (ds.length : Int) = w * h) (he : ∀ x y, tor w h cs x y = tor w h ds x y) : cs = ds := by
  refine gl_ext (by omega) (fun k hk => ?_)
  have hkb : 0 ≤ (k : Int) ∧ (k : Int) < w * h := by omega
  have hq := div_in hw hkb
  have hx := mod_bd (k : Int) w (by omega)
  have := he ((k : Int) % w) ((k : Int) / w)
  unfold tor at this
  rw [Int.emod_emod, Int.emod_eq_of_lt hq.1 hq.2, two_back, Int.toNat_natCast] at this
  exact this
theorem roll_next {t : Tre} {g : Grd} (ho : OkTG t g) (he : g.edge = 1) (dx dy : Int) : rollR (nextG t g) dx dy = nextG t (rollR g dx dy) ∧ rollErr (nextG t g) = 0 ∧ rollErr g = 0 ∧ rightG (rollR g dx dy) = true := by
  obtain ⟨h1, h2, h3⟩ := rightG_parts ho.rg
  obtain ⟨⟨s1, _⟩, ⟨s3, _⟩, _⟩ := sizedF_parts h1
  have hE : rollErr g = 0 := by rw [rollErr, if_pos ⟨ho.rg, he⟩]
  have hE2 : rollErr (nextG t g) = 0 := by rw [rollErr, if_pos ⟨ho.next.rg, he⟩]
  have hln : (nextG t g).cells.length = g.cells.length := nextTo_length _ _ _ _
  have r1 : rollR g dx dy = ⟨g.w, g.h, g.edge, scat g.w g.h (dx % g.w) (dy % g.h) g.cells g.cells.length g.cells.length⟩ := by
    rw [rollR, if_pos hE, scat_all s1 s3 h2]
  have r2 : rollR (nextG t g) dx dy = ⟨g.w, g.h, g.edge, scat g.w g.h (dx % g.w) (dy % g.h) (nextG t g).cells g.cells.length g.cells.length⟩ := by
    rw [rollR, if_pos hE2, scat_all s1 s3 h2]
    rfl
  have hR : rightG (rollR g dx dy) = true := by
    rw [r1]
    unfold rightG
    rw [h1, decide_eq_true (show ((scat g.w g.h (dx % g.w) (dy % g.h) g.cells g.cells.length g.cells.length).length : Int) = g.w * g.h by rw [scat_length]; exact h2), Bool.true_and, Bool.true_and, List.all_eq_true]
    intro z hz
    obtain ⟨i, hi, rfl⟩ := List.mem_iff_getElem.1 hz
    rw [scat_length] at hi
    have h9 := scat_at g.w g.h (dx % g.w) (dy % g.h) g.cells g.cells.length g.cells.length i hi
    rw [List.getD_eq_getElem?_getD, List.getElem?_eq_getElem (by rw [scat_length]; exact hi), Option.getD_some] at h9
    rw [h9]
    have hb := src_bd (w := g.w) (h := g.h) (a := dx % g.w) (b := dy % g.h) (k := (i : Int)) s1 s3
    rw [if_pos (by omega)]
    have := stateOk_at h3 (k := (srcI g.w g.h (dx % g.w) (dy % g.h) (i : Int)).toNat) (by omega)
    generalize g.cells.getD (srcI g.w g.h (dx % g.w) (dy % g.h) (i : Int)).toNat 0 = z at this ⊢
    simp [stateOk]; omega
  refine ⟨?_, hE2, hE, hR⟩
  have hR2 := hR
  rw [r1] at hR2
  rw [r2, r1]
  have hc : scat g.w g.h (dx % g.w) (dy % g.h) (nextG t g).cells g.cells.length g.cells.length = (nextG t ⟨g.w, g.h, g.edge, scat g.w g.h (dx % g.w) (dy % g.h) g.cells g.cells.length g.cells.length⟩).cells := by
    refine tor_ext (w := g.w) (h := g.h) s1 s3 (by rw [scat_length]; exact h2) (by rw [show (nextG t _).cells.length = _ from nextTo_length _ _ _ _, scat_length]; exact h2) (fun x y => ?_)
    rw [tor_scat s1 s3 h2, tor_next ho.rg he]
    refine Eq.trans ?_ (tor_next (g := ⟨g.w, g.h, g.edge, scat g.w g.h (dx % g.w) (dy % g.h) g.cells g.cells.length g.cells.length⟩) hR2 he x y).symm
    congr 1
    refine List.map_congr_left (fun p _ => ?_)
    show _ = tor g.w g.h (scat _ _ _ _ _ _ _) _ _
    rw [tor_scat s1 s3 h2]
    congr 1 <;> omega
  rw [hc]
  rfl
end Go.Proofs.Ytdkfaphclhaiaaa

/-
  The law GridstepRolls: what it does.
-/
namespace Go.Proofs.Ytdkfaphclhaiaaa
open Go.RowKit
set_option linter.unusedSimpArgs false
set_option linter.unusedVariables false
theorem roll_ok {t : Tre} {g : Grd} (ho : OkTG t g) (he : g.edge = 1) (dx dy : Int) : OkTG t (rollR g dx dy) := by
  obtain ⟨_, _, hE, hR⟩ := roll_next ho he dx dy
  refine ⟨ho.rt, hR, ?_⟩
  obtain ⟨h1, h2, h3⟩ := rightG_parts ho.rg
  obtain ⟨⟨s1, _⟩, ⟨s3, _⟩, _⟩ := sizedF_parts h1
  have r1 : rollR g dx dy = ⟨g.w, g.h, g.edge, scat g.w g.h (dx % g.w) (dy % g.h) g.cells g.cells.length g.cells.length⟩ := by
    rw [rollR, if_pos hE, scat_all s1 s3 h2]
  rw [r1, List.all_eq_true]
  intro z hz
  obtain ⟨i, hi, rfl⟩ := List.mem_iff_getElem.1 hz
  rw [scat_length] at hi
  have h9 := scat_at g.w g.h (dx % g.w) (dy % g.h) g.cells g.cells.length g.cells.length i hi
  rw [List.getD_eq_getElem?_getD, List.getElem?_eq_getElem (by rw [scat_length]; exact hi), Option.getD_some] at h9
  rw [h9]
  have hb := src_bd (w := g.w) (h := g.h) (a := dx % g.w) (b := dy % g.h) (k := (i : Int)) s1 s3
  rw [if_pos (by omega)]
  have := ltStates_at ho.lt (k := (srcI g.w g.h (dx % g.w) (dy % g.h) (i : Int)).toNat) (by omega)
  exact decide_eq_true this
set_option maxRecDepth 100000 in
set_option maxHeartbeats 4000000 in
theorem lawRolls_any (t : Tre) (g : Grd) (v : Nat) (hv : v ≤ 255) (HA NA A : Option Addr) (hn hc nn nc n ac : Nat) (sl : List Sl) (w : World) (ht : TAt w t HA NA hn nn sl) (hg : GAt w g A n) :
    Calls Try.prog 8 #[.agg #[.int .i64 t.states, .slice HA hn hc, .slice NA nn nc], .agg #[.int .i64 g.w, .int .i64 g.h, .int .i64 g.edge, .slice A n ac], .int .u8 (v : Int)] w fun e w' => e = .returned (.bool true) ∧ Below w.heap.size w w' := by
  have HT : Hid (TAt w t HA NA hn nn sl) := ht
  have HG : Hid (GAt w g A n) := hg
  have HO : Hid (∀ B, NewOr A n w.heap.size B) := fun B => hg.cells.newOr
  clear ht hg
  go_enter Try.func8, Try.ntmps8
  go_wp2_with fail
  have RT : Hid (Row (World.alloc (World.alloc w (.cells #[.int .i64 t.states, .slice HA hn hc, .slice NA nn nc] 25)) (.cells #[.int .i64 g.w, .int .i64 g.h, .int .i64 g.edge, .slice A n ac] 28)) (w.heap.size) 25 [.int .i64 t.states, .slice HA hn hc, .slice NA nn nc]) := by
    have h0 := Row.new w 25 [.int .i64 t.states, .slice HA hn hc, .slice NA nn nc]
    try simp only [World.size_alloc] at h0
    exact (h0.alloc _)
  have RG : Hid (Row (World.alloc (World.alloc w (.cells #[.int .i64 t.states, .slice HA hn hc, .slice NA nn nc] 25)) (.cells #[.int .i64 g.w, .int .i64 g.h, .int .i64 g.edge, .slice A n ac] 28)) (w.heap.size + 1) 28 [.int .i64 g.w, .int .i64 g.h, .int .i64 g.edge, .slice A n ac]) := by
    have h0 := Row.new (World.alloc w (.cells #[.int .i64 t.states, .slice HA hn hc, .slice NA nn nc] 25)) 28 [.int .i64 g.w, .int .i64 g.h, .int .i64 g.edge, .slice A n ac]
    try simp only [World.size_alloc] at h0
    exact h0
  have hgr9 : Below w.heap.size w (World.alloc (World.alloc w (.cells #[.int .i64 t.states, .slice HA hn hc, .slice NA nn nc] 25)) (.cells #[.int .i64 g.w, .int .i64 g.h, .int .i64 g.edge, .slice A n ac] 28)) := by go_grown
  have B_w : Hid (Below w.heap.size w (World.alloc (World.alloc w (.cells #[.int .i64 t.states, .slice HA hn hc, .slice NA nn nc] 25)) (.cells #[.int .i64 g.w, .int .i64 g.h, .int .i64 g.edge, .slice A n ac] 28))) := hgr9
  clear hgr9
  revert RT RG B_w
  generalize (World.alloc (World.alloc w (.cells #[.int .i64 t.states, .slice HA hn hc, .slice NA nn nc] 25)) (.cells #[.int .i64 g.w, .int .i64 g.h, .int .i64 g.edge, .slice A n ac] 28)) = wa
  intro RT RG B_w
  refine (smallN_any t g HA NA A hn hc nn nc n ac sl wa (HT.out.up B_w.out) (HG.out.up B_w.out)).mono ?_
  rintro e w1 ⟨rfl, hb⟩
  have B_w : Hid (Below w.heap.size w w1) := below_on2 B_w.out hb
  have B_wa : Hid (Below wa.heap.size wa w1) := hb
  clear hb
  cases hsm : smallN t g
  · clear hsm
    go_wp2_with fail
    refine (awake_any _).mono ?_
    rintro e w9 ⟨rfl, hb⟩
    have HBE : Hid (Below w.heap.size w w9) := below_on2 B_w.out hb
    clear hb
    go_wp2
    go_ret
    exact ⟨rfl, HBE.out⟩
  clear hsm
  have qR : Hid (Row w1 (w.heap.size + 1) 28 [.int .i64 g.w, .int .i64 g.h, .int .i64 g.edge, .slice A n ac]) := (rowCells RG.out B_wa.out)
  have q0 := qR.out.cell 0
  have q1 := qR.out.cell 1
  have q2 := qR.out.cell 2
  have q3 := qR.out.cell 3
  have ql := qR.out.lt
  simp only [List.getElem?_cons_zero, List.getElem?_cons_succ] at q0 q1 q2 q3
  clear qR
  by_cases he : g.edge = 1
  · have HE : Hid (∀ _ : Unit, g.edge = 1) := fun _ => he
    obtain ⟨dx, hdx⟩ : ∃ d, v % 16 = d := ⟨_, rfl⟩
    obtain ⟨dy, hdy⟩ : ∃ d, v / 16 = d := ⟨_, rfl⟩
    have hdx1 : Int.tmod (v : Int) 16 = (dx : Int) := by rw [Int.tmod_eq_emod_of_nonneg (by omega)]; omega
    have hdy1 : Int.tdiv (v : Int) 16 = (dy : Int) := by rw [Int.tdiv_eq_ediv_of_nonneg (by omega)]; omega
    have hdx2 : dx ≤ 255 := by omega
    have hdy2 : dy ≤ 255 := by omega
    obtain ⟨fe, hfe⟩ : ∃ fe, fitsN t g = fe := ⟨_, rfl⟩
    have HFE : Hid (∀ _ : Unit, fitsN t g = fe) := fun _ => hfe
    obtain ⟨x, hx⟩ : ∃ x, runR t g 1 = x := ⟨_, rfl⟩
    have HR1 : Hid (∀ _ : Unit, runR t g 1 = x ∧ runErr t g 1 = fe) := fun _ => ⟨hx, (runErr_in (t := t) (g := g) (m := 1) (by omega)).trans hfe⟩
    obtain ⟨c, hc9⟩ : ∃ c, rollR g (dx : Int) (dy : Int) = c := ⟨_, rfl⟩
    obtain ⟨bb, hbb⟩ : ∃ bb, rollR x (dx : Int) (dy : Int) = bb := ⟨_, rfl⟩
    have HRB : Hid (fe = 0 → (rollR x (dx : Int) (dy : Int) = bb ∧ rollErr x = 0) ∧ (rollR g (dx : Int) (dy : Int) = c ∧ rollErr g = 0) ∧ (runR t c 1 = bb ∧ runErr t c 1 = 0)) := fun h0 => by
      have ho := fits_ok (hfe.trans h0)
      obtain ⟨r1, r2, r3, r4⟩ := roll_next ho he (dx : Int) (dy : Int)
      have hx2 : x = nextG t g := hx.symm.trans (runR_1 (hfe.trans h0))
      have hoc : OkTG t c := by rw [← hc9]; exact roll_ok ho he (dx : Int) (dy : Int)
      refine ⟨⟨hbb, by rw [hx2]; exact r2⟩, ⟨hc9, r3⟩, ?_, runErr_1 (ok_fits hoc)⟩
      rw [runR_1 (ok_fits hoc), ← hc9, ← r1, ← hx2]; exact hbb
    clear hdx hdy hfe hx hc9 hbb
    rw [he] at q2
    have kR : Hid (Row w1 (w.heap.size) 25 [.int .i64 t.states, .slice HA hn hc, .slice NA nn nc]) := (rowCells RT.out B_wa.out)
    have k0 := kR.out.cell 0
    have k1 := kR.out.cell 1
    have k2 := kR.out.cell 2
    have kl := kR.out.lt
    simp only [List.getElem?_cons_zero, List.getElem?_cons_succ] at k0 k1 k2
    clear kR
    clear he
    go_wp2_with fail
    have HC := gStep_any t g HA NA A hn hc nn nc n ac sl w1 (HT.out.up B_w.out) (HG.out.up B_w.out) w1.heap.size (fun B => ((HG.out.up B_w.out)).cells.newOr) (Nat.le_refl _)
    rw [(HR1.out ()).1, (HR1.out ()).2, HE.out ()] at HC
    refine HC.mono ?_
    clear HC
    rintro e w2 ⟨XA, Xn, Xc, rfl, hga, hno, hb⟩
    have HX : Hid (GAt w2 x XA Xn) := hga
    clear hga hno
    have B_w : Hid (Below w.heap.size w w2) := below_on2 B_w.out hb
    have B_wa : Hid (Below wa.heap.size wa w2) := below_on2 B_wa.out hb
    have B_w1 : Hid (Below w1.heap.size w1 w2) := hb
    clear q0 q1 q2 q3 ql k0 k1 k2 kl
    clear hb
    by_cases hf : fe = 0
    · subst hf
      have HRZ : Hid (∀ _ : Unit, (rollR x (dx : Int) (dy : Int) = bb ∧ rollErr x = 0) ∧ (rollR g (dx : Int) (dy : Int) = c ∧ rollErr g = 0) ∧ (runR t c 1 = bb ∧ runErr t c 1 = 0)) := fun _ => HRB.out rfl
      clear HRB
      go_wp2_with fail
      have RX : Hid (Row (World.alloc w2 (.cells #[.int .i64 x.w, .int .i64 x.h, .int .i64 x.edge, .slice XA Xn Xc] 28)) (w2.heap.size) 28 [.int .i64 x.w, .int .i64 x.h, .int .i64 x.edge, .slice XA Xn Xc]) := by
        have h0 := Row.new w2 28 [.int .i64 x.w, .int .i64 x.h, .int .i64 x.edge, .slice XA Xn Xc]
        try simp only [World.size_alloc] at h0
        exact h0
      have hgr9 : Below w2.heap.size w2 (World.alloc w2 (.cells #[.int .i64 x.w, .int .i64 x.h, .int .i64 x.edge, .slice XA Xn Xc] 28)) := by go_grown
      have B_w : Hid (Below w.heap.size w (World.alloc w2 (.cells #[.int .i64 x.w, .int .i64 x.h, .int .i64 x.edge, .slice XA Xn Xc] 28))) := below_on2 B_w.out hgr9
      have B_wa : Hid (Below wa.heap.size wa (World.alloc w2 (.cells #[.int .i64 x.w, .int .i64 x.h, .int .i64 x.edge, .slice XA Xn Xc] 28))) := below_on2 B_wa.out hgr9
      have B_w1 : Hid (Below w1.heap.size w1 (World.alloc w2 (.cells #[.int .i64 x.w, .int .i64 x.h, .int .i64 x.edge, .slice XA Xn Xc] 28))) := below_on2 B_w1.out hgr9
      have B_w2 : Hid (Below w2.heap.size w2 (World.alloc w2 (.cells #[.int .i64 x.w, .int .i64 x.h, .int .i64 x.edge, .slice XA Xn Xc] 28))) := hgr9
      clear hgr9
      revert RX B_w B_wa B_w1 B_w2
      generalize (World.alloc w2 (.cells #[.int .i64 x.w, .int .i64 x.h, .int .i64 x.edge, .slice XA Xn Xc] 28)) = wb
      intro RX B_w B_wa B_w1 B_w2
      have HC := gRoll_any x XA Xn Xc (dx : Int) (dy : Int) wb (HX.out.up B_w2.out)
      rw [(HRZ.out ()).1.1, (HRZ.out ()).1.2] at HC
      refine HC.mono ?_
      clear HC
      rintro e w3 ⟨BA, Bn, Bc, rfl, hga, hb⟩
      have HB : Hid (GAt w3 bb BA Bn) := hga
      clear hga
      have B_w : Hid (Below w.heap.size w w3) := below_on2 B_w.out hb
      have B_wa : Hid (Below wa.heap.size wa w3) := below_on2 B_wa.out hb
      have B_w1 : Hid (Below w1.heap.size w1 w3) := below_on2 B_w1.out hb
      have B_w2 : Hid (Below w2.heap.size w2 w3) := below_on2 B_w2.out hb
      have B_wb : Hid (Below wb.heap.size wb w3) := hb
      clear hb
      have qR : Hid (Row w3 (w.heap.size + 1) 28 [.int .i64 g.w, .int .i64 g.h, .int .i64 g.edge, .slice A n ac]) := (rowCells RG.out B_wa.out)
      have q0 := qR.out.cell 0
      have q1 := qR.out.cell 1
      have q2 := qR.out.cell 2
      have q3 := qR.out.cell 3
      have ql := qR.out.lt
      simp only [List.getElem?_cons_zero, List.getElem?_cons_succ] at q0 q1 q2 q3
      clear qR
      go_wp2_with fail
      have RB : Hid (Row (World.alloc w3 (.cells #[.int .i64 bb.w, .int .i64 bb.h, .int .i64 bb.edge, .slice BA Bn Bc] 28)) (w3.heap.size) 28 [.int .i64 bb.w, .int .i64 bb.h, .int .i64 bb.edge, .slice BA Bn Bc]) := by
        have h0 := Row.new w3 28 [.int .i64 bb.w, .int .i64 bb.h, .int .i64 bb.edge, .slice BA Bn Bc]
        try simp only [World.size_alloc] at h0
        exact h0
      have hgr9 : Below w3.heap.size w3 (World.alloc w3 (.cells #[.int .i64 bb.w, .int .i64 bb.h, .int .i64 bb.edge, .slice BA Bn Bc] 28)) := by go_grown
      have B_w : Hid (Below w.heap.size w (World.alloc w3 (.cells #[.int .i64 bb.w, .int .i64 bb.h, .int .i64 bb.edge, .slice BA Bn Bc] 28))) := below_on2 B_w.out hgr9
      have B_wa : Hid (Below wa.heap.size wa (World.alloc w3 (.cells #[.int .i64 bb.w, .int .i64 bb.h, .int .i64 bb.edge, .slice BA Bn Bc] 28))) := below_on2 B_wa.out hgr9
      have B_w1 : Hid (Below w1.heap.size w1 (World.alloc w3 (.cells #[.int .i64 bb.w, .int .i64 bb.h, .int .i64 bb.edge, .slice BA Bn Bc] 28))) := below_on2 B_w1.out hgr9
      have B_w2 : Hid (Below w2.heap.size w2 (World.alloc w3 (.cells #[.int .i64 bb.w, .int .i64 bb.h, .int .i64 bb.edge, .slice BA Bn Bc] 28))) := below_on2 B_w2.out hgr9
      have B_wb : Hid (Below wb.heap.size wb (World.alloc w3 (.cells #[.int .i64 bb.w, .int .i64 bb.h, .int .i64 bb.edge, .slice BA Bn Bc] 28))) := below_on2 B_wb.out hgr9
      have B_w3 : Hid (Below w3.heap.size w3 (World.alloc w3 (.cells #[.int .i64 bb.w, .int .i64 bb.h, .int .i64 bb.edge, .slice BA Bn Bc] 28))) := hgr9
      clear hgr9
      clear q0 q1 q2 q3 ql
      revert RB B_w B_wa B_w1 B_w2 B_wb B_w3
      generalize (World.alloc w3 (.cells #[.int .i64 bb.w, .int .i64 bb.h, .int .i64 bb.edge, .slice BA Bn Bc] 28)) = wc
      intro RB B_w B_wa B_w1 B_w2 B_wb B_w3
      have HC := gRoll_any g A n ac (dx : Int) (dy : Int) wc (HG.out.up B_w.out)
      rw [(HRZ.out ()).2.1.1, (HRZ.out ()).2.1.2] at HC
      refine HC.mono ?_
      clear HC
      rintro e w4 ⟨CA, Cn, Cc, rfl, hga, hb⟩
      have HC4 : Hid (GAt w4 c CA Cn) := hga
      clear hga
      have B_w : Hid (Below w.heap.size w w4) := below_on2 B_w.out hb
      have B_wa : Hid (Below wa.heap.size wa w4) := below_on2 B_wa.out hb
      have B_w1 : Hid (Below w1.heap.size w1 w4) := below_on2 B_w1.out hb
      have B_w2 : Hid (Below w2.heap.size w2 w4) := below_on2 B_w2.out hb
      have B_wb : Hid (Below wb.heap.size wb w4) := below_on2 B_wb.out hb
      have B_w3 : Hid (Below w3.heap.size w3 w4) := below_on2 B_w3.out hb
      have B_wc : Hid (Below wc.heap.size wc w4) := hb
      clear hb
      have kR : Hid (Row w4 (w.heap.size) 25 [.int .i64 t.states, .slice HA hn hc, .slice NA nn nc]) := (rowCells RT.out B_wa.out)
      have k0 := kR.out.cell 0
      have k1 := kR.out.cell 1
      have k2 := kR.out.cell 2
      have kl := kR.out.lt
      simp only [List.getElem?_cons_zero, List.getElem?_cons_succ] at k0 k1 k2
      clear kR
      go_wp2_with fail
      have RC : Hid (Row (World.alloc w4 (.cells #[.int .i64 c.w, .int .i64 c.h, .int .i64 c.edge, .slice CA Cn Cc] 28)) (w4.heap.size) 28 [.int .i64 c.w, .int .i64 c.h, .int .i64 c.edge, .slice CA Cn Cc]) := by
        have h0 := Row.new w4 28 [.int .i64 c.w, .int .i64 c.h, .int .i64 c.edge, .slice CA Cn Cc]
        try simp only [World.size_alloc] at h0
        exact h0
      have hgr9 : Below w4.heap.size w4 (World.alloc w4 (.cells #[.int .i64 c.w, .int .i64 c.h, .int .i64 c.edge, .slice CA Cn Cc] 28)) := by go_grown
      have B_w : Hid (Below w.heap.size w (World.alloc w4 (.cells #[.int .i64 c.w, .int .i64 c.h, .int .i64 c.edge, .slice CA Cn Cc] 28))) := below_on2 B_w.out hgr9
      have B_wa : Hid (Below wa.heap.size wa (World.alloc w4 (.cells #[.int .i64 c.w, .int .i64 c.h, .int .i64 c.edge, .slice CA Cn Cc] 28))) := below_on2 B_wa.out hgr9
      have B_w1 : Hid (Below w1.heap.size w1 (World.alloc w4 (.cells #[.int .i64 c.w, .int .i64 c.h, .int .i64 c.edge, .slice CA Cn Cc] 28))) := below_on2 B_w1.out hgr9
      have B_w2 : Hid (Below w2.heap.size w2 (World.alloc w4 (.cells #[.int .i64 c.w, .int .i64 c.h, .int .i64 c.edge, .slice CA Cn Cc] 28))) := below_on2 B_w2.out hgr9
      have B_wb : Hid (Below wb.heap.size wb (World.alloc w4 (.cells #[.int .i64 c.w, .int .i64 c.h, .int .i64 c.edge, .slice CA Cn Cc] 28))) := below_on2 B_wb.out hgr9
      have B_w3 : Hid (Below w3.heap.size w3 (World.alloc w4 (.cells #[.int .i64 c.w, .int .i64 c.h, .int .i64 c.edge, .slice CA Cn Cc] 28))) := below_on2 B_w3.out hgr9
      have B_wc : Hid (Below wc.heap.size wc (World.alloc w4 (.cells #[.int .i64 c.w, .int .i64 c.h, .int .i64 c.edge, .slice CA Cn Cc] 28))) := below_on2 B_wc.out hgr9
      have B_w4 : Hid (Below w4.heap.size w4 (World.alloc w4 (.cells #[.int .i64 c.w, .int .i64 c.h, .int .i64 c.edge, .slice CA Cn Cc] 28))) := hgr9
      clear hgr9
      clear k0 k1 k2 kl
      revert RC B_w B_wa B_w1 B_w2 B_wb B_w3 B_wc B_w4
      generalize (World.alloc w4 (.cells #[.int .i64 c.w, .int .i64 c.h, .int .i64 c.edge, .slice CA Cn Cc] 28)) = wd
      intro RC B_w B_wa B_w1 B_w2 B_wb B_w3 B_wc B_w4
      have HC := gStep_any t c HA NA CA hn hc nn nc Cn Cc sl wd (HT.out.up B_w.out) (HC4.out.up B_w4.out) wd.heap.size (fun B => ((HC4.out.up B_w4.out)).cells.newOr) (Nat.le_refl _)
      rw [(HRZ.out ()).2.2.1, (HRZ.out ()).2.2.2] at HC
      refine HC.mono ?_
      clear HC
      rintro e w5 ⟨YA, Yn, Yc, rfl, hga, hno, hb⟩
      have HY : Hid (GAt w5 bb YA Yn) := hga
      clear hga hno
      have B_w : Hid (Below w.heap.size w w5) := below_on2 B_w.out hb
      have B_wa : Hid (Below wa.heap.size wa w5) := below_on2 B_wa.out hb
      have B_w1 : Hid (Below w1.heap.size w1 w5) := below_on2 B_w1.out hb
      have B_w2 : Hid (Below w2.heap.size w2 w5) := below_on2 B_w2.out hb
      have B_wb : Hid (Below wb.heap.size wb w5) := below_on2 B_wb.out hb
      have B_w3 : Hid (Below w3.heap.size w3 w5) := below_on2 B_w3.out hb
      have B_wc : Hid (Below wc.heap.size wc w5) := below_on2 B_wc.out hb
      have B_w4 : Hid (Below w4.heap.size w4 w5) := below_on2 B_w4.out hb
      have B_wd : Hid (Below wd.heap.size wd w5) := hb
      clear hb
      have kR : Hid (Row w5 (w3.heap.size) 28 [.int .i64 bb.w, .int .i64 bb.h, .int .i64 bb.edge, .slice BA Bn Bc]) := (rowCells RB.out B_wc.out)
      have k0 := kR.out.cell 0
      have k1 := kR.out.cell 1
      have k2 := kR.out.cell 2
      have k3 := kR.out.cell 3
      have kl := kR.out.lt
      simp only [List.getElem?_cons_zero, List.getElem?_cons_succ] at k0 k1 k2 k3
      clear kR
      go_wp2_with fail
      have RY : Hid (Row (World.alloc w5 (.cells #[.int .i64 bb.w, .int .i64 bb.h, .int .i64 bb.edge, .slice YA Yn Yc] 28)) (w5.heap.size) 28 [.int .i64 bb.w, .int .i64 bb.h, .int .i64 bb.edge, .slice YA Yn Yc]) := by
        have h0 := Row.new w5 28 [.int .i64 bb.w, .int .i64 bb.h, .int .i64 bb.edge, .slice YA Yn Yc]
        try simp only [World.size_alloc] at h0
        exact h0
      have hgr9 : Below w5.heap.size w5 (World.alloc w5 (.cells #[.int .i64 bb.w, .int .i64 bb.h, .int .i64 bb.edge, .slice YA Yn Yc] 28)) := by go_grown
      have B_w : Hid (Below w.heap.size w (World.alloc w5 (.cells #[.int .i64 bb.w, .int .i64 bb.h, .int .i64 bb.edge, .slice YA Yn Yc] 28))) := below_on2 B_w.out hgr9
      have B_wa : Hid (Below wa.heap.size wa (World.alloc w5 (.cells #[.int .i64 bb.w, .int .i64 bb.h, .int .i64 bb.edge, .slice YA Yn Yc] 28))) := below_on2 B_wa.out hgr9
      have B_w1 : Hid (Below w1.heap.size w1 (World.alloc w5 (.cells #[.int .i64 bb.w, .int .i64 bb.h, .int .i64 bb.edge, .slice YA Yn Yc] 28))) := below_on2 B_w1.out hgr9
      have B_w2 : Hid (Below w2.heap.size w2 (World.alloc w5 (.cells #[.int .i64 bb.w, .int .i64 bb.h, .int .i64 bb.edge, .slice YA Yn Yc] 28))) := below_on2 B_w2.out hgr9
      have B_wb : Hid (Below wb.heap.size wb (World.alloc w5 (.cells #[.int .i64 bb.w, .int .i64 bb.h, .int .i64 bb.edge, .slice YA Yn Yc] 28))) := below_on2 B_wb.out hgr9
      have B_w3 : Hid (Below w3.heap.size w3 (World.alloc w5 (.cells #[.int .i64 bb.w, .int .i64 bb.h, .int .i64 bb.edge, .slice YA Yn Yc] 28))) := below_on2 B_w3.out hgr9
      have B_wc : Hid (Below wc.heap.size wc (World.alloc w5 (.cells #[.int .i64 bb.w, .int .i64 bb.h, .int .i64 bb.edge, .slice YA Yn Yc] 28))) := below_on2 B_wc.out hgr9
      have B_w4 : Hid (Below w4.heap.size w4 (World.alloc w5 (.cells #[.int .i64 bb.w, .int .i64 bb.h, .int .i64 bb.edge, .slice YA Yn Yc] 28))) := below_on2 B_w4.out hgr9
      have B_wd : Hid (Below wd.heap.size wd (World.alloc w5 (.cells #[.int .i64 bb.w, .int .i64 bb.h, .int .i64 bb.edge, .slice YA Yn Yc] 28))) := below_on2 B_wd.out hgr9
      have B_w5 : Hid (Below w5.heap.size w5 (World.alloc w5 (.cells #[.int .i64 bb.w, .int .i64 bb.h, .int .i64 bb.edge, .slice YA Yn Yc] 28))) := hgr9
      clear hgr9
      clear k0 k1 k2 k3 kl
      revert RY B_w B_wa B_w1 B_w2 B_wb B_w3 B_wc B_w4 B_wd B_w5
      generalize (World.alloc w5 (.cells #[.int .i64 bb.w, .int .i64 bb.h, .int .i64 bb.edge, .slice YA Yn Yc] 28)) = we
      intro RY B_w B_wa B_w1 B_w2 B_wb B_w3 B_wc B_w4 B_wd B_w5
      have HC := rGSame_any bb bb BA YA Bn Bc Yn Yc we (HB.out.up B_w3.out) (HY.out.up B_w5.out)
      rw [(sameG_iff _ _).2 rfl] at HC
      refine HC.mono ?_
      clear HC
      rintro e w6 ⟨rfl, hb⟩
      have B_w : Hid (Below w.heap.size w w6) := below_on2 B_w.out hb
      have B_wa : Hid (Below wa.heap.size wa w6) := below_on2 B_wa.out hb
      have B_w1 : Hid (Below w1.heap.size w1 w6) := below_on2 B_w1.out hb
      have B_w2 : Hid (Below w2.heap.size w2 w6) := below_on2 B_w2.out hb
      have B_wb : Hid (Below wb.heap.size wb w6) := below_on2 B_wb.out hb
      have B_w3 : Hid (Below w3.heap.size w3 w6) := below_on2 B_w3.out hb
      have B_wc : Hid (Below wc.heap.size wc w6) := below_on2 B_wc.out hb
      have B_w4 : Hid (Below w4.heap.size w4 w6) := below_on2 B_w4.out hb
      have B_wd : Hid (Below wd.heap.size wd w6) := below_on2 B_wd.out hb
      have B_w5 : Hid (Below w5.heap.size w5 w6) := below_on2 B_w5.out hb
      have B_we : Hid (Below we.heap.size we w6) := hb
      clear hb
      go_wp2_with fail
      refine (awake_any _).mono ?_
      rintro e w9 ⟨rfl, hb⟩
      have HBE : Hid (Below w.heap.size w w9) := below_on2 B_w.out hb
      clear hb
      go_wp2
      go_ret
      exact ⟨rfl, HBE.out⟩
    · clear HRB
      go_wp2_with fail
      have RX : Hid (Row (World.alloc w2 (.cells #[.int .i64 x.w, .int .i64 x.h, .int .i64 x.edge, .slice XA Xn Xc] 28)) (w2.heap.size) 28 [.int .i64 x.w, .int .i64 x.h, .int .i64 x.edge, .slice XA Xn Xc]) := by
        have h0 := Row.new w2 28 [.int .i64 x.w, .int .i64 x.h, .int .i64 x.edge, .slice XA Xn Xc]
        try simp only [World.size_alloc] at h0
        exact h0
      have hgr9 : Below w2.heap.size w2 (World.alloc w2 (.cells #[.int .i64 x.w, .int .i64 x.h, .int .i64 x.edge, .slice XA Xn Xc] 28)) := by go_grown
      have B_w : Hid (Below w.heap.size w (World.alloc w2 (.cells #[.int .i64 x.w, .int .i64 x.h, .int .i64 x.edge, .slice XA Xn Xc] 28))) := below_on2 B_w.out hgr9
      have B_wa : Hid (Below wa.heap.size wa (World.alloc w2 (.cells #[.int .i64 x.w, .int .i64 x.h, .int .i64 x.edge, .slice XA Xn Xc] 28))) := below_on2 B_wa.out hgr9
      have B_w1 : Hid (Below w1.heap.size w1 (World.alloc w2 (.cells #[.int .i64 x.w, .int .i64 x.h, .int .i64 x.edge, .slice XA Xn Xc] 28))) := below_on2 B_w1.out hgr9
      have B_w2 : Hid (Below w2.heap.size w2 (World.alloc w2 (.cells #[.int .i64 x.w, .int .i64 x.h, .int .i64 x.edge, .slice XA Xn Xc] 28))) := hgr9
      clear hgr9
      revert RX B_w B_wa B_w1 B_w2
      generalize (World.alloc w2 (.cells #[.int .i64 x.w, .int .i64 x.h, .int .i64 x.edge, .slice XA Xn Xc] 28)) = wb
      intro RX B_w B_wa B_w1 B_w2
      refine (awake_any _).mono ?_
      rintro e w9 ⟨rfl, hb⟩
      have HBE : Hid (Below w.heap.size w w9) := below_on2 B_w.out hb
      clear hb
      go_wp2
      go_ret
      exact ⟨rfl, HBE.out⟩
  · go_wp2_with fail
    refine (awake_any _).mono ?_
    rintro e w9 ⟨rfl, hb⟩
    have HBE : Hid (Below w.heap.size w w9) := below_on2 B_w.out hb
    clear hb
    go_wp2
    go_ret
    exact ⟨rfl, HBE.out⟩
end Go.Proofs.Ytdkfaphclhaiaaa

/-
  The row of GridstepRolls.
-/
namespace Go.Proofs.Ytdkfaphclhaiaaa
open Go.RowKit Go.ChangeShapes Go.WideShapes Go.ChangeAt Go.Joins
set_option linter.unusedSimpArgs false
set_option linter.unusedVariables false

set_option maxRecDepth 100000 in
theorem gridstepRolls_lifted (os : Os) (started : os.Started) (H : Type) (enc : TypeId × Value → H) :
    ReturnsInHanded {} Try.checked os 8 .any (Rows.gridstepRollsSpec.pre6 enc Try.prog Try.f8 Rows.gridstepRollsRow.domain false) (Rows.gridstepRollsSpec.post enc Try.prog Try.f8 false true false false) := by
  refine returnsInHanded_of_change (C := Try.checked) Try.own' started (by kernel_rfl) Try.func8
    (ChangeSpec.witness6 (enc := enc) (C := Try.checked) false ⟨#[], #[.agg #[.int .i64 0, .slice none 0 0, .slice none 0 0], .agg #[.int .i64 0, .int .i64 0, .int .i64 0, .slice none 0 0], .int .u8 0], []⟩ 8 (by kernel_rfl) (by kernel_rfl) (by kernel_rfl) (by kernel_rfl)) ?_
  intro W base args ds gs before hval0 hW hcnd _
  have hval : ∀ (j : Nat) t v, Try.f8.params[j]? = some t → args[j]? = some v → Value.okWide Try.prog W .any base t v := hval0
  have hW' := hW
  obtain ⟨p, q, hA0, hV, rfl, hfz, hnd⟩ := hW
  have hA : DataW.TrodAll enc Try.prog W 0 (fun _ => true) true Try.f8.params.toList args.toList ds p := hA0
  rw [Try.params8] at hA hval
  obtain ⟨v0, v1, v2, d0, d1, d2, p0, p1, p2, rfl, rfl, rfl, h0, h1, h2⟩ := trodAll_three hA
  obtain ⟨rfl, rfl⟩ := trodVars_none hV
  have h0k := h0
  have hlt0 : ∀ x ∈ p0, x.block < W.heap.size := fun x hx => hW'.lt x (by simp [hx])
  have h1k := h1
  have hlt1 : ∀ x ∈ p1, x.block < W.heap.size := fun x hx => hW'.lt x (by simp [hx])
  have h2k := h2
  have hlt2 : ∀ x ∈ p2, x.block < W.heap.size := fun x hx => hW'.lt x (by simp [hx])
  obtain ⟨t0, HA0, hn0, hc0, NA0, nn0, nc0, sl0, rfl, hm0⟩ := open_tree (hval 0 25 v0 rfl rfl) h0
  obtain ⟨g1, A1, n1, ac1, rfl, hm1⟩ := open_grid (hval 1 28 v1 rfl rfl) h1
  obtain ⟨k2, rfl, hk2⟩ := open_u8_arg (hval 2 5 v2 rfl rfl) h2
  clear hA0 hval0
  refine (lawRolls_any t0 g1 k2 hk2 HA0 NA0 A1 hn0 hc0 nn0 nc0 n1 ac1 sl0 W hm0 hm1).mono fun e W' ⟨he, hb⟩ => ?_
  subst he
  exact ⟨_, rfl, law_post (pa := p0 ++ (p1 ++ p2)) (pv := []) hW' (fun _ _ _ => trodAll_mk1 (shut_bool Try.underlying4 true)) (trodAll_mk3 (Below.trod Try.laidOut' (by kernel_rfl) (of_decide_eq_true (by kernel_rfl)) h0k hb hlt0) (Below.trod Try.laidOut' (by kernel_rfl) (of_decide_eq_true (by kernel_rfl)) h1k hb hlt1) (Below.trod Try.laidOut' (by kernel_rfl) (of_decide_eq_true (by kernel_rfl)) h2k hb hlt2)) rfl hb⟩

theorem gridstepRolls_holds : Rows.GridstepRollsSaid :=
  OpenClaim.holds_of_wide 8 Try.f8 rfl rfl rfl rfl rfl rfl rfl ⟨rfl, rfl, rfl, rfl, rfl⟩ rfl rfl rfl rfl rfl (by kernel_rfl) Try.func8 (by kernel_rfl)
    (of_decide_eq_true (by kernel_rfl)) (by unfold Func.isWrapper; first | (rw [if_pos (by decide +kernel)]; kernel_rfl) | (rw [if_neg (by decide +kernel)]; exact ⟨rfl, rfl⟩))
    (fun os started H enc _ => gridstepRolls_lifted os started H enc)

end Go.Proofs.Ytdkfaphclhaiaaa
