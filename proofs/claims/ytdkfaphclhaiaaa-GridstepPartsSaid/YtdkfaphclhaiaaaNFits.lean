/-
  fits of package gridstep and the reference's Check, walked.
-/
import Derived.Test.YtdkfaphclhaiaaaNPlain
import Derived.Test.YtdkfaphclhaiaaaTRefRight
import Derived.Test.YtdkfaphclhaiaaaGRefRB
import Derived.Test.YtdkfaphclhaiaaaGRight
import Derived.Test.YtdkfaphclhaiaaaIndexFunc
namespace Go.Proofs.Ytdkfaphclhaiaaa
open Go.RowKit
set_option linter.unusedSimpArgs false
set_option linter.unusedVariables false
theorem fits_11 {t : Tre} {g : Grd} (h : rightT t = false) : fitsN t g = 11 := by unfold fitsN; rw [h]; rfl
theorem fits_2 {t : Tre} {g : Grd} (h1 : rightT t = true) (h : rightG g = false) : fitsN t g = 2 := by unfold fitsN; rw [h1, h]; rfl
theorem fits_10 {t : Tre} {g : Grd} (h1 : rightT t = true) (h2 : rightG g = true) (h : g.cells.all (ltStates t) = false) : fitsN t g = 10 := by unfold fitsN; rw [h1, h2, h]; rfl
theorem anyNot_lt (t : Tre) (l : List Int) : l.any (fun x => !ltStates t x) = !l.all (ltStates t) := by
  induction l with
  | nil => rfl
  | cons a l ih => rw [List.any_cons, List.all_cons, ih]; cases ltStates t a <;> simp
set_option maxHeartbeats 400000 in
theorem fits1_any (x : Int) (t : Tre) (pb : Nat) (w : World) (h : w.cell? ⟨pb, 0, none⟩ = some (.int .i64 t.states)) :
    Calls Try.prog 40 #[.int .i64 x, .pointer (some ⟨pb, 0, none⟩)] w fun e w' => e = .returned (.bool (!ltStates t x)) ∧ w = w' := by
  by_cases q1 : t.states ≤ x
  · have HV : Hid ((!ltStates t x) = true) := by show _ = _; unfold ltStates; rw [decide_eq_false (by omega)]; rfl
    go_enter Try.func40, Try.ntmps40
    go_wp2
    go_ret
    exact ⟨ret_bool (by first | exact HV.out.symm | (rw [HV.out]; simp; omega)), rfl⟩
  · have HV : Hid ((!ltStates t x) = false) := by show _ = _; unfold ltStates; rw [decide_eq_true (by omega)]; rfl
    go_enter Try.func40, Try.ntmps40
    go_wp2
    go_ret
    exact ⟨ret_bool (by first | exact HV.out.symm | (rw [HV.out]; simp; omega)), rfl⟩
set_option maxRecDepth 100000 in
set_option maxHeartbeats 2000000 in
theorem fitsN_any (t : Tre) (g : Grd) (HA NA A : Option Addr) (hn hc nn nc n ac : Nat) (sl : List Sl) (w : World) (ht : TAt w t HA NA hn nn sl) (hg : GAt w g A n) :
    Calls Try.prog 26 #[.agg #[.int .i64 t.states, .slice HA hn hc, .slice NA nn nc], .agg #[.int .i64 g.w, .int .i64 g.h, .int .i64 g.edge, .slice A n ac]] w fun e w' => e = .returned (.int .i64 (fitsN t g)) ∧ Below w.heap.size w w' := by
  have HT : Hid (TAt w t HA NA hn nn sl) := ht
  have HG : Hid (GAt w g A n) := hg
  have HL : Hid (g.cells.length = n) := hg.cl
  have hm := hg.c63
  unfold maxLen at hm
  clear ht hg
  go_enter Try.func26, Try.ntmps26
  go_wp2_with fail
  have RT : Hid (Row (World.alloc (World.alloc w (.cells #[.int .i64 t.states, .slice HA hn hc, .slice NA nn nc] 25)) (.cells #[.int .i64 g.w, .int .i64 g.h, .int .i64 g.edge, .slice A n ac] 28)) (w.heap.size) 25 [.int .i64 t.states, .slice HA hn hc, .slice NA nn nc]) := by
    have h0 := Row.new w 25 [.int .i64 t.states, .slice HA hn hc, .slice NA nn nc]
    try simp only [World.size_alloc] at h0
    exact (h0.alloc _)
  have RG : Hid (Row (World.alloc (World.alloc w (.cells #[.int .i64 t.states, .slice HA hn hc, .slice NA nn nc] 25)) (.cells #[.int .i64 g.w, .int .i64 g.h, .int .i64 g.edge, .slice A n ac] 28)) (w.heap.size + 1) 28 [.int .i64 g.w, .int .i64 g.h, .int .i64 g.edge, .slice A n ac]) := by
    have h0 := Row.new (World.alloc w (.cells #[.int .i64 t.states, .slice HA hn hc, .slice NA nn nc] 25)) 28 [.int .i64 g.w, .int .i64 g.h, .int .i64 g.edge, .slice A n ac]
    try simp only [World.size_alloc] at h0
    exact h0
  have hgr9 : Below w.heap.size w (World.alloc (World.alloc w (.cells #[.int .i64 t.states, .slice HA hn hc, .slice NA nn nc] 25)) (.cells #[.int .i64 g.w, .int .i64 g.h, .int .i64 g.edge, .slice A n ac] 28)) := by go_grown
  have B_w : Hid (Below w.heap.size w (World.alloc (World.alloc w (.cells #[.int .i64 t.states, .slice HA hn hc, .slice NA nn nc] 25)) (.cells #[.int .i64 g.w, .int .i64 g.h, .int .i64 g.edge, .slice A n ac] 28))) := hgr9
  clear hgr9
  revert RT RG B_w
  generalize (World.alloc (World.alloc w (.cells #[.int .i64 t.states, .slice HA hn hc, .slice NA nn nc] 25)) (.cells #[.int .i64 g.w, .int .i64 g.h, .int .i64 g.edge, .slice A n ac] 28)) = wa
  intro RT RG B_w
  refine (treeRight_any t HA NA hn hc nn nc sl wa (HT.out.up B_w.out)).mono ?_
  rintro e w1 ⟨rfl, hb⟩
  have B_w : Hid (Below w.heap.size w w1) := below_on2 B_w.out hb
  have B_wa : Hid (Below wa.heap.size wa w1) := hb
  clear hb
  cases hr1 : rightT t
  · have HF : Hid (fitsN t g = 11) := fits_11 hr1
    clear hr1
    go_wp2
    go_ret
    exact ⟨ret_i64 HF.out.symm, B_w.out⟩
  have kR : Hid (Row w1 (w.heap.size + 1) 28 [.int .i64 g.w, .int .i64 g.h, .int .i64 g.edge, .slice A n ac]) := (rowCells RG.out B_wa.out)
  have k0 := kR.out.cell 0
  have k1 := kR.out.cell 1
  have k2 := kR.out.cell 2
  have k3 := kR.out.cell 3
  have kl := kR.out.lt
  simp only [List.getElem?_cons_zero, List.getElem?_cons_succ] at k0 k1 k2 k3
  clear kR
  go_wp2_with fail
  refine (gRight_any g A n ac w1 (HG.out.up B_w.out)).mono ?_
  rintro e w2 ⟨rfl, hb⟩
  have B_w : Hid (Below w.heap.size w w2) := below_on2 B_w.out hb
  have B_wa : Hid (Below wa.heap.size wa w2) := below_on2 B_wa.out hb
  have B_w1 : Hid (Below w1.heap.size w1 w2) := hb
  clear k0 k1 k2 k3 kl
  clear hb
  cases hr2 : rightG g
  · have HF : Hid (fitsN t g = 2) := fits_2 hr1 hr2
    clear hr1 hr2
    go_wp2
    go_ret
    exact ⟨ret_i64 HF.out.symm, B_w.out⟩
  have kR : Hid (Row w2 (w.heap.size + 1) 28 [.int .i64 g.w, .int .i64 g.h, .int .i64 g.edge, .slice A n ac]) := (rowCells RG.out B_wa.out)
  have k0 := kR.out.cell 0
  have k1 := kR.out.cell 1
  have k2 := kR.out.cell 2
  have k3 := kR.out.cell 3
  have kl := kR.out.lt
  simp only [List.getElem?_cons_zero, List.getElem?_cons_succ] at k0 k1 k2 k3
  clear kR
  have HR : Hid (rightT t = true ∧ rightG g = true) := ⟨hr1, hr2⟩
  clear hr1 hr2
  have RT2 : Hid (Row w2 w.heap.size 25 [.int .i64 t.states, .slice HA hn hc, .slice NA nn nc]) := (rowCells RT.out B_wa.out)
  go_wp2_with fail
  refine (containsFunc_ints A n ac g.cells _ _ (fun x => !ltStates t x) _ (enters Try.func40 (by kernel_rfl) rfl) (HG.out.up B_w.out).cells (by omega) ?_).mono ?_
  · intro W x hx hb
    refine (fits1_any x t w.heap.size W (by have h9 := (rowCells RT2.out hb).cell 0; exact h9)).mono ?_
    rintro e w' ⟨rfl, rfl⟩
    exact ⟨rfl, hb⟩
  rintro e w3 ⟨rfl, hb⟩
  rw [anyNot_lt]
  have B_w : Hid (Below w.heap.size w w3) := below_on2 B_w.out hb
  have B_wa : Hid (Below wa.heap.size wa w3) := below_on2 B_wa.out hb
  have B_w1 : Hid (Below w1.heap.size w1 w3) := below_on2 B_w1.out hb
  have B_w2 : Hid (Below w2.heap.size w2 w3) := hb
  clear k0 k1 k2 k3 kl
  clear hb
  cases hr3 : g.cells.all (ltStates t)
  · have HF : Hid (fitsN t g = 10) := fits_10 HR.out.1 HR.out.2 hr3
    clear hr3
    go_wp2
    go_ret
    exact ⟨ret_i64 HF.out.symm, B_w.out⟩
  · have HF : Hid (fitsN t g = 0) := ok_fits ⟨HR.out.1, HR.out.2, hr3⟩
    clear hr3
    go_wp2
    go_ret
    exact ⟨ret_i64 HF.out.symm, B_w.out⟩
set_option maxRecDepth 100000 in
set_option maxHeartbeats 2000000 in
theorem rCheck_any (t : Tre) (g : Grd) (HA NA A : Option Addr) (hn hc nn nc n ac : Nat) (sl : List Sl) (w : World) (ht : TAt w t HA NA hn nn sl) (hg : GAt w g A n) :
    Calls Try.prog 24 #[.agg #[.int .i64 t.states, .slice HA hn hc, .slice NA nn nc], .agg #[.int .i64 g.w, .int .i64 g.h, .int .i64 g.edge, .slice A n ac]] w fun e w' => e = .returned (.int .i64 (fitsN t g)) ∧ Below w.heap.size w w' := by
  have HT : Hid (TAt w t HA NA hn nn sl) := ht
  have HG : Hid (GAt w g A n) := hg
  have HL : Hid (g.cells.length = n) := hg.cl
  have hm := hg.c63
  unfold maxLen at hm
  clear ht hg
  go_enter Try.func24, Try.ntmps24
  go_wp2_with fail
  have RT : Hid (Row (World.alloc (World.alloc w (.cells #[.int .i64 t.states, .slice HA hn hc, .slice NA nn nc] 25)) (.cells #[.int .i64 g.w, .int .i64 g.h, .int .i64 g.edge, .slice A n ac] 28)) (w.heap.size) 25 [.int .i64 t.states, .slice HA hn hc, .slice NA nn nc]) := by
    have h0 := Row.new w 25 [.int .i64 t.states, .slice HA hn hc, .slice NA nn nc]
    try simp only [World.size_alloc] at h0
    exact (h0.alloc _)
  have RG : Hid (Row (World.alloc (World.alloc w (.cells #[.int .i64 t.states, .slice HA hn hc, .slice NA nn nc] 25)) (.cells #[.int .i64 g.w, .int .i64 g.h, .int .i64 g.edge, .slice A n ac] 28)) (w.heap.size + 1) 28 [.int .i64 g.w, .int .i64 g.h, .int .i64 g.edge, .slice A n ac]) := by
    have h0 := Row.new (World.alloc w (.cells #[.int .i64 t.states, .slice HA hn hc, .slice NA nn nc] 25)) 28 [.int .i64 g.w, .int .i64 g.h, .int .i64 g.edge, .slice A n ac]
    try simp only [World.size_alloc] at h0
    exact h0
  have hgr9 : Below w.heap.size w (World.alloc (World.alloc w (.cells #[.int .i64 t.states, .slice HA hn hc, .slice NA nn nc] 25)) (.cells #[.int .i64 g.w, .int .i64 g.h, .int .i64 g.edge, .slice A n ac] 28)) := by go_grown
  have B_w : Hid (Below w.heap.size w (World.alloc (World.alloc w (.cells #[.int .i64 t.states, .slice HA hn hc, .slice NA nn nc] 25)) (.cells #[.int .i64 g.w, .int .i64 g.h, .int .i64 g.edge, .slice A n ac] 28))) := hgr9
  clear hgr9
  revert RT RG B_w
  generalize (World.alloc (World.alloc w (.cells #[.int .i64 t.states, .slice HA hn hc, .slice NA nn nc] 25)) (.cells #[.int .i64 g.w, .int .i64 g.h, .int .i64 g.edge, .slice A n ac] 28)) = wa
  intro RT RG B_w
  refine (rTreeRight_any t HA NA hn hc nn nc sl wa (HT.out.up B_w.out)).mono ?_
  rintro e w1 ⟨rfl, hb⟩
  have B_w : Hid (Below w.heap.size w w1) := below_on2 B_w.out hb
  have B_wa : Hid (Below wa.heap.size wa w1) := hb
  clear hb
  cases hr1 : rightT t
  · have HF : Hid (fitsN t g = 11) := fits_11 hr1
    clear hr1
    go_wp2
    go_ret
    exact ⟨ret_i64 HF.out.symm, B_w.out⟩
  have kR : Hid (Row w1 (w.heap.size + 1) 28 [.int .i64 g.w, .int .i64 g.h, .int .i64 g.edge, .slice A n ac]) := (rowCells RG.out B_wa.out)
  have k0 := kR.out.cell 0
  have k1 := kR.out.cell 1
  have k2 := kR.out.cell 2
  have k3 := kR.out.cell 3
  have kl := kR.out.lt
  simp only [List.getElem?_cons_zero, List.getElem?_cons_succ] at k0 k1 k2 k3
  clear kR
  go_wp2_with fail
  refine (rGRight_any g A n ac w1 (HG.out.up B_w.out)).mono ?_
  rintro e w2 ⟨rfl, hb⟩
  have B_w : Hid (Below w.heap.size w w2) := below_on2 B_w.out hb
  have B_wa : Hid (Below wa.heap.size wa w2) := below_on2 B_wa.out hb
  have B_w1 : Hid (Below w1.heap.size w1 w2) := hb
  clear k0 k1 k2 k3 kl
  clear hb
  cases hr2 : rightG g
  · have HF : Hid (fitsN t g = 2) := fits_2 hr1 hr2
    clear hr1 hr2
    go_wp2
    go_ret
    exact ⟨ret_i64 HF.out.symm, B_w.out⟩
  have HR : Hid (rightT t = true ∧ rightG g = true) := ⟨hr1, hr2⟩
  clear hr1 hr2
  go_wp2
  have RT2 : Hid (Row w2 w.heap.size 25 [.int .i64 t.states, .slice HA hn hc, .slice NA nn nc]) := (rowCells RT.out B_wa.out)
  have RG2 : Hid (Row w2 (w.heap.size + 1) 28 [.int .i64 g.w, .int .i64 g.h, .int .i64 g.edge, .slice A n ac]) := (rowCells RG.out B_wa.out)
  have HB2 : Hid (Below w.heap.size w w2) := B_w.out
  go_loopg [5] n (fun gg s5 wr => ∃ k : Nat, k ≤ n ∧ n - k ≤ gg ∧ s5 = .int .i64 k ∧ Aside (Below w2.heap.size w2 wr) ∧ Aside (∀ j, j < k → ltStates t (g.cells.getD j 0) = true))
  case atStart => exact ⟨0, Nat.zero_le _, by omega, rfl, Below.refl _ _, fun j hj => absurd hj (Nat.not_lt_zero _)⟩
  case round =>
    obtain ⟨k, hk, hgg, rfl, BW, AL⟩ := hrel
    have RTr : Hid (Row wr w.heap.size 25 [.int .i64 t.states, .slice HA hn hc, .slice NA nn nc]) := rowCells RT2.out BW.out
    have RGr : Hid (Row wr (w.heap.size + 1) 28 [.int .i64 g.w, .int .i64 g.h, .int .i64 g.edge, .slice A n ac]) := rowCells RG2.out BW.out
    have HBr : Hid (Below w.heap.size w wr) := below_on2 HB2.out BW.out
    have k0 := RTr.out.cell 0
    have k1 := RTr.out.cell 1
    have k2 := RTr.out.cell 2
    have kl := RTr.out.lt
    simp only [List.getElem?_cons_zero, List.getElem?_cons_succ] at k0 k1 k2
    have q0 := RGr.out.cell 0
    have q1 := RGr.out.cell 1
    have q2 := RGr.out.cell 2
    have q3 := RGr.out.cell 3
    have ql := RGr.out.lt
    simp only [List.getElem?_cons_zero, List.getElem?_cons_succ] at q0 q1 q2 q3
    by_cases hlt : k < n
    · have hltz : (k : Int) < (n : Int) := by omega
      obtain ⟨ad, rfl, _, hc⟩ := (HG.out.up HBr.out).cells.int hlt
      cases hl : ltStates t (g.cells.getD k 0)
      · have HF : Hid (fitsN t g = 10) := fits_10 HR.out.1 HR.out.2 (all_false_at _ _ k (by rw [HL.out]; exact hlt) hl)
        have hq : ¬ g.cells.getD k 0 < t.states := by simpa [ltStates] using hl
        clear hl
        generalize g.cells.getD k 0 = x at hc hq
        have hd : decide (t.states ≤ x) = true := decide_eq_true (by omega)
        go_wp2_with fail
        go_quiet (fail)
        go_wp2
        go_ret
        exact ⟨ret_i64 HF.out.symm, below_drewN HBr.out _⟩
      · have HK : Hid (ltStates t (g.cells.getD k 0) = true) := hl
        have hq : g.cells.getD k 0 < t.states := by simpa [ltStates] using hl
        clear hl
        generalize hx0 : g.cells.getD k 0 = x at hc hq
        clear hx0
        have hd : decide (t.states ≤ x) = false := decide_eq_false (by omega)
        clear hq
        go_wp2_with fail
        go_quiet (fail)
        go_wp2
        go_roundg (n - (k + 1))
        case measure => omega
        case rel => exact ⟨k + 1, by omega, by omega, by go_num, below_drewN BW.out _, (show Aside _ from fun j hj => by
          by_cases e : j = k
          · rw [e]; exact HK.out
          · exact AL.out j (by omega))⟩
    · have hltz : ¬ (k : Int) < (n : Int) := by omega
      have HF : Hid (fitsN t g = 0) := ok_fits ⟨HR.out.1, HR.out.2, all_true_at _ _ (fun j hj => AL.out j (by rw [HL.out] at hj; omega))⟩
      go_wp2
      go_ret
      exact ⟨ret_i64 HF.out.symm, HBr.out⟩
end Go.Proofs.Ytdkfaphclhaiaaa
