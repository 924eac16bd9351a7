/-
  run and Run of package gridstep, walked.
-/
import Derived.Test.YtdkfaphclhaiaaaNSeq
import Derived.Test.YtdkfaphclhaiaaaNFits
import Derived.Test.YtdkfaphclhaiaaaGPost
import Derived.Shelf.Abstract
import Derived.Shelf.RegionOpen
import Derived.WalkKit
import Derived.OwnWalkIn
import Derived.TacticsInMore
import Derived.LoopNIn
import Derived.LoopIn
namespace Go.Proofs.Ytdkfaphclhaiaaa
open Go.RowKit Go.Shelf
set_option linter.unusedSimpArgs false
set_option linter.unusedVariables false
attribute [local go_sem] Oper.semAt_some
theorem Row.steps {A B : World} {G C b : Nat} {T : TypeId} {xs : List Value} (h : Row A b T xs) (hs : Steps G C A B) (hb : b ≠ G) : Row B b T xs := by
  obtain ⟨row, hg, hr⟩ := hs
  refine h.grown hg (fun e => ?_)
  rcases hr b e.symm with e' | ⟨_, o, ho, hc⟩
  · exact hb e'
  · unfold Row at h
    rw [h] at ho
    cases ho
    exact absurd hc (by simp [Obj.isCells])
theorem belowSteps {A B w : World} {G C c : Nat} (h : Below c w A) (hc : c ≤ w.heap.size) (hs : Steps G C A B) (hG : c ≤ G) (hC : c ≤ C) : Below c w B := by
  obtain ⟨row, hg, hr⟩ := hs
  exact h.grown hg (by have := h.size; omega) (fun q hq => by rcases hr q hq with rfl | ⟨h1, _⟩ <;> omega)
/-- run of package gridstep: the iterator over a tree and a grid laid in new blocks. -/
theorem run_any (t : Tre) (g : Grd) (HA NA A : Option Addr) (hn hc nn nc n ac : Nat) (w : World) :
    Calls Try.prog 27 #[.agg #[.int .i64 t.states, .slice HA hn hc, .slice NA nn nc], .agg #[.int .i64 g.w, .int .i64 g.h, .int .i64 g.edge, .slice A n ac]] w fun e w' =>
      e = .returned (.func (.func 41) #[] #[.pointer (some ⟨w.heap.size + 1, 0, none⟩), .pointer (some ⟨w.heap.size, 0, none⟩)]) ∧ Row w' w.heap.size 25 [.int .i64 t.states, .slice HA hn hc, .slice NA nn nc] ∧
      Row w' (w.heap.size + 1) 28 [.int .i64 g.w, .int .i64 g.h, .int .i64 g.edge, .slice A n ac] ∧ w.heap.size + 2 ≤ w'.heap.size ∧ Below w.heap.size w w' := by
  go_enter Try.func27, Try.ntmps27
  go_wp2
  go_ret
  refine ⟨rfl, (Row.new w 25 [.int .i64 t.states, .slice HA hn hc, .slice NA nn nc]).alloc _, ?_, by simp, by go_grown⟩
  have h0 := Row.new (w.alloc (.cells #[.int .i64 t.states, .slice HA hn hc, .slice NA nn nc] 25)) 28 [.int .i64 g.w, .int .i64 g.h, .int .i64 g.edge, .slice A n ac]
  rw [World.size_alloc] at h0
  exact h0
/-- Run, in plain data. -/
def runErr (t : Tre) (g : Grd) (z : Int) : Int := if fitsN t g = 0 then (if 0 ≤ z ∧ z ≤ 10000 then 0 else 2) else fitsN t g
def runR (t : Tre) (g : Grd) (z : Int) : Grd := if runErr t g z = 0 then genG t g z.toNat else noGrd
theorem runR_err {t : Tre} {g : Grd} {z k : Int} (h : runErr t g z = k) (h0 : k ≠ 0) : runR t g z = noGrd := by rw [runR, if_neg (by rw [h]; exact h0)]
theorem runErr_fits {t : Tre} {g : Grd} (z : Int) (h : fitsN t g ≠ 0) : runErr t g z = fitsN t g := by rw [runErr, if_neg h]
theorem runErr_out {t : Tre} {g : Grd} {z : Int} (h : fitsN t g = 0) (hz : ¬ (0 ≤ z ∧ z ≤ 10000)) : runErr t g z = 2 := by rw [runErr, if_pos h, if_neg hz]
theorem runErr_ok {t : Tre} {g : Grd} {z : Int} (h : fitsN t g = 0) (hz : 0 ≤ z ∧ z ≤ 10000) : runErr t g z = 0 := by rw [runErr, if_pos h, if_pos hz]
set_option maxRecDepth 100000 in
set_option maxHeartbeats 4000000 in
theorem gRun_any (t : Tre) (g : Grd) (z : Int) (HA NA A : Option Addr) (hn hc nn nc n ac : Nat) (sl : List Sl) (w : World) (ht : TAt w t HA NA hn nn sl) (hg : GAt w g A n) (b0 : Nat) (hO : ∀ B, NewOr A n b0 B) (hb0 : b0 ≤ w.heap.size) :
    CallsIn Fence.wide 3 Try.prog 14 #[.agg #[.int .i64 t.states, .slice HA hn hc, .slice NA nn nc], .agg #[.int .i64 g.w, .int .i64 g.h, .int .i64 g.edge, .slice A n ac], .int .i64 z] w (GPostN (runR t g z) (runErr t g z) b0 w) := by
  refine callsIn_of_wp_marks Try.func14 rfl trivial ?_ rfl
  simp only [Try.ntmps14, List.size_toArray, List.length_cons, List.length_nil, Nat.reduceAdd, Nat.reduceSub, Array.replicate_succ, Array.replicate_zero, List.push_toArray, List.append_toArray, List.nil_append, List.cons_append]
  have HT : Hid (TAt w t HA NA hn nn sl) := ht
  have HG : Hid (GAt w g A n) := hg
  have HL : Hid (g.cells.length = n) := hg.cl
  have HO : Hid (∀ B, NewOr A n b0 B) := hO
  clear ht hg hO
  gi_wp2
  have RT : Hid (Row (World.alloc (World.alloc (World.alloc (World.alloc (World.alloc w (.cells #[.int .i64 t.states, .slice HA hn hc, .slice NA nn nc] 25)) (.cells #[.int .i64 g.w, .int .i64 g.h, .int .i64 g.edge, .slice A n ac] 28)) (.cells #[.int .i64 z] 3)) (.cells #[.int .i64 0, .int .i64 0, .int .i64 0, .slice none 0 0] 28)) (.cells #[.int .i64 0] 31)) (w.heap.size) 25 [.int .i64 t.states, .slice HA hn hc, .slice NA nn nc]) := by
    have h0 := Row.new w 25 [.int .i64 t.states, .slice HA hn hc, .slice NA nn nc]
    try simp only [World.size_alloc] at h0
    exact ((((h0.alloc _).alloc _).alloc _).alloc _)
  have RG : Hid (Row (World.alloc (World.alloc (World.alloc (World.alloc (World.alloc w (.cells #[.int .i64 t.states, .slice HA hn hc, .slice NA nn nc] 25)) (.cells #[.int .i64 g.w, .int .i64 g.h, .int .i64 g.edge, .slice A n ac] 28)) (.cells #[.int .i64 z] 3)) (.cells #[.int .i64 0, .int .i64 0, .int .i64 0, .slice none 0 0] 28)) (.cells #[.int .i64 0] 31)) (w.heap.size + 1) 28 [.int .i64 g.w, .int .i64 g.h, .int .i64 g.edge, .slice A n ac]) := by
    have h0 := Row.new (World.alloc w (.cells #[.int .i64 t.states, .slice HA hn hc, .slice NA nn nc] 25)) 28 [.int .i64 g.w, .int .i64 g.h, .int .i64 g.edge, .slice A n ac]
    try simp only [World.size_alloc] at h0
    exact (((h0.alloc _).alloc _).alloc _)
  have RN : Hid (Row (World.alloc (World.alloc (World.alloc (World.alloc (World.alloc w (.cells #[.int .i64 t.states, .slice HA hn hc, .slice NA nn nc] 25)) (.cells #[.int .i64 g.w, .int .i64 g.h, .int .i64 g.edge, .slice A n ac] 28)) (.cells #[.int .i64 z] 3)) (.cells #[.int .i64 0, .int .i64 0, .int .i64 0, .slice none 0 0] 28)) (.cells #[.int .i64 0] 31)) (w.heap.size + 1 + 1) 3 [.int .i64 z]) := by
    have h0 := Row.new (World.alloc (World.alloc w (.cells #[.int .i64 t.states, .slice HA hn hc, .slice NA nn nc] 25)) (.cells #[.int .i64 g.w, .int .i64 g.h, .int .i64 g.edge, .slice A n ac] 28)) 3 [.int .i64 z]
    try simp only [World.size_alloc] at h0
    exact ((h0.alloc _).alloc _)
  have RZ : Hid (Row (World.alloc (World.alloc (World.alloc (World.alloc (World.alloc w (.cells #[.int .i64 t.states, .slice HA hn hc, .slice NA nn nc] 25)) (.cells #[.int .i64 g.w, .int .i64 g.h, .int .i64 g.edge, .slice A n ac] 28)) (.cells #[.int .i64 z] 3)) (.cells #[.int .i64 0, .int .i64 0, .int .i64 0, .slice none 0 0] 28)) (.cells #[.int .i64 0] 31)) (w.heap.size + 1 + 1 + 1) 28 [.int .i64 0, .int .i64 0, .int .i64 0, .slice none 0 0]) := by
    have h0 := Row.new (World.alloc (World.alloc (World.alloc w (.cells #[.int .i64 t.states, .slice HA hn hc, .slice NA nn nc] 25)) (.cells #[.int .i64 g.w, .int .i64 g.h, .int .i64 g.edge, .slice A n ac] 28)) (.cells #[.int .i64 z] 3)) 28 [.int .i64 0, .int .i64 0, .int .i64 0, .slice none 0 0]
    try simp only [World.size_alloc] at h0
    exact (h0.alloc _)
  have RE : Hid (Row (World.alloc (World.alloc (World.alloc (World.alloc (World.alloc w (.cells #[.int .i64 t.states, .slice HA hn hc, .slice NA nn nc] 25)) (.cells #[.int .i64 g.w, .int .i64 g.h, .int .i64 g.edge, .slice A n ac] 28)) (.cells #[.int .i64 z] 3)) (.cells #[.int .i64 0, .int .i64 0, .int .i64 0, .slice none 0 0] 28)) (.cells #[.int .i64 0] 31)) (w.heap.size + 1 + 1 + 1 + 1) 31 [.int .i64 0]) := by
    have h0 := Row.new (World.alloc (World.alloc (World.alloc (World.alloc w (.cells #[.int .i64 t.states, .slice HA hn hc, .slice NA nn nc] 25)) (.cells #[.int .i64 g.w, .int .i64 g.h, .int .i64 g.edge, .slice A n ac] 28)) (.cells #[.int .i64 z] 3)) (.cells #[.int .i64 0, .int .i64 0, .int .i64 0, .slice none 0 0] 28)) 31 [.int .i64 0]
    try simp only [World.size_alloc] at h0
    exact h0
  have hgr9 : Below w.heap.size w (World.alloc (World.alloc (World.alloc (World.alloc (World.alloc w (.cells #[.int .i64 t.states, .slice HA hn hc, .slice NA nn nc] 25)) (.cells #[.int .i64 g.w, .int .i64 g.h, .int .i64 g.edge, .slice A n ac] 28)) (.cells #[.int .i64 z] 3)) (.cells #[.int .i64 0, .int .i64 0, .int .i64 0, .slice none 0 0] 28)) (.cells #[.int .i64 0] 31)) := by go_grown
  have B_w : Hid (Below w.heap.size w (World.alloc (World.alloc (World.alloc (World.alloc (World.alloc w (.cells #[.int .i64 t.states, .slice HA hn hc, .slice NA nn nc] 25)) (.cells #[.int .i64 g.w, .int .i64 g.h, .int .i64 g.edge, .slice A n ac] 28)) (.cells #[.int .i64 z] 3)) (.cells #[.int .i64 0, .int .i64 0, .int .i64 0, .slice none 0 0] 28)) (.cells #[.int .i64 0] 31))) := hgr9
  clear hgr9
  revert RT RG RN RZ RE B_w
  generalize (World.alloc (World.alloc (World.alloc (World.alloc (World.alloc w (.cells #[.int .i64 t.states, .slice HA hn hc, .slice NA nn nc] 25)) (.cells #[.int .i64 g.w, .int .i64 g.h, .int .i64 g.edge, .slice A n ac] 28)) (.cells #[.int .i64 z] 3)) (.cells #[.int .i64 0, .int .i64 0, .int .i64 0, .slice none 0 0] 28)) (.cells #[.int .i64 0] 31)) = wa
  intro RT RG RN RZ RE B_w
  refine ⟨trivial, (callsIn_wide.2 (fitsN_any t g HA NA A hn hc nn nc n ac sl wa (HT.out.up B_w.out) (HG.out.up B_w.out))).mono ?_⟩
  rintro e w1 ⟨rfl, hb⟩
  have B_w : Hid (Below w.heap.size w w1) := below_on2 B_w.out hb
  have B_wa : Hid (Below wa.heap.size wa w1) := hb
  clear hb
  obtain ⟨fe, hfe⟩ : ∃ fe, fitsN t g = fe := ⟨_, rfl⟩
  have HFE : Hid (fitsN t g = fe) := hfe
  rw [hfe]
  clear hfe
  by_cases hf : fe = 0
  · subst hf
    have HF : Hid (∀ _ : Unit, fitsN t g = 0) := fun _ => HFE.out
    have HL9 : Hid (∀ _ : Unit, g.cells.length = n) := fun _ => HL.out
    clear HFE HL
    by_cases hz : 0 ≤ z ∧ z ≤ 10000
    · have HOK : Hid (OkTG t g) := fits_ok (HF.out ())
      obtain ⟨z0, z1⟩ := hz
      have HER : Hid (∀ _ : Unit, runErr t g z = 0) := fun _ => runErr_ok (HF.out ()) ⟨z0, z1⟩
      obtain ⟨mz, rfl⟩ : ∃ mz : Nat, z = (mz : Int) := ⟨z.toNat, by omega⟩
      have HRR : Hid (∀ _ : Unit, runR t g (mz : Int) = genG t g mz) := fun _ => by rw [runR, if_pos (HER.out ()), Int.toNat_natCast]
      have RN1 : Hid (Row w1 (w.heap.size + 1 + 1) 3 [.int .i64 (mz : Int)]) := (rowCells RN.out B_wa.out)
      have n0 := RN1.out.cell 0
      have nl := RN1.out.lt
      simp only [List.getElem?_cons_zero, List.getElem?_cons_succ] at n0
      have pR : Hid (Row w1 (w.heap.size) 25 [.int .i64 t.states, .slice HA hn hc, .slice NA nn nc]) := (rowCells RT.out B_wa.out)
      have p0 := pR.out.cell 0
      have p1 := pR.out.cell 1
      have p2 := pR.out.cell 2
      have pl := pR.out.lt
      simp only [List.getElem?_cons_zero, List.getElem?_cons_succ] at p0 p1 p2
      clear pR
      have qR : Hid (Row w1 (w.heap.size + 1) 28 [.int .i64 g.w, .int .i64 g.h, .int .i64 g.edge, .slice A n ac]) := (rowCells RG.out B_wa.out)
      have q0 := qR.out.cell 0
      have q1 := qR.out.cell 1
      have q2 := qR.out.cell 2
      have q3 := qR.out.cell 3
      have ql := qR.out.lt
      simp only [List.getElem?_cons_zero, List.getElem?_cons_succ] at q0 q1 q2 q3
      clear qR
      gi_wp2
      refine ⟨trivial, (callsIn_wide.2 (run_any t g HA NA A hn hc nn nc n ac w1)).mono ?_⟩
      rintro e w2 ⟨rfl, hrT, hrG, hsz2, hb⟩
      have RTi : Hid (Row w2 w1.heap.size 25 [.int .i64 t.states, .slice HA hn hc, .slice NA nn nc]) := hrT
      have RGi : Hid (Row w2 (w1.heap.size + 1) 28 [.int .i64 g.w, .int .i64 g.h, .int .i64 g.edge, .slice A n ac]) := hrG
      have hws : w.heap.size + 1 + 1 + 1 + 1 < w1.heap.size := (show Row _ _ _ _ from (rowCells RE.out B_wa.out)).lt
      clear hrT hrG n0 nl RN1
      have B_w : Hid (Below w.heap.size w w2) := below_on2 B_w.out hb
      have B_wa : Hid (Below wa.heap.size wa w2) := below_on2 B_wa.out hb
      have B_w1 : Hid (Below w1.heap.size w1 w2) := hb
      clear p0 p1 p2 pl q0 q1 q2 q3 ql
      clear hb
      gi_wp2
      refine wpIn_rangeState (gf := 41) (lb := #[.pointer (some ⟨(w1.heap.size + 1), 0, none⟩), .pointer (some ⟨w1.heap.size, 0, none⟩)]) (G := (w1.heap.size + 1)) (N := mz + 1) (Px := GenAt t g n b0 (w1.heap.size + 1)) rfl (enters_of Try.func41 (by kernel_rfl) rfl) rfl RGi.out.lt
        (run_seq t g HA NA A hn hc nn nc n ac (w1.heap.size + 1) w1.heap.size (mz + 1) b0 sl w w2 HT.out HOK.out (HL9.out ()) (KC.below B_w.out) (by omega) RTi.out RGi.out HG.out (by omega) (by omega) (HO.out _))
        (fun k W => k ≤ mz ∧ Below w.heap.size w W ∧ Row W (w.heap.size + 1 + 1) 3 [.int .i64 (mz : Int)] ∧ Row W (w.heap.size + 1 + 1 + 1) 28 [.int .i64 0, .int .i64 0, .int .i64 0, .slice none 0 0] ∧ Row W (w.heap.size + 1 + 1 + 1 + 1) 31 [.int .i64 0])
        (fun c W => c = .ret ∧ Below w.heap.size w W ∧ (∃ A' c', GAt W (genG t g mz) A' n ∧ NewOr A' n b0 w.heap.size ∧ Row W (w.heap.size + 1 + 1 + 1) 28 [.int .i64 g.w, .int .i64 g.h, .int .i64 g.edge, .slice A' n c']) ∧ Row W (w.heap.size + 1 + 1 + 1 + 1) 31 [.int .i64 0])
        (fun k X Y h hs => ⟨h.1, belowSteps h.2.1 (Nat.le_refl _) hs (by omega) (by omega), h.2.2.1.steps hs (by omega), h.2.2.2.1.steps hs (by omega), h.2.2.2.2.steps hs (by omega)⟩)
        (fun c X Y h hs hk => ⟨h.1, belowSteps h.2.1 (Nat.le_refl _) hs (by omega) (by omega), (let ⟨A', c', h1, h8, h2⟩ := h.2.2.1; ⟨A', c', h1.kc hk, h8, hk.row h2⟩), hk.row h.2.2.2⟩)
        (fun k X h => by omega) ⟨Nat.zero_le _, B_w.out, (rowCells RN.out B_wa.out), (rowCells RZ.out B_wa.out), (rowCells RE.out B_wa.out)⟩ (fun k v X Y h hk => h.kc hk)
        (fun k v a' W => ∃ Bx A' c', v = .agg #[.int .i64 g.w, .int .i64 g.h, .int .i64 g.edge, .slice A' n c'] ∧ Row W Bx 28 [.int .i64 g.w, .int .i64 g.h, .int .i64 g.edge, .slice A' n c'] ∧ a' = { tmps := #[.agg #[.int .i64 t.states, .slice HA hn hc, .slice NA nn nc], .agg #[.int .i64 g.w, .int .i64 g.h, .int .i64 g.edge, .slice A n ac], .int .i64 (mz : Int), .pointer (some ⟨w.heap.size, 0, none⟩), .pointer (some ⟨w.heap.size + 1, 0, none⟩), .pointer (some ⟨w.heap.size + 1 + 1, 0, none⟩), .pointer (some ⟨w.heap.size + 1 + 1 + 1, 0, none⟩), .pointer (some ⟨w.heap.size + 1 + 1 + 1 + 1, 0, none⟩), .int .i64 0, .int .i64 (k : Int), .pointer (some ⟨Bx, 0, none⟩), .agg #[.int .i64 t.states, .slice HA hn hc, .slice NA nn nc], .agg #[.int .i64 g.w, .int .i64 g.h, .int .i64 g.edge, .slice A n ac], .int .i64 0, .int .i64 0, .bool false, undef, undef, .int .i64 (mz : Int), .bool (decide ((mz : Int) < 0)), .bool (decide ((mz : Int) < 0)), .int .i64 (mz : Int), .bool (decide (10000 < (mz : Int))), .bool (decide ((mz : Int) < 0) || decide (10000 < (mz : Int))), undef, .agg #[.int .i64 t.states, .slice HA hn hc, .slice NA nn nc], .agg #[.int .i64 g.w, .int .i64 g.h, .int .i64 g.edge, .slice A n ac], .func (.func 41) #[] #[.pointer (some ⟨(w1.heap.size + 1), 0, none⟩), .pointer (some ⟨w1.heap.size, 0, none⟩)], .int .i64 (k : Int), .agg #[.int .i64 g.w, .int .i64 g.h, .int .i64 g.edge, .slice A' n c'], undef, undef, undef, undef, undef], defers := [] })
        (fun k v a' X Y h hk => (let ⟨Bx, A', c', h1, h2, h3⟩ := h; ⟨Bx, A', c', h1, hk.row h2, h3⟩)) ?assign ?body ?stop
      case assign =>
        intro l k v W K hi hp hK
        obtain ⟨A', c', rfl, hga, hgo⟩ := hp
        obtain ⟨i1, i2, i3, i4, i5⟩ := hi
        have HK : Hid (∀ a' W', KeepsFrom w2.heap.size W W' → KC W W' → _ → _ → K a' W') := hK
        have HI : Hid (k ≤ mz ∧ Below w.heap.size w W ∧ Row W (w.heap.size + 1 + 1) 3 [.int .i64 (mz : Int)] ∧ Row W (w.heap.size + 1 + 1 + 1) 28 [.int .i64 0, .int .i64 0, .int .i64 0, .slice none 0 0] ∧ Row W (w.heap.size + 1 + 1 + 1 + 1) 31 [.int .i64 0]) := ⟨i1, i2, i3, i4, i5⟩
        clear hK i2 i3 i4 i5
        gi_wp2
        obtain ⟨i1, i2, i3, i4, i5⟩ := HI.out
        exact HK.out _ _ ((KeepsOthers.alloc _ _).from _) (.grown (World.grownBy_alloc W _ none) (fun r e => by cases e)) ⟨i1, i2.alloc i2.size _, i3.alloc _, i4.alloc _, i5.alloc _⟩ ⟨W.heap.size, A', c', rfl, Row.new W 28 [.int .i64 g.w, .int .i64 g.h, .int .i64 g.edge, .slice A' n c'], rfl⟩
      case body =>
        rintro l k v a' W ⟨i1, i2, i3, i4, i5⟩ ⟨A0', c0', hv, hga, hgo⟩ ⟨Bx, A', c', rfl, rX, rfl⟩
        have HGA : Hid (GAt W (genG t g k) A' n) := by
          simp only [Value.agg.injEq, Array.mk.injEq, List.cons.injEq, Value.slice.injEq, true_and, and_true] at hv
          rw [hv.1]; exact hga
        have HGO : Hid (NewOr A' n b0 ((w1.heap.size + 1) + 1)) := by
          simp only [Value.agg.injEq, Array.mk.injEq, List.cons.injEq, Value.slice.injEq, true_and, and_true] at hv
          rw [hv.1]; exact hgo
        have HI : Hid (k ≤ mz ∧ Below w.heap.size w W ∧ Row W (w.heap.size + 1 + 1) 3 [.int .i64 (mz : Int)] ∧ Row W (w.heap.size + 1 + 1 + 1) 28 [.int .i64 0, .int .i64 0, .int .i64 0, .slice none 0 0] ∧ Row W (w.heap.size + 1 + 1 + 1 + 1) 31 [.int .i64 0]) := ⟨i1, i2, i3, i4, i5⟩
        have rN : Hid (Row W (w.heap.size + 1 + 1) 3 [.int .i64 (mz : Int)]) := i3
        have rZ : Hid (Row W (w.heap.size + 1 + 1 + 1) 28 [.int .i64 0, .int .i64 0, .int .i64 0, .slice none 0 0]) := i4
        have rE : Hid (Row W (w.heap.size + 1 + 1 + 1 + 1) 31 [.int .i64 0]) := i5
        have rXX : Hid (Row W Bx 28 [.int .i64 g.w, .int .i64 g.h, .int .i64 g.edge, .slice A' n c']) := rX
        clear hv hga hgo i2 i3 i4 i5 rX
        have n0 := rN.out.cell 0
        simp only [List.getElem?_cons_zero] at n0
        by_cases hk : k = mz
        · subst hk
          have x0 := rXX.out.cell 0
          have x1 := rXX.out.cell 1
          have x2 := rXX.out.cell 2
          have x3 := rXX.out.cell 3
          have xl := rXX.out.lt
          simp only [List.getElem?_cons_zero, List.getElem?_cons_succ] at x0 x1 x2 x3
          have z0 := rZ.out.cell 0
          have z1 := rZ.out.cell 1
          have z2 := rZ.out.cell 2
          have z3 := rZ.out.cell 3
          have zl := rZ.out.lt
          simp only [List.getElem?_cons_zero, List.getElem?_cons_succ] at z0 z1 z2 z3
          have zf0 := rZ.out.frozen 0
          have zf1 := rZ.out.frozen 1
          have zf2 := rZ.out.frozen 2
          have zf3 := rZ.out.frozen 3
          have y0 := rE.out.cell 0
          have yl := rE.out.lt
          simp only [List.getElem?_cons_zero, List.getElem?_cons_succ] at y0
          have yf0 := rE.out.frozen 0
          gi_wp2
          refine ⟨(((((KeepsOthers.setCell _ _ _).trans (.setCell _ _ _)).trans (.setCell _ _ _)).trans (.setCell _ _ _)).trans (.setCell _ _ _)).from _, rfl, ?_, ⟨A', c', ?_, HGO.out.mono (Nat.le_refl _) (by omega), ?_⟩, ?_⟩
          · exact (((((HI.out.2.1.setCell (p := ⟨w.heap.size + 1 + 1 + 1, 0, none⟩) (by show _ ≤ w.heap.size + 1 + 1 + 1; omega) _).setCell (p := ⟨w.heap.size + 1 + 1 + 1, 1, none⟩) (by show _ ≤ w.heap.size + 1 + 1 + 1; omega) _).setCell (p := ⟨w.heap.size + 1 + 1 + 1, 2, none⟩) (by show _ ≤ w.heap.size + 1 + 1 + 1; omega) _).setCell (p := ⟨w.heap.size + 1 + 1 + 1, 3, none⟩) (by show _ ≤ w.heap.size + 1 + 1 + 1; omega) _).setCell (p := ⟨w.heap.size + 1 + 1 + 1 + 1, 0, none⟩) (by show _ ≤ w.heap.size + 1 + 1 + 1 + 1; omega) _)
          · have g5 := HGA.out
            exact (((((g5.farSet HGO.out (p := ⟨w.heap.size + 1 + 1 + 1, 0, none⟩) (by show _ ≤ w.heap.size + 1 + 1 + 1; omega) (by show w.heap.size + 1 + 1 + 1 < _; omega) _).farSet HGO.out (p := ⟨w.heap.size + 1 + 1 + 1, 1, none⟩) (by show _ ≤ w.heap.size + 1 + 1 + 1; omega) (by show w.heap.size + 1 + 1 + 1 < _; omega) _).farSet HGO.out (p := ⟨w.heap.size + 1 + 1 + 1, 2, none⟩) (by show _ ≤ w.heap.size + 1 + 1 + 1; omega) (by show w.heap.size + 1 + 1 + 1 < _; omega) _).farSet HGO.out (p := ⟨w.heap.size + 1 + 1 + 1, 3, none⟩) (by show _ ≤ w.heap.size + 1 + 1 + 1; omega) (by show w.heap.size + 1 + 1 + 1 < _; omega) _).farSet HGO.out (p := ⟨w.heap.size + 1 + 1 + 1 + 1, 0, none⟩) (by show _ ≤ w.heap.size + 1 + 1 + 1 + 1; omega) (by show w.heap.size + 1 + 1 + 1 + 1 < _; omega) _)
          · exact ((((rZ.out.set 0 _).set 1 _).set 2 _).set 3 _).far (p := ⟨w.heap.size + 1 + 1 + 1 + 1, 0, none⟩) (by show w.heap.size + 1 + 1 + 1 ≠ w.heap.size + 1 + 1 + 1 + 1; omega) _
          · exact ((((rE.out.far (p := ⟨w.heap.size + 1 + 1 + 1, 0, none⟩) (by show w.heap.size + 1 + 1 + 1 + 1 ≠ w.heap.size + 1 + 1 + 1; omega) _).far (p := ⟨w.heap.size + 1 + 1 + 1, 1, none⟩) (by show w.heap.size + 1 + 1 + 1 + 1 ≠ w.heap.size + 1 + 1 + 1; omega) _).far (p := ⟨w.heap.size + 1 + 1 + 1, 2, none⟩) (by show w.heap.size + 1 + 1 + 1 + 1 ≠ w.heap.size + 1 + 1 + 1; omega) _).far (p := ⟨w.heap.size + 1 + 1 + 1, 3, none⟩) (by show w.heap.size + 1 + 1 + 1 + 1 ≠ w.heap.size + 1 + 1 + 1; omega) _).set 0 _
        · have hk2 : ¬ ((k : Int) = (mz : Int)) := by omega
          gi_wp2
          exact ⟨KeepsFrom.refl _ _, KC.refl _, by omega, HI.out.2⟩
      case stop =>
        rintro D c W hD ⟨rfl, j1, ⟨A', c', j2, j8, j3⟩, j4⟩ hK
        have J1 : Hid (Below w.heap.size w W) := j1
        have J2 : Hid (GAt W (genG t g mz) A' n) := j2
        have J3 : Hid (Row W (w.heap.size + 1 + 1 + 1) 28 [.int .i64 g.w, .int .i64 g.h, .int .i64 g.edge, .slice A' n c']) := j3
        have J4 : Hid (Row W (w.heap.size + 1 + 1 + 1 + 1) 31 [.int .i64 0]) := j4
        have HKD : Hid (W.heap[D]? = some (.deferred (some []))) := hK
        clear j1 j2 j3 j4 hK
        gi_wp2
        have KP : KC W (W.putObj D (.deferred none)) := .putObj _ HKD.out rfl
        have Z9 := KP.row J3.out
        have E9 := KP.row J4.out
        have d0 := Z9.cell 0
        have d1 := Z9.cell 1
        have d2 := Z9.cell 2
        have d3 := Z9.cell 3
        have d4 := E9.cell 0
        simp only [List.getElem?_cons_zero, List.getElem?_cons_succ] at d0 d1 d2 d3 d4
        clear Z9 E9
        refine ⟨by simp, .inl ⟨_, _, rfl, run_takeDeferred HKD.out, ?_⟩⟩
        refine ⟨.tuple #[.agg #[.int .i64 g.w, .int .i64 g.h, .int .i64 g.edge, .slice A' n c'], .int .i64 0], by simp [results, Try.results14, go_sem, d0, d1, d2, d3, d4], ?_⟩
        show GPostN _ _ _ _ _ _
        rw [HRR.out (), HER.out ()]
        exact ⟨A', n, c', by rw [(genG_shape t g mz).1, (genG_shape t g mz).2.1, (genG_shape t g mz).2.2.1], J2.out.kc KP, j8, belowSteps J1.out (Nat.le_refl _) (.putObj (G := w.heap.size) (B := w2.heap.size) _ hD HKD.out rfl) (Nat.le_refl _) B_w.out.size⟩
    · have HER : Hid (∀ _ : Unit, runErr t g z = 2) := fun _ => runErr_out (HF.out ()) hz
      have RN1 : Hid (Row w1 (w.heap.size + 1 + 1) 3 [.int .i64 z]) := (rowCells RN.out B_wa.out)
      have n0 := RN1.out.cell 0
      have nl := RN1.out.lt
      simp only [List.getElem?_cons_zero, List.getElem?_cons_succ] at n0
      by_cases hz0 : z < 0
      · clear hz
        have z0 := (rowCells RZ.out B_wa.out).cell 0
        have z1 := (rowCells RZ.out B_wa.out).cell 1
        have z2 := (rowCells RZ.out B_wa.out).cell 2
        have z3 := (rowCells RZ.out B_wa.out).cell 3
        have zl := (rowCells RZ.out B_wa.out).lt
        simp only [List.getElem?_cons_zero, List.getElem?_cons_succ] at z0 z1 z2 z3
        have zf0 := (show Row _ _ _ _ from (rowCells RZ.out B_wa.out)).frozen 0
        have zf1 := (show Row _ _ _ _ from (rowCells RZ.out B_wa.out)).frozen 1
        have zf2 := (show Row _ _ _ _ from (rowCells RZ.out B_wa.out)).frozen 2
        have zf3 := (show Row _ _ _ _ from (rowCells RZ.out B_wa.out)).frozen 3
        have y0 := (rowCells RE.out B_wa.out).cell 0
        have yl := (rowCells RE.out B_wa.out).lt
        simp only [List.getElem?_cons_zero, List.getElem?_cons_succ] at y0
        have yf0 := (show Row _ _ _ _ from (rowCells RE.out B_wa.out)).frozen 0
        gi_wp2
        have Z9 : Row (World.setCell (World.setCell (World.setCell (World.setCell (World.setCell w1 ⟨w.heap.size + 1 + 1 + 1, 0, none⟩ (.int .i64 0)) ⟨w.heap.size + 1 + 1 + 1, 1, none⟩ (.int .i64 0)) ⟨w.heap.size + 1 + 1 + 1, 2, none⟩ (.int .i64 0)) ⟨w.heap.size + 1 + 1 + 1, 3, none⟩ (.slice none 0 0)) ⟨w.heap.size + 1 + 1 + 1 + 1, 0, none⟩ (.int .i64 (2))) (w.heap.size + 1 + 1 + 1) 28 [.int .i64 0, .int .i64 0, .int .i64 0, .slice none 0 0] := (Row.far (Row.set (Row.set (Row.set (Row.set (rowCells RZ.out B_wa.out) 0 (.int .i64 0)) 1 (.int .i64 0)) 2 (.int .i64 0)) 3 (.slice none 0 0)) (p := ⟨w.heap.size + 1 + 1 + 1 + 1, 0, none⟩) (by show w.heap.size + 1 + 1 + 1 ≠ w.heap.size + 1 + 1 + 1 + 1; omega) (.int .i64 (2)))
        have E9 : Row (World.setCell (World.setCell (World.setCell (World.setCell (World.setCell w1 ⟨w.heap.size + 1 + 1 + 1, 0, none⟩ (.int .i64 0)) ⟨w.heap.size + 1 + 1 + 1, 1, none⟩ (.int .i64 0)) ⟨w.heap.size + 1 + 1 + 1, 2, none⟩ (.int .i64 0)) ⟨w.heap.size + 1 + 1 + 1, 3, none⟩ (.slice none 0 0)) ⟨w.heap.size + 1 + 1 + 1 + 1, 0, none⟩ (.int .i64 (2))) (w.heap.size + 1 + 1 + 1 + 1) 31 [.int .i64 (2)] := (Row.set (Row.far (Row.far (Row.far (Row.far (rowCells RE.out B_wa.out) (p := ⟨w.heap.size + 1 + 1 + 1, 0, none⟩) (by show w.heap.size + 1 + 1 + 1 + 1 ≠ w.heap.size + 1 + 1 + 1; omega) (.int .i64 0)) (p := ⟨w.heap.size + 1 + 1 + 1, 1, none⟩) (by show w.heap.size + 1 + 1 + 1 + 1 ≠ w.heap.size + 1 + 1 + 1; omega) (.int .i64 0)) (p := ⟨w.heap.size + 1 + 1 + 1, 2, none⟩) (by show w.heap.size + 1 + 1 + 1 + 1 ≠ w.heap.size + 1 + 1 + 1; omega) (.int .i64 0)) (p := ⟨w.heap.size + 1 + 1 + 1, 3, none⟩) (by show w.heap.size + 1 + 1 + 1 + 1 ≠ w.heap.size + 1 + 1 + 1; omega) (.slice none 0 0)) 0 (.int .i64 (2)))
        have B9 : Hid (Below w.heap.size w (World.setCell (World.setCell (World.setCell (World.setCell (World.setCell w1 ⟨w.heap.size + 1 + 1 + 1, 0, none⟩ (.int .i64 0)) ⟨w.heap.size + 1 + 1 + 1, 1, none⟩ (.int .i64 0)) ⟨w.heap.size + 1 + 1 + 1, 2, none⟩ (.int .i64 0)) ⟨w.heap.size + 1 + 1 + 1, 3, none⟩ (.slice none 0 0)) ⟨w.heap.size + 1 + 1 + 1 + 1, 0, none⟩ (.int .i64 (2)))) := (Below.setCell (Below.setCell (Below.setCell (Below.setCell (Below.setCell B_w.out (p := ⟨w.heap.size + 1 + 1 + 1, 0, none⟩) (by show _ ≤ w.heap.size + 1 + 1 + 1; omega) (.int .i64 0)) (p := ⟨w.heap.size + 1 + 1 + 1, 1, none⟩) (by show _ ≤ w.heap.size + 1 + 1 + 1; omega) (.int .i64 0)) (p := ⟨w.heap.size + 1 + 1 + 1, 2, none⟩) (by show _ ≤ w.heap.size + 1 + 1 + 1; omega) (.int .i64 0)) (p := ⟨w.heap.size + 1 + 1 + 1, 3, none⟩) (by show _ ≤ w.heap.size + 1 + 1 + 1; omega) (.slice none 0 0)) (p := ⟨w.heap.size + 1 + 1 + 1 + 1, 0, none⟩) (by show _ ≤ w.heap.size + 1 + 1 + 1 + 1; omega) (.int .i64 (2)))
        have d0 := Z9.cell 0
        have d1 := Z9.cell 1
        have d2 := Z9.cell 2
        have d3 := Z9.cell 3
        have d4 := E9.cell 0
        simp only [List.getElem?_cons_zero, List.getElem?_cons_succ] at d0 d1 d2 d3 d4
        clear Z9 E9
        refine ⟨.tuple #[.agg #[.int .i64 0, .int .i64 0, .int .i64 0, .slice none 0 0], .int .i64 (2)], by simp [results, Try.results14, go_sem, d0, d1, d2, d3, d4], ?_⟩
        exact gpostN_err (runR_err (HER.out ()) (by decide)) (HER.out ()) B9.out
      · have hz1 : z > 10000 := by omega
        clear hz
        have z0 := (rowCells RZ.out B_wa.out).cell 0
        have z1 := (rowCells RZ.out B_wa.out).cell 1
        have z2 := (rowCells RZ.out B_wa.out).cell 2
        have z3 := (rowCells RZ.out B_wa.out).cell 3
        have zl := (rowCells RZ.out B_wa.out).lt
        simp only [List.getElem?_cons_zero, List.getElem?_cons_succ] at z0 z1 z2 z3
        have zf0 := (show Row _ _ _ _ from (rowCells RZ.out B_wa.out)).frozen 0
        have zf1 := (show Row _ _ _ _ from (rowCells RZ.out B_wa.out)).frozen 1
        have zf2 := (show Row _ _ _ _ from (rowCells RZ.out B_wa.out)).frozen 2
        have zf3 := (show Row _ _ _ _ from (rowCells RZ.out B_wa.out)).frozen 3
        have y0 := (rowCells RE.out B_wa.out).cell 0
        have yl := (rowCells RE.out B_wa.out).lt
        simp only [List.getElem?_cons_zero, List.getElem?_cons_succ] at y0
        have yf0 := (show Row _ _ _ _ from (rowCells RE.out B_wa.out)).frozen 0
        gi_wp2
        have Z9 : Row (World.setCell (World.setCell (World.setCell (World.setCell (World.setCell w1 ⟨w.heap.size + 1 + 1 + 1, 0, none⟩ (.int .i64 0)) ⟨w.heap.size + 1 + 1 + 1, 1, none⟩ (.int .i64 0)) ⟨w.heap.size + 1 + 1 + 1, 2, none⟩ (.int .i64 0)) ⟨w.heap.size + 1 + 1 + 1, 3, none⟩ (.slice none 0 0)) ⟨w.heap.size + 1 + 1 + 1 + 1, 0, none⟩ (.int .i64 (2))) (w.heap.size + 1 + 1 + 1) 28 [.int .i64 0, .int .i64 0, .int .i64 0, .slice none 0 0] := (Row.far (Row.set (Row.set (Row.set (Row.set (rowCells RZ.out B_wa.out) 0 (.int .i64 0)) 1 (.int .i64 0)) 2 (.int .i64 0)) 3 (.slice none 0 0)) (p := ⟨w.heap.size + 1 + 1 + 1 + 1, 0, none⟩) (by show w.heap.size + 1 + 1 + 1 ≠ w.heap.size + 1 + 1 + 1 + 1; omega) (.int .i64 (2)))
        have E9 : Row (World.setCell (World.setCell (World.setCell (World.setCell (World.setCell w1 ⟨w.heap.size + 1 + 1 + 1, 0, none⟩ (.int .i64 0)) ⟨w.heap.size + 1 + 1 + 1, 1, none⟩ (.int .i64 0)) ⟨w.heap.size + 1 + 1 + 1, 2, none⟩ (.int .i64 0)) ⟨w.heap.size + 1 + 1 + 1, 3, none⟩ (.slice none 0 0)) ⟨w.heap.size + 1 + 1 + 1 + 1, 0, none⟩ (.int .i64 (2))) (w.heap.size + 1 + 1 + 1 + 1) 31 [.int .i64 (2)] := (Row.set (Row.far (Row.far (Row.far (Row.far (rowCells RE.out B_wa.out) (p := ⟨w.heap.size + 1 + 1 + 1, 0, none⟩) (by show w.heap.size + 1 + 1 + 1 + 1 ≠ w.heap.size + 1 + 1 + 1; omega) (.int .i64 0)) (p := ⟨w.heap.size + 1 + 1 + 1, 1, none⟩) (by show w.heap.size + 1 + 1 + 1 + 1 ≠ w.heap.size + 1 + 1 + 1; omega) (.int .i64 0)) (p := ⟨w.heap.size + 1 + 1 + 1, 2, none⟩) (by show w.heap.size + 1 + 1 + 1 + 1 ≠ w.heap.size + 1 + 1 + 1; omega) (.int .i64 0)) (p := ⟨w.heap.size + 1 + 1 + 1, 3, none⟩) (by show w.heap.size + 1 + 1 + 1 + 1 ≠ w.heap.size + 1 + 1 + 1; omega) (.slice none 0 0)) 0 (.int .i64 (2)))
        have B9 : Hid (Below w.heap.size w (World.setCell (World.setCell (World.setCell (World.setCell (World.setCell w1 ⟨w.heap.size + 1 + 1 + 1, 0, none⟩ (.int .i64 0)) ⟨w.heap.size + 1 + 1 + 1, 1, none⟩ (.int .i64 0)) ⟨w.heap.size + 1 + 1 + 1, 2, none⟩ (.int .i64 0)) ⟨w.heap.size + 1 + 1 + 1, 3, none⟩ (.slice none 0 0)) ⟨w.heap.size + 1 + 1 + 1 + 1, 0, none⟩ (.int .i64 (2)))) := (Below.setCell (Below.setCell (Below.setCell (Below.setCell (Below.setCell B_w.out (p := ⟨w.heap.size + 1 + 1 + 1, 0, none⟩) (by show _ ≤ w.heap.size + 1 + 1 + 1; omega) (.int .i64 0)) (p := ⟨w.heap.size + 1 + 1 + 1, 1, none⟩) (by show _ ≤ w.heap.size + 1 + 1 + 1; omega) (.int .i64 0)) (p := ⟨w.heap.size + 1 + 1 + 1, 2, none⟩) (by show _ ≤ w.heap.size + 1 + 1 + 1; omega) (.int .i64 0)) (p := ⟨w.heap.size + 1 + 1 + 1, 3, none⟩) (by show _ ≤ w.heap.size + 1 + 1 + 1; omega) (.slice none 0 0)) (p := ⟨w.heap.size + 1 + 1 + 1 + 1, 0, none⟩) (by show _ ≤ w.heap.size + 1 + 1 + 1 + 1; omega) (.int .i64 (2)))
        have d0 := Z9.cell 0
        have d1 := Z9.cell 1
        have d2 := Z9.cell 2
        have d3 := Z9.cell 3
        have d4 := E9.cell 0
        simp only [List.getElem?_cons_zero, List.getElem?_cons_succ] at d0 d1 d2 d3 d4
        clear Z9 E9
        refine ⟨.tuple #[.agg #[.int .i64 0, .int .i64 0, .int .i64 0, .slice none 0 0], .int .i64 (2)], by simp [results, Try.results14, go_sem, d0, d1, d2, d3, d4], ?_⟩
        exact gpostN_err (runR_err (HER.out ()) (by decide)) (HER.out ()) B9.out
  · have HER : Hid (∀ _ : Unit, runErr t g z = fe ∧ fe ≠ 0) := fun _ => ⟨by rw [← HFE.out]; exact runErr_fits z (by rw [HFE.out]; exact hf), hf⟩
    clear HFE HL
    have z0 := (rowCells RZ.out B_wa.out).cell 0
    have z1 := (rowCells RZ.out B_wa.out).cell 1
    have z2 := (rowCells RZ.out B_wa.out).cell 2
    have z3 := (rowCells RZ.out B_wa.out).cell 3
    have zl := (rowCells RZ.out B_wa.out).lt
    simp only [List.getElem?_cons_zero, List.getElem?_cons_succ] at z0 z1 z2 z3
    have zf0 := (show Row _ _ _ _ from (rowCells RZ.out B_wa.out)).frozen 0
    have zf1 := (show Row _ _ _ _ from (rowCells RZ.out B_wa.out)).frozen 1
    have zf2 := (show Row _ _ _ _ from (rowCells RZ.out B_wa.out)).frozen 2
    have zf3 := (show Row _ _ _ _ from (rowCells RZ.out B_wa.out)).frozen 3
    have y0 := (rowCells RE.out B_wa.out).cell 0
    have yl := (rowCells RE.out B_wa.out).lt
    simp only [List.getElem?_cons_zero, List.getElem?_cons_succ] at y0
    have yf0 := (show Row _ _ _ _ from (rowCells RE.out B_wa.out)).frozen 0
    gi_wp2
    have Z9 : Row (World.setCell (World.setCell (World.setCell (World.setCell (World.setCell w1 ⟨w.heap.size + 1 + 1 + 1, 0, none⟩ (.int .i64 0)) ⟨w.heap.size + 1 + 1 + 1, 1, none⟩ (.int .i64 0)) ⟨w.heap.size + 1 + 1 + 1, 2, none⟩ (.int .i64 0)) ⟨w.heap.size + 1 + 1 + 1, 3, none⟩ (.slice none 0 0)) ⟨w.heap.size + 1 + 1 + 1 + 1, 0, none⟩ (.int .i64 (fe))) (w.heap.size + 1 + 1 + 1) 28 [.int .i64 0, .int .i64 0, .int .i64 0, .slice none 0 0] := (Row.far (Row.set (Row.set (Row.set (Row.set (rowCells RZ.out B_wa.out) 0 (.int .i64 0)) 1 (.int .i64 0)) 2 (.int .i64 0)) 3 (.slice none 0 0)) (p := ⟨w.heap.size + 1 + 1 + 1 + 1, 0, none⟩) (by show w.heap.size + 1 + 1 + 1 ≠ w.heap.size + 1 + 1 + 1 + 1; omega) (.int .i64 (fe)))
    have E9 : Row (World.setCell (World.setCell (World.setCell (World.setCell (World.setCell w1 ⟨w.heap.size + 1 + 1 + 1, 0, none⟩ (.int .i64 0)) ⟨w.heap.size + 1 + 1 + 1, 1, none⟩ (.int .i64 0)) ⟨w.heap.size + 1 + 1 + 1, 2, none⟩ (.int .i64 0)) ⟨w.heap.size + 1 + 1 + 1, 3, none⟩ (.slice none 0 0)) ⟨w.heap.size + 1 + 1 + 1 + 1, 0, none⟩ (.int .i64 (fe))) (w.heap.size + 1 + 1 + 1 + 1) 31 [.int .i64 (fe)] := (Row.set (Row.far (Row.far (Row.far (Row.far (rowCells RE.out B_wa.out) (p := ⟨w.heap.size + 1 + 1 + 1, 0, none⟩) (by show w.heap.size + 1 + 1 + 1 + 1 ≠ w.heap.size + 1 + 1 + 1; omega) (.int .i64 0)) (p := ⟨w.heap.size + 1 + 1 + 1, 1, none⟩) (by show w.heap.size + 1 + 1 + 1 + 1 ≠ w.heap.size + 1 + 1 + 1; omega) (.int .i64 0)) (p := ⟨w.heap.size + 1 + 1 + 1, 2, none⟩) (by show w.heap.size + 1 + 1 + 1 + 1 ≠ w.heap.size + 1 + 1 + 1; omega) (.int .i64 0)) (p := ⟨w.heap.size + 1 + 1 + 1, 3, none⟩) (by show w.heap.size + 1 + 1 + 1 + 1 ≠ w.heap.size + 1 + 1 + 1; omega) (.slice none 0 0)) 0 (.int .i64 (fe)))
    have B9 : Hid (Below w.heap.size w (World.setCell (World.setCell (World.setCell (World.setCell (World.setCell w1 ⟨w.heap.size + 1 + 1 + 1, 0, none⟩ (.int .i64 0)) ⟨w.heap.size + 1 + 1 + 1, 1, none⟩ (.int .i64 0)) ⟨w.heap.size + 1 + 1 + 1, 2, none⟩ (.int .i64 0)) ⟨w.heap.size + 1 + 1 + 1, 3, none⟩ (.slice none 0 0)) ⟨w.heap.size + 1 + 1 + 1 + 1, 0, none⟩ (.int .i64 (fe)))) := (Below.setCell (Below.setCell (Below.setCell (Below.setCell (Below.setCell B_w.out (p := ⟨w.heap.size + 1 + 1 + 1, 0, none⟩) (by show _ ≤ w.heap.size + 1 + 1 + 1; omega) (.int .i64 0)) (p := ⟨w.heap.size + 1 + 1 + 1, 1, none⟩) (by show _ ≤ w.heap.size + 1 + 1 + 1; omega) (.int .i64 0)) (p := ⟨w.heap.size + 1 + 1 + 1, 2, none⟩) (by show _ ≤ w.heap.size + 1 + 1 + 1; omega) (.int .i64 0)) (p := ⟨w.heap.size + 1 + 1 + 1, 3, none⟩) (by show _ ≤ w.heap.size + 1 + 1 + 1; omega) (.slice none 0 0)) (p := ⟨w.heap.size + 1 + 1 + 1 + 1, 0, none⟩) (by show _ ≤ w.heap.size + 1 + 1 + 1 + 1; omega) (.int .i64 (fe)))
    have d0 := Z9.cell 0
    have d1 := Z9.cell 1
    have d2 := Z9.cell 2
    have d3 := Z9.cell 3
    have d4 := E9.cell 0
    simp only [List.getElem?_cons_zero, List.getElem?_cons_succ] at d0 d1 d2 d3 d4
    clear Z9 E9
    refine ⟨.tuple #[.agg #[.int .i64 0, .int .i64 0, .int .i64 0, .slice none 0 0], .int .i64 (fe)], by simp [results, Try.results14, go_sem, d0, d1, d2, d3, d4], ?_⟩
    exact gpostN_err (runR_err (HER.out ()).1 (HER.out ()).2) (HER.out ()).1 B9.out
end Go.Proofs.Ytdkfaphclhaiaaa
