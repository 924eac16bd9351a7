/-
  Small and row of the laws, key of package gridstep, walked.
-/
import Derived.Test.YtdkfaphclhaiaaaNPlain
import Derived.Test.YtdkfaphclhaiaaaTEvalB
import Derived.Test.YtdkfaphclhaiaaaGPost
import Derived.Test.YtdkfaphclhaiaaaApp
namespace Go.Proofs.Ytdkfaphclhaiaaa
open Go.RowKit
set_option linter.unusedSimpArgs false
set_option linter.unusedVariables false
def smallN (t : Tre) (g : Grd) : Bool := fewT t && decide (g.cells.length ≤ 100)
set_option maxRecDepth 100000 in
set_option maxHeartbeats 2000000 in
theorem smallN_any (t : Tre) (g : Grd) (HA NA A : Option Addr) (hn hc nn nc n ac : Nat) (sl : List Sl) (w : World) (ht : TAt w t HA NA hn nn sl) (hg : GAt w g A n) :
    Calls Try.prog 9 #[.agg #[.int .i64 t.states, .slice HA hn hc, .slice NA nn nc], .agg #[.int .i64 g.w, .int .i64 g.h, .int .i64 g.edge, .slice A n ac]] w fun e w' => e = .returned (.bool (smallN t g)) ∧ Below w.heap.size w w' := by
  have HT : Hid (TAt w t HA NA hn nn sl) := ht
  have hl := hg.cl
  have HV : Hid (∀ _ : Unit, smallN t g = (fewT t && decide (n ≤ 100))) := fun _ => by rw [smallN, hl]
  have hm := hg.c63
  unfold maxLen at hm
  clear ht hg hl
  go_enter Try.func9, Try.ntmps9
  go_wp2_with fail
  have RT : Hid (Row (World.alloc (World.alloc w (.cells #[.int .i64 t.states, .slice HA hn hc, .slice NA nn nc] 25)) (.cells #[.int .i64 g.w, .int .i64 g.h, .int .i64 g.edge, .slice A n ac] 28)) (w.heap.size) 25 [.int .i64 t.states, .slice HA hn hc, .slice NA nn nc]) := by
    have h0 := Row.new w 25 [.int .i64 t.states, .slice HA hn hc, .slice NA nn nc]
    try simp only [World.size_alloc] at h0
    exact (h0.alloc _)
  have RG : Hid (Row (World.alloc (World.alloc w (.cells #[.int .i64 t.states, .slice HA hn hc, .slice NA nn nc] 25)) (.cells #[.int .i64 g.w, .int .i64 g.h, .int .i64 g.edge, .slice A n ac] 28)) (w.heap.size + 1) 28 [.int .i64 g.w, .int .i64 g.h, .int .i64 g.edge, .slice A n ac]) := by
    have h0 := Row.new (World.alloc w (.cells #[.int .i64 t.states, .slice HA hn hc, .slice NA nn nc] 25)) 28 [.int .i64 g.w, .int .i64 g.h, .int .i64 g.edge, .slice A n ac]
    try simp only [World.size_alloc] at h0
    exact h0
  have hgr9 : Below w.heap.size w (World.alloc (World.alloc w (.cells #[.int .i64 t.states, .slice HA hn hc, .slice NA nn nc] 25)) (.cells #[.int .i64 g.w, .int .i64 g.h, .int .i64 g.edge, .slice A n ac] 28)) := by go_grown
  have B_w : Hid (Below w.heap.size w (World.alloc (World.alloc w (.cells #[.int .i64 t.states, .slice HA hn hc, .slice NA nn nc] 25)) (.cells #[.int .i64 g.w, .int .i64 g.h, .int .i64 g.edge, .slice A n ac] 28))) := hgr9
  clear hgr9
  revert RT RG B_w
  generalize (World.alloc (World.alloc w (.cells #[.int .i64 t.states, .slice HA hn hc, .slice NA nn nc] 25)) (.cells #[.int .i64 g.w, .int .i64 g.h, .int .i64 g.edge, .slice A n ac] 28)) = wa
  intro RT RG B_w
  refine (fewT_any t HA NA hn hc nn nc sl wa (HT.out.up B_w.out)).mono ?_
  rintro e w1 ⟨rfl, hb⟩
  have B_w : Hid (Below w.heap.size w w1) := below_on2 B_w.out hb
  have B_wa : Hid (Below wa.heap.size wa w1) := hb
  clear hb
  obtain ⟨fe, hfe⟩ : ∃ fe, fewT t = fe := ⟨_, rfl⟩
  have HFE : Hid (∀ _ : Unit, fewT t = fe) := fun _ => hfe
  rw [hfe]
  clear hfe
  have qR : Hid (Row w1 (w.heap.size + 1) 28 [.int .i64 g.w, .int .i64 g.h, .int .i64 g.edge, .slice A n ac]) := (rowCells RG.out B_wa.out)
  have q0 := qR.out.cell 0
  have q1 := qR.out.cell 1
  have q2 := qR.out.cell 2
  have q3 := qR.out.cell 3
  have ql := qR.out.lt
  simp only [List.getElem?_cons_zero, List.getElem?_cons_succ] at q0 q1 q2 q3
  clear qR
  cases fe
  · go_wp2
    go_ret
    exact ⟨ret_bool (by rw [HV.out (), HFE.out ()]; rfl), B_w.out⟩
  · go_wp2
    go_ret
    exact ⟨ret_bool (by rw [HV.out (), HFE.out ()]; first | rfl | (simp; done) | (simp; omega)), B_w.out⟩
theorem rowN_any (zs : List Int) (A : Option Addr) (n c : Nat) (w : World) (hr : Rd w w.heap.size 1 A n (ints zs)) (hn : n ≤ 1000) :
    Calls Try.prog 22 #[.slice A n c] w fun e w' => e = .returned (.agg #[.int .i64 (n : Int), .int .i64 1, .int .i64 0, .slice A n c]) ∧ GAt w' ⟨n, 1, 0, zs⟩ A n ∧ Below w.heap.size w w' := by
  have HR : Hid (Rd w w.heap.size 1 A n (ints zs)) := hr
  clear hr
  go_enter Try.func22, Try.ntmps22
  go_wp2
  have Z9 := Row.new w 28 [.int .i64 (n : Int), .int .i64 1, .int .i64 0, .slice A n c]
  have d0 := Z9.cell 0
  have d1 := Z9.cell 1
  have d2 := Z9.cell 2
  have d3 := Z9.cell 3
  simp only [List.getElem?_cons_zero, List.getElem?_cons_succ] at d0 d1 d2 d3
  refine bodyPost_ret (v := .agg #[.int .i64 (n : Int), .int .i64 1, .int .i64 0, .slice A n c]) (by simp [results, Try.results22, go_sem, d0, d1, d2, d3]) rfl ?_
  exact ⟨rfl, ⟨(HR.out.alloc (Nat.le_refl _) _).more (by simp), by unfold maxLen; omega⟩, by go_grown⟩
end Go.Proofs.Ytdkfaphclhaiaaa
