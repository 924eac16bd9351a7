/-
  grid.Get and the reference's Get, walked.
-/
import Derived.Test.YtdkfaphclhaiaaaGRight
import Derived.Test.YtdkfaphclhaiaaaGRefRB
import Derived.Test.YtdkfaphclhaiaaaGLaw
import Derived.Deep.RegionHeld3
namespace Go.Proofs.Ytdkfaphclhaiaaa
open Go.RowKit
set_option linter.unusedSimpArgs false
set_option linter.unusedVariables false

theorem inV_bd {x w e : Int} (hw : 1 ≤ w) (h : inB x w e = true) : 0 ≤ inV x w e ∧ inV x w e < w := by
  have h1 := mod_bd x w (by omega)
  have h2 := foldF_bd x w (by omega)
  unfold inB at h
  unfold inV
  split
  · exact h2
  · split
    · exact h1
    · rw [if_neg (by omega)] at h
      simpa using h
theorem getF_in {g : Grd} {x y : Int} (hr : rightG g = true) (hx : inB x g.w g.edge = true) (hy : inB y g.h g.edge = true) : getF g x y = g.cells.getD (inV y g.h g.edge * g.w + inV x g.w g.edge).toNat 0 := by
  obtain ⟨hs, _, _⟩ := rightG_parts hr
  obtain ⟨hw, hh, _, he⟩ := sizedF_parts hs
  have b1 := inV_bd hw.1 hx
  have b2 := inV_bd hh.1 hy
  unfold getF
  rw [if_pos hr, inside_at _ _ _ hw.1 he, inside_at _ _ _ hh.1 he, if_pos hx, if_pos hy, if_neg (by omega)]
theorem getF_out {g : Grd} {x y : Int} (hr : rightG g = true) (h : inB x g.w g.edge = false ∨ inB y g.h g.edge = false) : getF g x y = 0 := by
  obtain ⟨hs, _, _⟩ := rightG_parts hr
  obtain ⟨hw, hh, _, he⟩ := sizedF_parts hs
  unfold getF
  rw [if_pos hr, if_pos]
  rw [inside_at _ _ _ hw.1 he, inside_at _ _ _ hh.1 he]
  rcases h with h | h
  · left; rw [h]; simp
  · right; rw [h]; simp

set_option maxRecDepth 100000 in
set_option maxHeartbeats 1000000 in
theorem gGet_any (g : Grd) (A : Option Addr) (n c : Nat) (x y : Int) (w : World) (h : GAt w g A n) :
    Calls Try.prog 42 #[.agg #[.int .i64 g.w, .int .i64 g.h, .int .i64 g.edge, .slice A n c], .int .i64 x, .int .i64 y] w fun e w' => e = .returned (.int .i64 (getF g x y)) ∧ Below w.heap.size w w' := by
  have H : Hid (GAt w g A n) := h
  have HL : Hid (g.cells.length = n) := h.cl
  have hm := h.c63
  unfold maxLen at hm
  clear h
  go_enter Try.func42, Try.ntmps42
  go_wp2_with fail
  refine (gRight_any g A n c _ (H.out.up (by go_grown))).mono ?_
  rintro e w1 ⟨rfl, hb⟩
  have HB : Hid (Below w.heap.size w w1) := below_next hb (by go_grown)
  have RC : Hid (Row w1 w.heap.size 28 [.int .i64 g.w, .int .i64 g.h, .int .i64 g.edge, .slice A n c]) := rowCells (Row.new w 28 [.int .i64 g.w, .int .i64 g.h, .int .i64 g.edge, .slice A n c]) hb
  clear hb
  cases hr : rightG g
  · have hv : Hid (getF g x y = 0) := by show _ = _; unfold getF; rw [hr]; rfl
    clear RC
    go_wp2
    go_ret
    exact ⟨ret_i64 hv.out.symm, HB.out⟩
  · obtain ⟨hs, hl, ha⟩ := rightG_parts hr
    obtain ⟨⟨q1, q2⟩, ⟨h1, h2⟩, hm', he1, he2⟩ := sizedF_parts hs
    obtain ⟨p1, p2⟩ := prod_bd ⟨q1, q2⟩ ⟨h1, h2⟩
    have HR : Hid (rightG g = true) := hr
    have HN : Hid ((n : Int) = g.w * g.h) := by have := HL.out; show _ = _; omega
    clear hr hs hl ha
    have c0 := RC.out.cell 0
    have c1 := RC.out.cell 1
    have c2 := RC.out.cell 2
    have c3 := RC.out.cell 3
    simp only [List.getElem?_cons_zero, List.getElem?_cons_succ] at c0 c1 c2 c3
    go_wp2_with fail
    refine (inside_any x g.w g.edge _ q1 q2).mono ?_
    rintro e w2 ⟨rfl, rfl⟩
    go_wp2_with fail
    refine (inside_any y g.h g.edge _ h1 h2).mono ?_
    rintro e w2 ⟨rfl, rfl⟩
    cases hx : inB x g.w g.edge
    · have hv : Hid (getF g x y = 0) := getF_out HR.out (.inl hx)
      go_wp2
      go_ret
      exact ⟨ret_i64 hv.out.symm, HB.out⟩
    · cases hy : inB y g.h g.edge
      · have hv : Hid (getF g x y = 0) := getF_out HR.out (.inr hy)
        go_wp2
        go_ret
        exact ⟨ret_i64 hv.out.symm, HB.out⟩
      · have hv : Hid (getF g x y = _) := getF_in HR.out hx hy
        have bx := inV_bd q1 hx
        have by_ := inV_bd h1 hy
        have hp := place_bd bx by_
        clear hx hy
        generalize inV x g.w g.edge = i at *
        generalize inV y g.h g.edge = k at *
        obtain ⟨bx1, bx2⟩ := bx
        obtain ⟨by1, by2⟩ := by_
        obtain ⟨hp1, hp2⟩ := hp
        have hlt : (k * g.w + i).toNat < n := by have := HN.out; omega
        have hk0 : 0 ≤ k * g.w := Int.mul_nonneg by1 (by omega)
        have hltz : k * g.w + i < (n : Int) := by omega
        obtain ⟨ad, rfl, hb, hcell⟩ := (H.out.up HB.out).cells.int hlt
        generalize g.cells.getD (k * g.w + i).toNat 0 = v at hcell hv
        go_wp2
        go_ret
        exact ⟨ret_i64 hv.out.symm, HB.out⟩

set_option maxRecDepth 100000 in
set_option maxHeartbeats 1000000 in
theorem rGGet_any (g : Grd) (A : Option Addr) (n c : Nat) (x y : Int) (w : World) (h : GAt w g A n) :
    Calls Try.prog 36 #[.agg #[.int .i64 g.w, .int .i64 g.h, .int .i64 g.edge, .slice A n c], .int .i64 x, .int .i64 y] w fun e w' => e = .returned (.int .i64 (getF g x y)) ∧ Below w.heap.size w w' := by
  have H : Hid (GAt w g A n) := h
  have HL : Hid (g.cells.length = n) := h.cl
  have hm := h.c63
  unfold maxLen at hm
  clear h
  go_enter Try.func36, Try.ntmps36
  go_wp2_with fail
  refine (rGRight_any g A n c _ (H.out.up (by go_grown))).mono ?_
  rintro e w1 ⟨rfl, hb⟩
  have HB : Hid (Below w.heap.size w w1) := below_next hb (by go_grown)
  have RC : Hid (Row w1 w.heap.size 28 [.int .i64 g.w, .int .i64 g.h, .int .i64 g.edge, .slice A n c]) := rowCells (Row.new w 28 [.int .i64 g.w, .int .i64 g.h, .int .i64 g.edge, .slice A n c]) hb
  clear hb
  cases hr : rightG g
  · have hv : Hid (getF g x y = 0) := by show _ = _; unfold getF; rw [hr]; rfl
    clear RC
    go_wp2
    go_ret
    exact ⟨ret_i64 hv.out.symm, HB.out⟩
  · obtain ⟨hs, hl, ha⟩ := rightG_parts hr
    obtain ⟨⟨q1, q2⟩, ⟨h1, h2⟩, hm', he1, he2⟩ := sizedF_parts hs
    obtain ⟨p1, p2⟩ := prod_bd ⟨q1, q2⟩ ⟨h1, h2⟩
    have HR : Hid (rightG g = true) := hr
    have HN : Hid ((n : Int) = g.w * g.h) := by have := HL.out; show _ = _; omega
    have hv : Hid (getF g x y = if atF x g.w g.edge < 0 ∨ atF y g.h g.edge < 0 then 0 else g.cells.getD (atF y g.h g.edge * g.w + atF x g.w g.edge).toNat 0) := by show _ = _; unfold getF; rw [if_pos hr]
    have bx := atF_bd x g.w g.edge q1
    have by_ := atF_bd y g.h g.edge h1
    clear hr hs hl ha
    have c0 := RC.out.cell 0
    have c1 := RC.out.cell 1
    have c2 := RC.out.cell 2
    have c3 := RC.out.cell 3
    simp only [List.getElem?_cons_zero, List.getElem?_cons_succ] at c0 c1 c2 c3
    go_wp2_with fail
    go_quiet (first
      | (go_at_call_of 48 (Value.int .i64 x); exact quiet_same (rAt_any x g.w g.edge _ q1 q2))
      | (go_at_call 48; exact quiet_same (rAt_any y g.h g.edge _ h1 h2)))
    generalize atF x g.w g.edge = i at *
    generalize atF y g.h g.edge = k at *
    obtain ⟨bx1, bx2⟩ := bx
    obtain ⟨by1, by2⟩ := by_
    by_cases hi : i < 0
    · have hv' : Hid (getF g x y = 0) := by show _ = _; rw [hv.out, if_pos (.inl hi)]
      go_wp2
      go_ret
      exact ⟨ret_i64 hv'.out.symm, below_drewN HB.out _⟩
    · by_cases hk : k < 0
      · have hv' : Hid (getF g x y = 0) := by show _ = _; rw [hv.out, if_pos (.inr hk)]
        go_wp2
        go_ret
        exact ⟨ret_i64 hv'.out.symm, below_drewN HB.out _⟩
      · have hv' : Hid (getF g x y = g.cells.getD (k * g.w + i).toNat 0) := by have := hv.out; rw [if_neg (by omega)] at this; exact this
        obtain ⟨hp1, hp2⟩ := place_bd (w := g.w) (h := g.h) (x := i) (y := k) (by omega) (by omega)
        have hlt : (k * g.w + i).toNat < n := by have := HN.out; omega
        have hk0 : 0 ≤ k * g.w := Int.mul_nonneg (by omega) (by omega)
        have hltz : k * g.w + i < (n : Int) := by omega
        obtain ⟨ad, rfl, hb, hcell⟩ := (H.out.up HB.out).cells.int hlt
        clear hv
        generalize g.cells.getD (k * g.w + i).toNat 0 = v at hcell hv'
        go_wp2
        go_ret
        exact ⟨ret_i64 hv'.out.symm, below_drewN HB.out _⟩
end Go.Proofs.Ytdkfaphclhaiaaa
