/-
  slices.Clone at integers; grid.Set and the reference's Set, walked.
-/
import Derived.Test.YtoldjjgogdbalaaGNew
import Derived.Test.YtoldjjgogdbalaaGRight
import Derived.Test.YtoldjjgogdbalaaGRefRight
import Derived.Test.YtoldjjgogdbalaaApp
import Derived.Lib.SliceRun
namespace Go.Proofs.Ytoldjjgogdbalaa
open Go.RowKit
set_option linter.unusedSimpArgs false
set_option linter.unusedVariables false

set_option maxHeartbeats 400000 in
theorem clone_ints (A : Option Addr) (n c : Nat) (zs : List Int) (w : World) (hr : Rd w w.heap.size 1 A n (ints zs)) (hn : n ≤ 1000000) :
    Calls Try.prog 35 #[.slice A n c] w fun e w' => ∃ A' c', e = .returned (.slice A' n c') ∧ w'.ownsRow w.heap.size 3 1 (.slice A' n c') n (ints zs) ∧ Below w.heap.size w w' := by
  have HR : Hid (Rd w w.heap.size 1 A n (ints zs)) := hr
  clear hr
  cases A with
  | none =>
    have h0 : n = 0 := by
      rcases Nat.eq_zero_or_pos n with h | h
      · exact h
      · obtain ⟨ad, e, _⟩ := HR.out.ex h; cases e
    subst h0
    have hc : ints zs = [] := List.eq_nil_of_length_eq_zero (by have := HR.out.1; simpa using this)
    have HC : Hid (ints zs = []) := hc
    clear hc
    have e1 := fun W => Lib.run_eql_slice_nil (P := Try.prog) W 22 3 none 0 c 0 0 Try.underlying22
    go_enter Try.func35, Try.ntmps35
    go_wp2
    go_ret
    refine ⟨none, 0, rfl, ?_, Below.refl _ _⟩
    rw [HC.out]
    exact World.ownsRow_nil _ _ _ _
  | some ad =>
    have e1 := fun W => Lib.run_eql_slice_nil (P := Try.prog) W 22 3 (some ad) n c 0 0 Try.underlying22
    go_enter Try.func35, Try.ntmps35
    go_wp2_with (at_builtin; refine wpList_app rfl (.tmp 5) (.tmp 6) 22 rfl w.heap.size 3 (.int .i64 0) 1 8 Try.underlying22 int_infog rfl (by decide) (by decide) (.slice (some ⟨w.heap.size, 0, none⟩) 0 0) 0 [] rfl ?own w.heap.size (some ad) n c (ints zs) rfl ?rd (ints_one zs) ?hb ?hbase ?_)
    case own => exact Row.own (xs := []) (Row.new _ _ _) (Nat.le_refl _) rfl (by unfold maxLen; omega)
    case rd => exact HR.out.below (show Below w.heap.size w _ by go_grown) (Nat.le_refl _)
    case hb => omega
    case hbase => simp
    intro v' w' hown' hgrow' hat'
    have HB : Aside (Below w.heap.size w w') := (show Below w.heap.size w (w.alloc (.cells #[] 3)) by go_grown).grown hgrow' (by simp) (fun k hk => by simp [Value.ownBlock] at hk; omega)
    have HO : Aside (w'.ownsRow w.heap.size 3 1 v' n (ints zs)) := by
      show w'.ownsRow _ _ _ _ _ _
      simpa using hown'
    clear hown' hgrow' hat'
    obtain ⟨A', c', rfl, _⟩ := Rd.own HO.out
    go_wp2
    go_ret
    exact ⟨A', c', rfl, HO.out, HB.out⟩

/-- What a function that returns a grid and an error code hands back. -/
def GPost (r : Grd) (k : Int) (w : World) (e : Ending) (w' : World) : Prop :=
  ∃ (A : Option Addr) (n c : Nat), e = .returned (.tuple #[.agg #[.int .i64 r.w, .int .i64 r.h, .int .i64 r.edge, .slice A n c], .int .i64 k]) ∧ GAt w' r A n ∧ Below w.heap.size w w'
theorem gpost_err {r : Grd} {k k' : Int} {w w' : World} (hr : r = noGrd) (hk : k' = k) (hb : Below w.heap.size w w') : GPost r k' w (.returned (.tuple #[.agg #[.int .i64 0, .int .i64 0, .int .i64 0, .slice none 0 0], .int .i64 k])) w' := by
  subst hr hk
  exact ⟨none, 0, 0, rfl, noGrd_at _, hb⟩
theorem setR_err {g : Grd} {x y s k : Int} (hk : setErr g x y s = k) (h0 : k ≠ 0) : setR g x y s = noGrd := by rw [setR, if_neg (by rw [hk]; exact h0)]
theorem own_ne {g k n c : Nat} (h : g ≠ k) : (Value.slice (some ⟨g, 0, none⟩) n c).ownBlock ≠ some k := by simp [Value.ownBlock, h]
theorem ints_set (zs : List Int) (i : Nat) (v : Int) : (ints zs).set i (.int .i64 v) = ints (zs.set i v) := by simp [ints, List.map_set]

set_option maxRecDepth 100000 in
set_option maxHeartbeats 2000000 in
theorem gSet_any (g : Grd) (A : Option Addr) (n c : Nat) (x y s : Int) (w : World) (h : GAt w g A n) :
    Calls Try.prog 19 #[.agg #[.int .i64 g.w, .int .i64 g.h, .int .i64 g.edge, .slice A n c], .int .i64 x, .int .i64 y, .int .i64 s] w (GPost (setR g x y s) (setErr g x y s) w) := by
  have H : Hid (GAt w g A n) := h
  have HL : Hid (g.cells.length = n) := h.cl
  have hm := h.c63
  unfold maxLen at hm
  clear h
  go_enter Try.func19, Try.ntmps19
  go_wp2_with fail
  refine (gRight_any g A n c _ (H.out.up (by go_grown))).mono ?_
  rintro e w1 ⟨rfl, hb⟩
  have HB : Hid (Below w.heap.size w w1) := below_next hb (by go_grown)
  have RC : Hid (Row w1 w.heap.size 24 [.int .i64 g.w, .int .i64 g.h, .int .i64 g.edge, .slice A n c]) := rowCells ((Row.new w 24 [.int .i64 g.w, .int .i64 g.h, .int .i64 g.edge, .slice A n c]).alloc _) hb
  have RD : Hid (Row w1 (w.heap.size + 1) 24 [.int .i64 0, .int .i64 0, .int .i64 0, .slice none 0 0]) := rowCells (rowNew1 w _ 24 [.int .i64 0, .int .i64 0, .int .i64 0, .slice none 0 0]) hb
  clear hb
  have c0 := RC.out.cell 0
  have c1 := RC.out.cell 1
  have c2 := RC.out.cell 2
  have c3 := RC.out.cell 3
  have f3 := RC.out.frozen 3
  have d0 := RD.out.cell 0
  have d1 := RD.out.cell 1
  have d2 := RD.out.cell 2
  have d3 := RD.out.cell 3
  have g0 := RD.out.frozen 0
  have g1 := RD.out.frozen 1
  have g2 := RD.out.frozen 2
  have g3 := RD.out.frozen 3
  have l1 := RC.out.lt
  have l2 := RD.out.lt
  simp only [List.getElem?_cons_zero, List.getElem?_cons_succ] at c0 c1 c2 c3 d0 d1 d2 d3
  cases hr : rightG g
  · have HK : Hid (setErr g x y s = 2) := by show _ = _; unfold setErr; rw [hr]; rfl
    have HBB := HB.out
    go_wp2
    exact bodyPost_ret (v := .tuple #[.agg #[.int .i64 0, .int .i64 0, .int .i64 0, .slice none 0 0], .int .i64 2]) (by simp [results, Try.results19, go_sem, d0, d1, d2, d3]) rfl (gpost_err (setR_err HK.out (by decide)) HK.out (by go_grown))
  · obtain ⟨hs, hl, ha⟩ := rightG_parts hr
    obtain ⟨⟨q1, q2⟩, ⟨h1, h2⟩, hm', he1, he2⟩ := sizedF_parts hs
    obtain ⟨p1, p2⟩ := prod_bd ⟨q1, q2⟩ ⟨h1, h2⟩
    have HN : Hid ((n : Int) = g.w * g.h) := by have := HL.out; show _ = _; omega
    by_cases hp : (0 ≤ x ∧ x < g.w) ∧ (0 ≤ y ∧ y < g.h)
    · by_cases hst : 0 ≤ s ∧ s < 8
      · have hk : setErr g x y s = 0 := by unfold setErr stateOk; rw [if_pos hr, if_pos hp, if_pos (by simpa using hst)]
        have HV : Hid (setErr g x y s = 0 ∧ setR g x y s = { g with cells := g.cells.set (y * g.w + x).toNat s }) := ⟨hk, by rw [setR, if_pos hk]⟩
        have hpl := place_bd hp.1 hp.2
        obtain ⟨⟨x1, x2⟩, ⟨y1, y2⟩⟩ := hp
        obtain ⟨s1, s2⟩ := hst
        obtain ⟨pl1, pl2⟩ := hpl
        have hy0 : 0 ≤ y * g.w := Int.mul_nonneg (by omega) (by omega)
        have hltz : y * g.w + x < (n : Int) := by have := HN.out; omega
        have hlt : (y * g.w + x).toNat < n := by omega
        have hn6 : n ≤ 100000 := by have := HN.out; omega
        clear hs hl ha hr hk
        have RD' := RD
        go_wp2_with fail
        refine (clone_ints A n c g.cells _ (H.out.up HB.out).cells (by omega)).mono ?_
        rintro e w2 ⟨A', c', rfl, hown, hb⟩
        have HO : Hid (w2.ownsRow w1.heap.size 3 1 (.slice A' n c') n (ints g.cells)) := hown
        have RC := (show Hid (Row w2 _ _ _) from rowCells RC.out hb)
        have RD := (show Hid (Row w2 _ _ _) from rowCells RD.out hb)
        have HB := (show Hid (Below w.heap.size w w2) from below_on2 HB.out hb)
        obtain ⟨g', cap', he, hg1, hg2⟩ := hown.form (by omega)
        injection he with hA hn' hc'
        subst hA
        clear hb hown c0 c1 c2 c3 f3 d0 d1 d2 d3 g0 g1 g2 g3 hn' hc'
        have c0 := RC.out.cell 0
        have c1 := RC.out.cell 1
        have c2 := RC.out.cell 2
        have c3 := RC.out.cell 3
        have e3 := RC.out.frozen 3
        have d0 := RD.out.cell 0
        have d1 := RD.out.cell 1
        have d2 := RD.out.cell 2
        have d3 := RD.out.cell 3
        have g0 := RD.out.frozen 0
        have g1 := RD.out.frozen 1
        have g2 := RD.out.frozen 2
        have g3 := RD.out.frozen 3
        simp only [List.getElem?_cons_zero, List.getElem?_cons_succ] at c0 c1 c2 c3 d0 d1 d2 d3
        have vc : w2.cell? ⟨g', (y * g.w + x).toNat, none⟩ = some (.int .i64 (g.cells.getD (y * g.w + x).toNat 0)) := (HO.out.cellAt _ (by omega)).trans (ints_get _ _ (by rw [HL.out]; exact hlt))
        have vf : w2.frozen? ⟨g', (y * g.w + x).toNat, none⟩ = false := HO.out.frozenAt _
        have hne1 : g' ≠ w.heap.size := by omega
        have hne2 : g' ≠ w.heap.size + 1 := by omega
        have HBB := HB.out
        go_wp2
        refine bodyPost_ret (v := .tuple #[.agg #[.int .i64 g.w, .int .i64 g.h, .int .i64 g.edge, .slice (some ⟨g', 0, none⟩) n c'], .int .i64 0]) (by simp [results, Try.results19, go_sem, d0, d1, d2, d3]) rfl ?_
        show GPost _ _ _ _ _
        rw [HV.out.1, HV.out.2]
        refine ⟨some ⟨g', 0, none⟩, n, c', rfl, ⟨Rd.of_own (base := w1.heap.size) (e := 3) (c := c') ?_, by unfold maxLen; omega⟩, by go_grown⟩
        show World.ownsRow _ _ _ _ _ _ (ints (g.cells.set _ _))
        rw [← ints_set]
        refine own_far (own_far (own_far (own_far (World.ownsRow.stored (own_far HO.out ?_ _) _ _).1 ?_ _) ?_ _) ?_ _) ?_ _
        · exact own_ne hne1
        all_goals exact own_ne hne2
      · have hst' : s < 0 ∨ 8 ≤ s := by omega
        have HK : Hid (setErr g x y s = 10) := by show _ = _; unfold setErr stateOk; rw [if_pos hr, if_pos hp, if_neg (by simpa using hst)]
        have HBB := HB.out
        obtain ⟨⟨x1, x2⟩, ⟨y1, y2⟩⟩ := hp
        clear hs hl ha hr hst
        go_wp2
        all_goals first
          | exact bodyPost_ret (v := .tuple #[.agg #[.int .i64 0, .int .i64 0, .int .i64 0, .slice none 0 0], .int .i64 10]) (by simp [results, Try.results19, go_sem, d0, d1, d2, d3]) rfl (gpost_err (setR_err HK.out (by decide)) HK.out (by go_grown))
          | (exfalso; omega)
    · have HK : Hid (setErr g x y s = 5) := by show _ = _; unfold setErr; rw [if_pos hr, if_neg hp]
      have HBB := HB.out
      clear hs hl ha hr
      go_wp2
      all_goals first
        | exact bodyPost_ret (v := .tuple #[.agg #[.int .i64 0, .int .i64 0, .int .i64 0, .slice none 0 0], .int .i64 5]) (by simp [results, Try.results19, go_sem, d0, d1, d2, d3]) rfl (gpost_err (setR_err HK.out (by decide)) HK.out (by go_grown))
        | (exfalso; omega)
set_option maxRecDepth 100000 in
set_option maxHeartbeats 2000000 in
theorem rGSet_any (g : Grd) (A : Option Addr) (n c : Nat) (x y s : Int) (w : World) (h : GAt w g A n) :
    Calls Try.prog 20 #[.agg #[.int .i64 g.w, .int .i64 g.h, .int .i64 g.edge, .slice A n c], .int .i64 x, .int .i64 y, .int .i64 s] w (GPost (setR g x y s) (setErr g x y s) w) := by
  have H : Hid (GAt w g A n) := h
  have HL : Hid (g.cells.length = n) := h.cl
  have hm := h.c63
  unfold maxLen at hm
  clear h
  go_enter Try.func20, Try.ntmps20
  go_wp2_with fail
  refine (rGRight_any g A n c _ (H.out.up (by go_grown))).mono ?_
  rintro e w1 ⟨rfl, hb⟩
  have HB : Hid (Below w.heap.size w w1) := below_next hb (by go_grown)
  have RC : Hid (Row w1 w.heap.size 24 [.int .i64 g.w, .int .i64 g.h, .int .i64 g.edge, .slice A n c]) := rowCells ((Row.new w 24 [.int .i64 g.w, .int .i64 g.h, .int .i64 g.edge, .slice A n c]).alloc _) hb
  have RD : Hid (Row w1 (w.heap.size + 1) 24 [.int .i64 0, .int .i64 0, .int .i64 0, .slice none 0 0]) := rowCells (rowNew1 w _ 24 [.int .i64 0, .int .i64 0, .int .i64 0, .slice none 0 0]) hb
  clear hb
  have c0 := RC.out.cell 0
  have c1 := RC.out.cell 1
  have c2 := RC.out.cell 2
  have c3 := RC.out.cell 3
  have f3 := RC.out.frozen 3
  have d0 := RD.out.cell 0
  have d1 := RD.out.cell 1
  have d2 := RD.out.cell 2
  have d3 := RD.out.cell 3
  have g0 := RD.out.frozen 0
  have g1 := RD.out.frozen 1
  have g2 := RD.out.frozen 2
  have g3 := RD.out.frozen 3
  have l1 := RC.out.lt
  have l2 := RD.out.lt
  simp only [List.getElem?_cons_zero, List.getElem?_cons_succ] at c0 c1 c2 c3 d0 d1 d2 d3
  cases hr : rightG g
  · have HK : Hid (setErr g x y s = 2) := by show _ = _; unfold setErr; rw [hr]; rfl
    have HBB := HB.out
    go_wp2
    exact bodyPost_ret (v := .tuple #[.agg #[.int .i64 0, .int .i64 0, .int .i64 0, .slice none 0 0], .int .i64 2]) (by simp [results, Try.results20, go_sem, d0, d1, d2, d3]) rfl (gpost_err (setR_err HK.out (by decide)) HK.out (by go_grown))
  · obtain ⟨hs, hl, ha⟩ := rightG_parts hr
    obtain ⟨⟨q1, q2⟩, ⟨h1, h2⟩, hm', he1, he2⟩ := sizedF_parts hs
    obtain ⟨p1, p2⟩ := prod_bd ⟨q1, q2⟩ ⟨h1, h2⟩
    have HN : Hid ((n : Int) = g.w * g.h) := by have := HL.out; show _ = _; omega
    by_cases hp : (0 ≤ x ∧ x < g.w) ∧ (0 ≤ y ∧ y < g.h)
    · by_cases hst : 0 ≤ s ∧ s < 8
      · have hk : setErr g x y s = 0 := by unfold setErr stateOk; rw [if_pos hr, if_pos hp, if_pos (by simpa using hst)]
        have HV : Hid (setErr g x y s = 0 ∧ setR g x y s = { g with cells := g.cells.set (y * g.w + x).toNat s }) := ⟨hk, by rw [setR, if_pos hk]⟩
        have hpl := place_bd hp.1 hp.2
        obtain ⟨⟨x1, x2⟩, ⟨y1, y2⟩⟩ := hp
        obtain ⟨s1, s2⟩ := hst
        obtain ⟨pl1, pl2⟩ := hpl
        have hy0 : 0 ≤ y * g.w := Int.mul_nonneg (by omega) (by omega)
        have hltz : y * g.w + x < (n : Int) := by have := HN.out; omega
        have hlt : (y * g.w + x).toNat < n := by omega
        have hn6 : n ≤ 100000 := by have := HN.out; omega
        clear hs hl ha hr hk
        have l3 : w.heap.size + 1 < w1.heap.size + 1 := by omega
        have ob := HB.out.size
        go_wp2_with (at_builtin; refine wpList_app rfl (.tmp 49) (.tmp 51) 22 rfl (w1.heap.size + 1) 3 (.int .i64 0) 1 8 Try.underlying22 int_infog rfl (by decide) (by decide) (.slice none 0 0) 0 [] rfl ?own w1.heap.size A n c (ints g.cells) rfl ?rd (ints_one _) ?hb ?hbase ?_)
        case own => exact World.ownsRow_nil _ _ _ _
        case rd => exact (H.out.up HB.out).cells.alloc (Nat.le_refl _) _
        case hb => omega
        case hbase => simp
        intro v' w2 hown' hgrow' hat'
        have RO : Hid (Row w2 w1.heap.size 24 [.int .i64 g.w, .int .i64 g.h, .int .i64 g.edge, .slice none 0 0]) := (Row.new w1 24 [.int .i64 g.w, .int .i64 g.h, .int .i64 g.edge, .slice none 0 0]).grown hgrow' (by simp [Value.ownBlock])
        have RC := (show Hid (Row w2 _ _ _) from (RC.out.alloc (.cells #[.int .i64 g.w, .int .i64 g.h, .int .i64 g.edge, .slice none 0 0] 24)).grown hgrow' (by simp [Value.ownBlock]))
        have RD := (show Hid (Row w2 _ _ _) from (RD.out.alloc (.cells #[.int .i64 g.w, .int .i64 g.h, .int .i64 g.edge, .slice none 0 0] 24)).grown hgrow' (by simp [Value.ownBlock]))
        have HB := (show Hid (Below w.heap.size w w2) from (below_on2 HB.out (show Below w1.heap.size w1 (w1.alloc (.cells #[.int .i64 g.w, .int .i64 g.h, .int .i64 g.edge, .slice none 0 0] 24)) by go_grown)).grown hgrow' (by simp; omega) (fun k hk => by simp [Value.ownBlock] at hk))
        have HO : Hid (w2.ownsRow (w1.heap.size + 1) 3 1 v' n (ints g.cells)) := by
          show w2.ownsRow _ _ _ _ _ _
          simpa using hown'
        obtain ⟨g', cap', he, hg1, hg2⟩ := HO.out.form (by omega)
        subst he
        clear hown' hgrow' hat' c0 c1 c2 c3 f3 d0 d1 d2 d3 g0 g1 g2 g3
        have c0 := RC.out.cell 0
        have c1 := RC.out.cell 1
        have c2 := RC.out.cell 2
        have c3 := RC.out.cell 3
        have d0 := RD.out.cell 0
        have d1 := RD.out.cell 1
        have d2 := RD.out.cell 2
        have d3 := RD.out.cell 3
        have g0 := RD.out.frozen 0
        have g1 := RD.out.frozen 1
        have g2 := RD.out.frozen 2
        have g3 := RD.out.frozen 3
        have o0 := RO.out.cell 0
        have o1 := RO.out.cell 1
        have o2 := RO.out.cell 2
        have o3 := RO.out.cell 3
        have k3 := RO.out.frozen 3
        simp only [List.getElem?_cons_zero, List.getElem?_cons_succ] at c0 c1 c2 c3 d0 d1 d2 d3 o0 o1 o2 o3
        have vc : w2.cell? ⟨g', (y * g.w + x).toNat, none⟩ = some (.int .i64 (g.cells.getD (y * g.w + x).toNat 0)) := (HO.out.cellAt _ (by omega)).trans (ints_get _ _ (by rw [HL.out]; exact hlt))
        have vf : w2.frozen? ⟨g', (y * g.w + x).toNat, none⟩ = false := HO.out.frozenAt _
        have hne1 : g' ≠ w1.heap.size := by omega
        have hne2 : g' ≠ w.heap.size + 1 := by omega
        have hne3 : g' ≠ w.heap.size := by omega
        have hne4 : w1.heap.size ≠ w.heap.size := by omega
        have hne5 : w1.heap.size ≠ w.heap.size + 1 := by omega
        have HBB := HB.out
        go_wp2
        refine bodyPost_ret (v := .tuple #[.agg #[.int .i64 g.w, .int .i64 g.h, .int .i64 g.edge, .slice (some ⟨g', 0, none⟩) n cap'], .int .i64 0]) (by simp [results, Try.results20, go_sem, d0, d1, d2, d3]) rfl ?_
        show GPost _ _ _ _ _
        rw [HV.out.1, HV.out.2]
        refine ⟨some ⟨g', 0, none⟩, n, cap', rfl, ⟨Rd.of_own (base := w1.heap.size + 1) (e := 3) (c := cap') ?_, by unfold maxLen; omega⟩, by go_grown⟩
        show World.ownsRow _ _ _ _ _ _ (ints (g.cells.set _ _))
        rw [← ints_set]
        refine own_far (own_far (own_far (own_far (World.ownsRow.stored (own_far HO.out ?_ _) _ _).1 ?_ _) ?_ _) ?_ _) ?_ _
        · exact own_ne hne1
        all_goals exact own_ne hne2
      · have hst' : s < 0 ∨ 8 ≤ s := by omega
        have HK : Hid (setErr g x y s = 10) := by show _ = _; unfold setErr stateOk; rw [if_pos hr, if_pos hp, if_neg (by simpa using hst)]
        have HBB := HB.out
        obtain ⟨⟨x1, x2⟩, ⟨y1, y2⟩⟩ := hp
        clear hs hl ha hr hst
        go_wp2
        all_goals first
          | exact bodyPost_ret (v := .tuple #[.agg #[.int .i64 0, .int .i64 0, .int .i64 0, .slice none 0 0], .int .i64 10]) (by simp [results, Try.results20, go_sem, d0, d1, d2, d3]) rfl (gpost_err (setR_err HK.out (by decide)) HK.out (by go_grown))
          | (exfalso; omega)
    · have HK : Hid (setErr g x y s = 5) := by show _ = _; unfold setErr; rw [if_pos hr, if_neg hp]
      have HBB := HB.out
      clear hs hl ha hr
      go_wp2
      all_goals first
        | exact bodyPost_ret (v := .tuple #[.agg #[.int .i64 0, .int .i64 0, .int .i64 0, .slice none 0 0], .int .i64 5]) (by simp [results, Try.results20, go_sem, d0, d1, d2, d3]) rfl (gpost_err (setR_err HK.out (by decide)) HK.out (by go_grown))
        | (exfalso; omega)
end Go.Proofs.Ytoldjjgogdbalaa
