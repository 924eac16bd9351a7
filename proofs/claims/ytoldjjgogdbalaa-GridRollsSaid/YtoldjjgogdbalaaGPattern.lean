/-
  grid.Pattern and the reference's Pattern, walked.
-/
import Derived.Test.YtoldjjgogdbalaaGSet
import Derived.Test.YtoldjjgogdbalaaGLaw
import Derived.BigRegion
import Derived.Deep.RegionLaw
import Derived.BigQuiet
import Derived.WalkSpells
import Derived.Deep.Light
import Derived.Deep.QuietTactic
namespace Go.Proofs.Ytoldjjgogdbalaa
open Go.RowKit
set_option linter.unusedSimpArgs false
set_option linter.unusedVariables false

theorem cell_info : (Try.prog.info? 34).map (fun i => (i.zero, i.size, i.bytes)) = some (some (.agg #[.int .i64 0, .int .i64 0, .int .i64 0]), 3, 24) := by kernel_rfl
/-- What a function that returns a pattern hands back. -/
def PPost (p : List Gt) (w : World) (e : Ending) (w' : World) : Prop :=
  ∃ (A : Option Addr) (n c : Nat), e = .returned (.slice A n c) ∧ Rd w' w'.heap.size 3 A n (gatesCells p) ∧ n ≤ maxLen ∧ Below w.heap.size w w'
theorem gatesCells_snoc (p : List Gt) (g : Gt) : gatesCells (p ++ [g]) = gatesCells p ++ [.int .i64 g.op, .int .i64 g.a, .int .i64 g.b] := by simp [gatesCells, gtCells]

set_option maxRecDepth 100000 in
set_option maxHeartbeats 2000000 in
theorem gPattern_any (g : Grd) (A : Option Addr) (n c : Nat) (w : World) (h : GAt w g A n) :
    Calls Try.prog 24 #[.agg #[.int .i64 g.w, .int .i64 g.h, .int .i64 g.edge, .slice A n c]] w (PPost (patF g) w) := by
  have H : Hid (GAt w g A n) := h
  have HL : Hid (g.cells.length = n) := h.cl
  have hm := h.c63
  unfold maxLen at hm
  clear h
  go_enter Try.func24, Try.ntmps24
  go_wp2_with fail
  refine (gRight_any g A n c _ (H.out.up (by go_grown))).mono ?_
  rintro e w1 ⟨rfl, hb⟩
  have HB : Hid (Below w.heap.size w w1) := below_next hb (by go_grown)
  have RC : Hid (Row w1 w.heap.size 24 [.int .i64 g.w, .int .i64 g.h, .int .i64 g.edge, .slice A n c]) := rowCells (Row.new w 24 [.int .i64 g.w, .int .i64 g.h, .int .i64 g.edge, .slice A n c]) hb
  clear hb
  cases hr : rightG g
  · have hv : Hid (patF g = []) := by show _ = _; unfold patF; rw [hr]; rfl
    clear RC
    go_wp2
    go_ret
    refine ⟨none, 0, 0, rfl, ?_, by unfold maxLen; omega, HB.out⟩
    rw [hv.out]
    exact Rd.empty none
  · obtain ⟨hs, hl, ha⟩ := rightG_parts hr
    obtain ⟨⟨q1, q2⟩, ⟨h1, h2⟩, hm', he1, he2⟩ := sizedF_parts hs
    have HN : Hid ((n : Int) = g.w * g.h) := by have := HL.out; show _ = _; omega
    have hn4 : n ≤ 4096 := by have := HN.out; omega
    have hv : Hid (patF g = patTo g.w g.cells n) := by show _ = _; unfold patF; rw [if_pos hr, HL.out]
    clear hr hs hl ha hm'
    have c0 := RC.out.cell 0
    have c3 := RC.out.cell 3
    have l1 := RC.out.lt
    simp only [List.getElem?_cons_zero, List.getElem?_cons_succ] at c0 c3
    go_wp2
    clear c0 c3
    go_loopg [3, 4, 5, 12] n (fun gg s3 _ _ s12 wr => ∃ (kk : Nat) (vo : Value), kk ≤ n ∧ n - kk ≤ gg ∧ s3 = vo ∧ s12 = .int .i64 kk ∧ Aside (Below w1.heap.size w1 wr) ∧ Aside (wr.ownsRow w1.heap.size 34 3 vo (patTo g.w g.cells kk).length (gatesCells (patTo g.w g.cells kk))))
    case atStart => exact ⟨0, .slice none 0 0, Nat.zero_le _, by omega, rfl, rfl, Below.refl _ _, World.ownsRow_nil _ _ _ _⟩
    case round =>
      obtain ⟨kk, vo, hkk, hg, rfl, rfl, BW, OW⟩ := hrel
      obtain ⟨Ao, co, rfl, _⟩ := Rd.own OW.out
      have HBW : Hid (Below w.heap.size w wr) := below_on2 HB.out BW.out
      have RW : Hid (Row wr w.heap.size 24 [.int .i64 g.w, .int .i64 g.h, .int .i64 g.edge, .slice A n c]) := rowCells RC.out BW.out
      have c0 := RW.out.cell 0
      have c3 := RW.out.cell 3
      have l2 := RW.out.lt
      have hsz : w1.heap.size ≤ wr.heap.size := BW.out.size
      simp only [List.getElem?_cons_zero, List.getElem?_cons_succ] at c0 c3
      by_cases hlt : kk < n
      · have hltz : (kk : Int) < (n : Int) := by omega
        obtain ⟨ad, rfl, hb, hcell⟩ := (H.out.up HBW.out).cells.int hlt
        have hadz : (ad.add kk).block < wr.heap.size := by rw [add_block]; exact hb
        have hpl := patTo_length_le g.w g.cells kk
        have HT : Hid (patTo g.w g.cells (kk + 1) = patTo g.w g.cells kk ++ patAt g.w g.cells kk) := patTo_succ _ _ _
        have HY : Hid (patAt g.w g.cells kk = if g.cells.getD kk 0 = 0 then [] else [⟨(kk : Int) % g.w, (kk : Int) / g.w, g.cells.getD kk 0⟩]) := rfl
        generalize hy : g.cells.getD kk 0 = y at hcell HY
        clear hy
        generalize patTo g.w g.cells kk = pl at OW HT hpl ⊢
        by_cases hz : y = 0
        · subst hz
          have HT2 : Hid (patTo g.w g.cells (kk + 1) = pl) := by show _ = _; rw [HT.out, HY.out, if_pos rfl, List.append_nil]
          clear HT HY
          go_wp2
          go_roundg (n - (kk + 1))
          case measure => omega
          case rel =>
            refine ⟨kk + 1, .slice Ao pl.length co, by omega, by omega, rfl, by go_num, BW.out, ?_⟩
            show World.ownsRow _ _ _ _ _ _ _
            rw [HT2.out]
            exact OW.out
        · have hz' : (y != 0) = true := by simpa using hz
          have HT2 : Hid (patTo g.w g.cells (kk + 1) = pl ++ [⟨(kk : Int) % g.w, (kk : Int) / g.w, y⟩]) := by show _ = _; rw [HT.out, HY.out, if_neg hz]
          clear HT HY hz
          have hw0 : g.w ≠ 0 := by omega
          have hk0 : (0 : Int) ≤ (kk : Int) := by omega
          have m1 := mod_bd (kk : Int) g.w (by omega)
          have m2 : 0 ≤ (kk : Int) / g.w := Int.ediv_nonneg (by omega) (by omega)
          have m3 : (kk : Int) / g.w ≤ kk := Int.ediv_le_self _ hk0
          obtain ⟨m1a, m1b⟩ := m1
          have ht : Int.tmod (kk : Int) g.w = (kk : Int) % g.w := Int.tmod_eq_emod_of_nonneg hk0
          have hwq : IntKind.i64.wrap ((kk : Int) / g.w) = (kk : Int) / g.w := IntWalk.i64_in _ (by omega)
          have hwm : IntKind.i64.wrap ((kk : Int) % g.w) = (kk : Int) % g.w := IntWalk.i64_in _ (by omega)
          go_wp2
          go_region_law (
            refine step_app rfl (.tmp 19) (.tmp 30) 38 rfl w1.heap.size 34 (.agg #[.int .i64 0, .int .i64 0, .int .i64 0]) 3 24 Try.underlying38 cell_info rfl (by decide) (by decide) (.slice Ao pl.length co) pl.length (gatesCells pl) rfl ?own (wr.heap.size + 1) (some ⟨wr.heap.size, 0, none⟩) 1 1 [.int .i64 ((kk : Int) % g.w), .int .i64 ((kk : Int) / g.w), .int .i64 y] rfl ?rd ?one ?hb ?hbase ?_
            case own => exact OW.out.alloc _
            case rd => exact Rd.lit wr #[.int .i64 ((kk : Int) % g.w), .int .i64 ((kk : Int) / g.w), .int .i64 y] 34 (sz := 3) (m := 1) rfl
            case one => intro u hu; simp at hu; rcases hu with rfl | rfl | rfl <;> rfl
            case hb => omega
            case hbase => simp; omega
            intro v' w' hown' hgrow' hat'
            obtain ⟨Ao', co', rfl, _⟩ := Rd.own hown'
            have HB' : Aside (Below w1.heap.size w1 w') := ((BW.out.alloc (by omega) _).drew.grown hgrow' (by simp; omega) (fun k hk => (OW.out.lt k hk).1))
            have HO' : Aside (w'.ownsRow w1.heap.size 34 3 (.slice Ao' (pl.length + 1) co') (pl.length + 1) (gatesCells (pl ++ [⟨(kk : Int) % g.w, (kk : Int) / g.w, y⟩]))) := by
              show World.ownsRow _ _ _ _ _ _ _
              rw [gatesCells_snoc]
              exact hown'
            clear hown' hgrow' hat')
          all_goals
            go_wp2
            go_roundg (n - (kk + 1))
            case measure => omega
            case rel =>
              refine ⟨kk + 1, .slice Ao' (pl.length + 1) co', by omega, by omega, rfl, by go_num, HB'.out, ?_⟩
              show World.ownsRow _ _ _ _ _ _ _
              rw [HT2.out, List.length_append]
              exact HO'.out
      · have hltz : ¬ (kk : Int) < (n : Int) := by omega
        obtain rfl : kk = n := by omega
        have hpl := patTo_length_le g.w g.cells kk
        go_wp2
        go_ret
        refine ⟨_, _, _, rfl, ?_, ?_, HBW.out⟩
        · rw [hv.out]
          exact Rd.of_own OW.out
        · unfold maxLen; omega

set_option maxRecDepth 100000 in
set_option maxHeartbeats 2000000 in
theorem rGPattern_any (g : Grd) (A : Option Addr) (n c : Nat) (w : World) (h : GAt w g A n) :
    Calls Try.prog 25 #[.agg #[.int .i64 g.w, .int .i64 g.h, .int .i64 g.edge, .slice A n c]] w (PPost (patF g) w) := by
  have H : Hid (GAt w g A n) := h
  have HL : Hid (g.cells.length = n) := h.cl
  have hm := h.c63
  unfold maxLen at hm
  clear h
  go_enter Try.func25, Try.ntmps25
  go_wp2_with fail
  refine (rGRight_any g A n c _ (H.out.up (by go_grown))).mono ?_
  rintro e w1 ⟨rfl, hb⟩
  have HB : Hid (Below w.heap.size w w1) := below_next hb (by go_grown)
  have RC : Hid (Row w1 w.heap.size 24 [.int .i64 g.w, .int .i64 g.h, .int .i64 g.edge, .slice A n c]) := rowCells (Row.new w 24 [.int .i64 g.w, .int .i64 g.h, .int .i64 g.edge, .slice A n c]) hb
  clear hb
  cases hr : rightG g
  · have hv : Hid (patF g = []) := by show _ = _; unfold patF; rw [hr]; rfl
    clear RC
    go_wp2
    go_ret
    refine ⟨none, 0, 0, rfl, ?_, by unfold maxLen; omega, HB.out⟩
    rw [hv.out]
    exact Rd.empty none
  · obtain ⟨hs, hl, ha⟩ := rightG_parts hr
    obtain ⟨⟨q1, q2⟩, ⟨h1, h2⟩, hm', he1, he2⟩ := sizedF_parts hs
    have HN : Hid ((n : Int) = g.w * g.h) := by have := HL.out; show _ = _; omega
    have hn4 : n ≤ 4096 := by have := HN.out; omega
    have hv : Hid (patF g = patTo g.w g.cells n) := by show _ = _; unfold patF; rw [if_pos hr, HL.out]
    clear hr hs hl ha hm'
    have c0 := RC.out.cell 0
    have c3 := RC.out.cell 3
    have l1 := RC.out.lt
    simp only [List.getElem?_cons_zero, List.getElem?_cons_succ] at c0 c3
    go_wp2
    clear c0 c3
    go_loopg [3, 4] n (fun gg s3 s4 wr => ∃ (kk : Nat) (vo : Value), kk ≤ n ∧ n - kk ≤ gg ∧ s3 = vo ∧ s4 = .int .i64 kk ∧ Aside (Below w1.heap.size w1 wr) ∧ Aside (wr.ownsRow w1.heap.size 34 3 vo (patTo g.w g.cells kk).length (gatesCells (patTo g.w g.cells kk))))
    case atStart => exact ⟨0, .slice none 0 0, Nat.zero_le _, by omega, rfl, rfl, Below.refl _ _, World.ownsRow_nil _ _ _ _⟩
    case round =>
      obtain ⟨kk, vo, hkk, hg, rfl, rfl, BW, OW⟩ := hrel
      obtain ⟨Ao, co, rfl, _⟩ := Rd.own OW.out
      have HBW : Hid (Below w.heap.size w wr) := below_on2 HB.out BW.out
      have RW : Hid (Row wr w.heap.size 24 [.int .i64 g.w, .int .i64 g.h, .int .i64 g.edge, .slice A n c]) := rowCells RC.out BW.out
      have c0 := RW.out.cell 0
      have c3 := RW.out.cell 3
      have l2 := RW.out.lt
      have hsz : w1.heap.size ≤ wr.heap.size := BW.out.size
      simp only [List.getElem?_cons_zero, List.getElem?_cons_succ] at c0 c3
      by_cases hlt : kk < n
      · have hltz : (kk : Int) < (n : Int) := by omega
        obtain ⟨ad, rfl, hb, hcell⟩ := (H.out.up HBW.out).cells.int hlt
        have hadz : (ad.add kk).block < wr.heap.size := by rw [add_block]; exact hb
        have hpl := patTo_length_le g.w g.cells kk
        have HT : Hid (patTo g.w g.cells (kk + 1) = patTo g.w g.cells kk ++ patAt g.w g.cells kk) := patTo_succ _ _ _
        have HY : Hid (patAt g.w g.cells kk = if g.cells.getD kk 0 = 0 then [] else [⟨(kk : Int) % g.w, (kk : Int) / g.w, g.cells.getD kk 0⟩]) := rfl
        generalize hy : g.cells.getD kk 0 = y at hcell HY
        clear hy
        generalize patTo g.w g.cells kk = pl at OW HT hpl ⊢
        by_cases hz : y = 0
        · subst hz
          have HT2 : Hid (patTo g.w g.cells (kk + 1) = pl) := by show _ = _; rw [HT.out, HY.out, if_pos rfl, List.append_nil]
          clear HT HY
          go_wp2
          go_roundg (n - (kk + 1))
          case measure => omega
          case rel =>
            refine ⟨kk + 1, .slice Ao pl.length co, by omega, by omega, rfl, by go_num, BW.out, ?_⟩
            show World.ownsRow _ _ _ _ _ _ _
            rw [HT2.out]
            exact OW.out
        · have hz' : (y != 0) = true := by simpa using hz
          have HT2 : Hid (patTo g.w g.cells (kk + 1) = pl ++ [⟨(kk : Int) % g.w, (kk : Int) / g.w, y⟩]) := by show _ = _; rw [HT.out, HY.out, if_neg hz]
          clear HT HY hz
          have hw0 : g.w ≠ 0 := by omega
          have hk0 : (0 : Int) ≤ (kk : Int) := by omega
          have m1 := mod_bd (kk : Int) g.w (by omega)
          have m2 : 0 ≤ (kk : Int) / g.w := Int.ediv_nonneg (by omega) (by omega)
          have m3 : (kk : Int) / g.w ≤ kk := Int.ediv_le_self _ hk0
          obtain ⟨m1a, m1b⟩ := m1
          have ht : Int.tmod (kk : Int) g.w = (kk : Int) % g.w := Int.tmod_eq_emod_of_nonneg hk0
          have hwq : IntKind.i64.wrap ((kk : Int) / g.w) = (kk : Int) / g.w := IntWalk.i64_in _ (by omega)
          have hwm : IntKind.i64.wrap ((kk : Int) % g.w) = (kk : Int) % g.w := IntWalk.i64_in _ (by omega)
          go_wp2
          go_region_law (
            refine step_app rfl (.tmp 21) (.tmp 36) 38 rfl w1.heap.size 34 (.agg #[.int .i64 0, .int .i64 0, .int .i64 0]) 3 24 Try.underlying38 cell_info rfl (by decide) (by decide) (.slice Ao pl.length co) pl.length (gatesCells pl) rfl ?own (wr.heap.size + 1) (some ⟨wr.heap.size, 0, none⟩) 1 1 [.int .i64 ((kk : Int) % g.w), .int .i64 ((kk : Int) / g.w), .int .i64 y] rfl ?rd ?one ?hb ?hbase ?_
            case own => exact OW.out.alloc _
            case rd => exact Rd.lit wr #[.int .i64 ((kk : Int) % g.w), .int .i64 ((kk : Int) / g.w), .int .i64 y] 34 (sz := 3) (m := 1) rfl
            case one => intro u hu; simp at hu; rcases hu with rfl | rfl | rfl <;> rfl
            case hb => omega
            case hbase => simp; omega
            intro v' w' hown' hgrow' hat'
            obtain ⟨Ao', co', rfl, _⟩ := Rd.own hown'
            have HB' : Aside (Below w1.heap.size w1 w') := ((BW.out.alloc (by omega) _).drew.grown hgrow' (by simp; omega) (fun k hk => (OW.out.lt k hk).1))
            have HO' : Aside (w'.ownsRow w1.heap.size 34 3 (.slice Ao' (pl.length + 1) co') (pl.length + 1) (gatesCells (pl ++ [⟨(kk : Int) % g.w, (kk : Int) / g.w, y⟩]))) := by
              show World.ownsRow _ _ _ _ _ _ _
              rw [gatesCells_snoc]
              exact hown'
            clear hown' hgrow' hat')
          all_goals
            go_wp2
            go_roundg (n - (kk + 1))
            case measure => omega
            case rel =>
              refine ⟨kk + 1, .slice Ao' (pl.length + 1) co', by omega, by omega, rfl, by go_num, HB'.out, ?_⟩
              show World.ownsRow _ _ _ _ _ _ _
              rw [HT2.out, List.length_append]
              exact HO'.out
      · have hltz : ¬ (kk : Int) < (n : Int) := by omega
        obtain rfl : kk = n := by omega
        have hpl := patTo_length_le g.w g.cells kk
        go_wp2
        go_ret
        refine ⟨_, _, _, rfl, ?_, ?_, HBW.out⟩
        · rw [hv.out]
          exact Rd.of_own OW.out
        · unfold maxLen; omega
end Go.Proofs.Ytoldjjgogdbalaa
