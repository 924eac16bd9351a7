/-
  The laws GridNews and GridSame: what they do.
-/
import Derived.Test.YtoldjjgogdbalaaGAlive
import Derived.Test.YtoldjjgogdbalaaGRefFrom
import Derived.Test.YtoldjjgogdbalaaPat5d
import Derived.Test.YtoldjjgogdbalaaGRefRight
namespace Go.Proofs.Ytoldjjgogdbalaa
open Go.RowKit
set_option linter.unusedSimpArgs false
set_option linter.unusedVariables false

theorem newPost_g {a b e : Int} {w : World} {en : Ending} {w' : World} (h : NewPost a b e w en w') : GPost (newR a b e) (newErr a b e) w en w' := by
  rcases h with ⟨hs, rfl, hb⟩ | ⟨hs, g, rfl, hrow, _, hb⟩
  · exact gpost_err (by rw [newR, hs]; rfl) (by rw [newErr, hs]; rfl) hb
  · have hn : (a * b).toNat ≤ maxLen := by
      obtain ⟨h1, h2, h3, _⟩ := sizedF_parts hs
      unfold maxLen; omega
    refine ⟨some ⟨g, 0, none⟩, (a * b).toNat, (a * b).toNat, ?_, ⟨?_, hn⟩, hb⟩
    · rw [newR, newErr, if_pos hs, if_pos hs]
    · rw [newR, if_pos hs]
      exact hrow.rd (by simp [zeros])
theorem sameG_self (a : Grd) : sameG a a = true := (sameG_iff a a).2 rfl

set_option maxRecDepth 100000 in
set_option maxHeartbeats 4000000 in
theorem lawNews_any (g : Grd) (A : Option Addr) (n c : Nat) (x y : Int) (w : World) (h : GAt w g A n) :
    Calls Try.prog 3 #[.agg #[.int .i64 g.w, .int .i64 g.h, .int .i64 g.edge, .slice A n c], .int .i64 x, .int .i64 y] w fun e w' => e = .returned (.bool true) ∧ Below w.heap.size w w' := by
  have H : Hid (GAt w g A n) := h
  clear h
  go_enter Try.func3, Try.ntmps3
  go_wp2_with fail
  refine (gfew_any g A n c _ (H.out.up (by go_grown))).mono ?_
  rintro e w2 ⟨rfl, hb⟩
  have HB : Hid (Below w.heap.size w w2) := below_next hb (by go_grown)
  have RC : Hid (Row w2 w.heap.size 24 [.int .i64 g.w, .int .i64 g.h, .int .i64 g.edge, .slice A n c]) := rowCells (Row.new w 24 [.int .i64 g.w, .int .i64 g.h, .int .i64 g.edge, .slice A n c]) hb
  clear hb
  cases hf : fewG g
  · clear RC
    go_wp2_with fail
    refine (galive_any _).mono ?_
    rintro e w9 ⟨rfl, hb⟩
    have HBE : Hid (Below w.heap.size w w9) := below_on HB.out (by go_grown) hb
    clear hb
    go_wp2
    go_ret
    exact ⟨rfl, HBE.out⟩
  clear hf
  have c0 := RC.out.cell 0
  have c1 := RC.out.cell 1
  have c2 := RC.out.cell 2
  have c3 := RC.out.cell 3
  have l1 := RC.out.lt
  simp only [List.getElem?_cons_zero, List.getElem?_cons_succ] at c0 c1 c2 c3
  go_wp2_with fail
  refine ((gNew_any x y g.edge _).mono (fun _ _ => newPost_g)).mono ?_
  rintro e w3 ⟨JA, jn, jc, rfl, hj, hb⟩
  have HJ : Hid (GAt w3 (newR x y g.edge) JA jn) := hj
  have HB := (show Hid (Below w.heap.size w w3) from below_on2 HB.out hb)
  have RC := (show Hid (Row w3 _ _ _) from rowCells RC.out hb)
  clear hb hj c0 c1 c2 c3 l1
  have c0 := RC.out.cell 0
  have c1 := RC.out.cell 1
  have c2 := RC.out.cell 2
  have c3 := RC.out.cell 3
  have l1 := RC.out.lt
  simp only [List.getElem?_cons_zero, List.getElem?_cons_succ] at c0 c1 c2 c3
  go_wp2_with fail
  refine ((rNew_any x y g.edge _).mono (fun _ _ => newPost_g)).mono ?_
  rintro e w4 ⟨KA, kn, kc, rfl, hk, hb⟩
  have HK : Hid (GAt w4 (newR x y g.edge) KA kn) := hk
  have hn4 : Below w3.heap.size w3 w4 := below_next hb (by go_grown)
  have RJ : Hid (Row w4 w3.heap.size 24 [.int .i64 (newR x y g.edge).w, .int .i64 (newR x y g.edge).h, .int .i64 (newR x y g.edge).edge, .slice JA jn jc]) := rowCells (Row.new w3 24 [.int .i64 (newR x y g.edge).w, .int .i64 (newR x y g.edge).h, .int .i64 (newR x y g.edge).edge, .slice JA jn jc]) hb
  have HB := (show Hid (Below w.heap.size w w4) from below_on2 HB.out hn4)
  have HJ := (show Hid (GAt w4 _ _ _) from HJ.out.up hn4)
  have RC := (show Hid (Row w4 _ _ _) from rowCells RC.out hn4)
  clear hb hk hn4 c0 c1 c2 c3 l1
  have c0 := RC.out.cell 0
  have c1 := RC.out.cell 1
  have c2 := RC.out.cell 2
  have c3 := RC.out.cell 3
  have l1 := RC.out.lt
  simp only [List.getElem?_cons_zero, List.getElem?_cons_succ] at c0 c1 c2 c3
  go_wp2_with fail
  clear c0 c1 c2 c3 l1
  have hn5 : Below w4.heap.size w4 (World.alloc w4 (.cells #[.int .i64 (newR x y g.edge).w, .int .i64 (newR x y g.edge).h, .int .i64 (newR x y g.edge).edge, .slice KA kn kc] 24)) := by go_grown
  have RK : Hid (Row (World.alloc w4 (.cells #[.int .i64 (newR x y g.edge).w, .int .i64 (newR x y g.edge).h, .int .i64 (newR x y g.edge).edge, .slice KA kn kc] 24)) w4.heap.size 24 [.int .i64 (newR x y g.edge).w, .int .i64 (newR x y g.edge).h, .int .i64 (newR x y g.edge).edge, .slice KA kn kc]) := Row.new w4 24 [.int .i64 (newR x y g.edge).w, .int .i64 (newR x y g.edge).h, .int .i64 (newR x y g.edge).edge, .slice KA kn kc]
  have HB := (show Hid (Below w.heap.size w (World.alloc w4 (.cells #[.int .i64 (newR x y g.edge).w, .int .i64 (newR x y g.edge).h, .int .i64 (newR x y g.edge).edge, .slice KA kn kc] 24))) from below_on2 HB.out hn5)
  have HJ := (show Hid (GAt (World.alloc w4 (.cells #[.int .i64 (newR x y g.edge).w, .int .i64 (newR x y g.edge).h, .int .i64 (newR x y g.edge).edge, .slice KA kn kc] 24)) _ _ _) from HJ.out.up hn5)
  have HK := (show Hid (GAt (World.alloc w4 (.cells #[.int .i64 (newR x y g.edge).w, .int .i64 (newR x y g.edge).h, .int .i64 (newR x y g.edge).edge, .slice KA kn kc] 24)) _ _ _) from HK.out.up hn5)
  have RC := (show Hid (Row (World.alloc w4 (.cells #[.int .i64 (newR x y g.edge).w, .int .i64 (newR x y g.edge).h, .int .i64 (newR x y g.edge).edge, .slice KA kn kc] 24)) _ _ _) from rowCells RC.out hn5)
  have RJ := (show Hid (Row (World.alloc w4 (.cells #[.int .i64 (newR x y g.edge).w, .int .i64 (newR x y g.edge).h, .int .i64 (newR x y g.edge).edge, .slice KA kn kc] 24)) _ _ _) from rowCells RJ.out hn5)
  clear hn5
  revert RK HB HJ HK RC RJ
  generalize (World.alloc w4 (.cells #[.int .i64 (newR x y g.edge).w, .int .i64 (newR x y g.edge).h, .int .i64 (newR x y g.edge).edge, .slice KA kn kc] 24)) = w1
  intro RK HB HJ HK RC RJ
  have HS : ∀ w', Below w1.heap.size w1 w' → w'.cell? ⟨w.heap.size, 0, none⟩ = some (.int .i64 g.w) ∧ w'.cell? ⟨w.heap.size, 1, none⟩ = some (.int .i64 g.h) ∧ w'.cell? ⟨w.heap.size, 2, none⟩ = some (.int .i64 g.edge) ∧ w'.cell? ⟨w.heap.size, 3, none⟩ = some (.slice A n c) ∧ w'.cell? ⟨w3.heap.size, 0, none⟩ = some (.int .i64 (newR x y g.edge).w) ∧ w'.cell? ⟨w3.heap.size, 1, none⟩ = some (.int .i64 (newR x y g.edge).h) ∧ w'.cell? ⟨w3.heap.size, 2, none⟩ = some (.int .i64 (newR x y g.edge).edge) ∧ w'.cell? ⟨w3.heap.size, 3, none⟩ = some (.slice JA jn jc) ∧ w'.cell? ⟨w4.heap.size, 0, none⟩ = some (.int .i64 (newR x y g.edge).w) ∧ w'.cell? ⟨w4.heap.size, 1, none⟩ = some (.int .i64 (newR x y g.edge).h) ∧ w'.cell? ⟨w4.heap.size, 2, none⟩ = some (.int .i64 (newR x y g.edge).edge) ∧ w'.cell? ⟨w4.heap.size, 3, none⟩ = some (.slice KA kn kc) := fun w' hw => ⟨(rowCells RC.out hw).cell 0, (rowCells RC.out hw).cell 1, (rowCells RC.out hw).cell 2, (rowCells RC.out hw).cell 3, (rowCells RJ.out hw).cell 0, (rowCells RJ.out hw).cell 1, (rowCells RJ.out hw).cell 2, (rowCells RJ.out hw).cell 3, (rowCells RK.out hw).cell 0, (rowCells RK.out hw).cell 1, (rowCells RK.out hw).cell 2, (rowCells RK.out hw).cell 3⟩
  have HN : Hid (Below w1.heap.size w1 w1) := Below.refl _ _
  have HG : Hid (GAt w1 g A n) := H.out.up HB.out
  clear RC RJ RK
  go_region_held3 (fun w' => w'.cell? ⟨w.heap.size, 0, none⟩ = some (.int .i64 g.w) ∧ w'.cell? ⟨w.heap.size, 1, none⟩ = some (.int .i64 g.h) ∧ w'.cell? ⟨w.heap.size, 2, none⟩ = some (.int .i64 g.edge) ∧ w'.cell? ⟨w.heap.size, 3, none⟩ = some (.slice A n c) ∧ w'.cell? ⟨w3.heap.size, 0, none⟩ = some (.int .i64 (newR x y g.edge).w) ∧ w'.cell? ⟨w3.heap.size, 1, none⟩ = some (.int .i64 (newR x y g.edge).h) ∧ w'.cell? ⟨w3.heap.size, 2, none⟩ = some (.int .i64 (newR x y g.edge).edge) ∧ w'.cell? ⟨w3.heap.size, 3, none⟩ = some (.slice JA jn jc) ∧ w'.cell? ⟨w4.heap.size, 0, none⟩ = some (.int .i64 (newR x y g.edge).w) ∧ w'.cell? ⟨w4.heap.size, 1, none⟩ = some (.int .i64 (newR x y g.edge).h) ∧ w'.cell? ⟨w4.heap.size, 2, none⟩ = some (.int .i64 (newR x y g.edge).edge) ∧ w'.cell? ⟨w4.heap.size, 3, none⟩ = some (.slice KA kn kc)) (exact HS _ (by first | exact below_on2 HN.out (by go_grown) | go_grown)) (first
    | (go_at_call 14
       refine (gRight_any g A n c _ (by exact HG.out.up (by first | exact below_on2 HN.out (by go_grown) | go_grown))).mono ?_
       rintro e w7 ⟨rfl, hb⟩
       have HN := (show Hid (Below w1.heap.size w1 w7) from below_on HN.out (by go_grown) hb)
       clear hb)
    | (go_at_call 15
       refine (rGRight_any g A n c _ (by exact HG.out.up (by first | exact below_on2 HN.out (by go_grown) | go_grown))).mono ?_
       rintro e w7 ⟨rfl, hb⟩
       have HN := (show Hid (Below w1.heap.size w1 w7) from below_on HN.out (by go_grown) hb)
       clear hb)
    | (go_at_call 16
       refine (rGSame_any (newR x y g.edge) (newR x y g.edge) JA KA jn jc kn kc _ (by exact HJ.out.up (by first | exact below_on2 HN.out (by go_grown) | go_grown)) (by exact HK.out.up (by first | exact below_on2 HN.out (by go_grown) | go_grown))).mono ?_
       rw [sameG_self]
       rintro e w7 ⟨rfl, hb⟩
       have HN := (show Hid (Below w1.heap.size w1 w7) from below_on HN.out (by go_grown) hb)
       clear hb)
    | (go_at_call 11
       refine (galive_any _).mono ?_
       rintro e w7 ⟨rfl, hb⟩
       have HN := (show Hid (Below w1.heap.size w1 w7) from below_on HN.out (by go_grown) hb)
       clear hb))
  all_goals
    go_wp2
    go_ret
    exact ⟨rfl, below_on HB.out HN.out (by go_grown)⟩

set_option maxRecDepth 100000 in
set_option maxHeartbeats 4000000 in
theorem lawSame_any (a b : Grd) (A B : Option Addr) (n c m d : Nat) (w : World) (ha : GAt w a A n) (hb : GAt w b B m) :
    Calls Try.prog 9 #[.agg #[.int .i64 a.w, .int .i64 a.h, .int .i64 a.edge, .slice A n c], .agg #[.int .i64 b.w, .int .i64 b.h, .int .i64 b.edge, .slice B m d]] w fun e w' => e = .returned (.bool true) ∧ Below w.heap.size w w' := by
  have H : Hid (GAt w a A n) := ha
  have H' : Hid (GAt w b B m) := hb
  clear ha hb
  go_enter Try.func9, Try.ntmps9
  go_wp2_with fail
  refine (gfew_any a A n c _ (H.out.up (by go_grown))).mono ?_
  rintro e w2 ⟨rfl, hb⟩
  have HB : Hid (Below w.heap.size w w2) := below_next hb (by go_grown)
  have RA : Hid (Row w2 w.heap.size 24 [.int .i64 a.w, .int .i64 a.h, .int .i64 a.edge, .slice A n c]) := rowCells ((Row.new w 24 [.int .i64 a.w, .int .i64 a.h, .int .i64 a.edge, .slice A n c]).alloc _) hb
  have RB : Hid (Row w2 (w.heap.size + 1) 24 [.int .i64 b.w, .int .i64 b.h, .int .i64 b.edge, .slice B m d]) := rowCells (rowNew1 w _ 24 [.int .i64 b.w, .int .i64 b.h, .int .i64 b.edge, .slice B m d]) hb
  clear hb
  cases hf : fewG a
  · clear RA RB
    go_wp2_with fail
    refine (galive_any _).mono ?_
    rintro e w9 ⟨rfl, hb⟩
    have HBE : Hid (Below w.heap.size w w9) := below_on HB.out (by go_grown) hb
    clear hb
    go_wp2
    go_ret
    exact ⟨rfl, HBE.out⟩
  have c0 := RB.out.cell 0
  have c1 := RB.out.cell 1
  have c2 := RB.out.cell 2
  have c3 := RB.out.cell 3
  simp only [List.getElem?_cons_zero, List.getElem?_cons_succ] at c0 c1 c2 c3
  go_wp2_with fail
  refine (gfew_any b B m d _ (H'.out.up HB.out)).mono ?_
  rintro e w1 ⟨rfl, hb⟩
  have HB := (show Hid (Below w.heap.size w w1) from below_on2 HB.out hb)
  have RA := (show Hid (Row w1 _ _ _) from rowCells RA.out hb)
  have RB := (show Hid (Row w1 _ _ _) from rowCells RB.out hb)
  clear hb c0 c1 c2 c3
  cases hf' : fewG b
  · clear RA RB
    go_wp2_with fail
    refine (galive_any _).mono ?_
    rintro e w9 ⟨rfl, hb⟩
    have HBE : Hid (Below w.heap.size w w9) := below_on HB.out (by go_grown) hb
    clear hb
    go_wp2
    go_ret
    exact ⟨rfl, HBE.out⟩
  clear hf hf'
  have HS : ∀ w', Below w1.heap.size w1 w' → w'.cell? ⟨w.heap.size, 0, none⟩ = some (.int .i64 a.w) ∧ w'.cell? ⟨w.heap.size, 1, none⟩ = some (.int .i64 a.h) ∧ w'.cell? ⟨w.heap.size, 2, none⟩ = some (.int .i64 a.edge) ∧ w'.cell? ⟨w.heap.size, 3, none⟩ = some (.slice A n c) ∧ w'.cell? ⟨w.heap.size + 1, 0, none⟩ = some (.int .i64 b.w) ∧ w'.cell? ⟨w.heap.size + 1, 1, none⟩ = some (.int .i64 b.h) ∧ w'.cell? ⟨w.heap.size + 1, 2, none⟩ = some (.int .i64 b.edge) ∧ w'.cell? ⟨w.heap.size + 1, 3, none⟩ = some (.slice B m d) := fun w' hw => ⟨(rowCells RA.out hw).cell 0, (rowCells RA.out hw).cell 1, (rowCells RA.out hw).cell 2, (rowCells RA.out hw).cell 3, (rowCells RB.out hw).cell 0, (rowCells RB.out hw).cell 1, (rowCells RB.out hw).cell 2, (rowCells RB.out hw).cell 3⟩
  have HN : Hid (Below w1.heap.size w1 w1) := Below.refl _ _
  have HA : Hid (GAt w1 a A n) := H.out.up HB.out
  have HA' : Hid (GAt w1 b B m) := H'.out.up HB.out
  clear RA RB
  go_wp2_with fail
  go_region_held3 (fun w' => w'.cell? ⟨w.heap.size, 0, none⟩ = some (.int .i64 a.w) ∧ w'.cell? ⟨w.heap.size, 1, none⟩ = some (.int .i64 a.h) ∧ w'.cell? ⟨w.heap.size, 2, none⟩ = some (.int .i64 a.edge) ∧ w'.cell? ⟨w.heap.size, 3, none⟩ = some (.slice A n c) ∧ w'.cell? ⟨w.heap.size + 1, 0, none⟩ = some (.int .i64 b.w) ∧ w'.cell? ⟨w.heap.size + 1, 1, none⟩ = some (.int .i64 b.h) ∧ w'.cell? ⟨w.heap.size + 1, 2, none⟩ = some (.int .i64 b.edge) ∧ w'.cell? ⟨w.heap.size + 1, 3, none⟩ = some (.slice B m d)) (exact HS _ (by first | exact below_on2 HN.out (by go_grown) | go_grown)) (first
    | (go_at_call_of 28 (Value.agg #[.int .i64 b.w, .int .i64 b.h, .int .i64 b.edge, .slice B m d])
       refine (gSame_any a b A B n c m d _ (by exact HA.out.up (by first | exact below_on2 HN.out (by go_grown) | go_grown)) (by exact HA'.out.up (by first | exact below_on2 HN.out (by go_grown) | go_grown))).mono ?_
       rintro e w7 ⟨rfl, hb⟩
       have HN := (show Hid (Below w1.heap.size w1 w7) from below_on HN.out (by go_grown) hb)
       clear hb)
    | (go_at_call 28
       refine (gSame_any a a A A n c n c _ (by exact HA.out.up (by first | exact below_on2 HN.out (by go_grown) | go_grown)) (by exact HA.out.up (by first | exact below_on2 HN.out (by go_grown) | go_grown))).mono ?_
       rw [sameG_self]
       rintro e w7 ⟨rfl, hb⟩
       have HN := (show Hid (Below w1.heap.size w1 w7) from below_on HN.out (by go_grown) hb)
       clear hb)
    | (go_at_call 16
       refine (rGSame_any a b A B n c m d _ (by exact HA.out.up (by first | exact below_on2 HN.out (by go_grown) | go_grown)) (by exact HA'.out.up (by first | exact below_on2 HN.out (by go_grown) | go_grown))).mono ?_
       rintro e w7 ⟨rfl, hb⟩
       have HN := (show Hid (Below w1.heap.size w1 w7) from below_on HN.out (by go_grown) hb)
       clear hb)
    | (go_at_call 11
       refine (galive_any _).mono ?_
       rintro e w7 ⟨rfl, hb⟩
       have HN := (show Hid (Below w1.heap.size w1 w7) from below_on HN.out (by go_grown) hb)
       clear hb))
  all_goals
    go_wp2
    go_ret
    exact ⟨rfl, below_on HB.out HN.out (by go_grown)⟩
end Go.Proofs.Ytoldjjgogdbalaa
