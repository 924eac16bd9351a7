/-
  The law GridSets: what it does.
-/
import Derived.Test.YtoldjjgogdbalaaGAlive
import Derived.Test.YtoldjjgogdbalaaGRefFrom
import Derived.Test.YtoldjjgogdbalaaPat5d
import Derived.Test.YtoldjjgogdbalaaGRefRight
namespace Go.Proofs.Ytoldjjgogdbalaa
open Go.RowKit
set_option linter.unusedSimpArgs false
set_option linter.unusedVariables false

theorem sameG_self2 (a : Grd) : sameG a a = true := (sameG_iff a a).2 rfl

set_option maxRecDepth 100000 in
set_option maxHeartbeats 4000000 in
theorem lawSets_any (g : Grd) (A : Option Addr) (n c : Nat) (x : Gt) (w : World) (h : GAt w g A n) :
    Calls Try.prog 5 #[.agg #[.int .i64 g.w, .int .i64 g.h, .int .i64 g.edge, .slice A n c], .agg #[.int .i64 x.op, .int .i64 x.a, .int .i64 x.b]] w fun e w' => e = .returned (.bool true) ∧ Below w.heap.size w w' := by
  have H : Hid (GAt w g A n) := h
  clear h
  go_enter Try.func5, Try.ntmps5
  go_wp2_with fail
  refine (gfew_any g A n c _ (H.out.up (by go_grown))).mono ?_
  rintro e w2 ⟨rfl, hb⟩
  have HB : Hid (Below w.heap.size w w2) := below_next hb (by go_grown)
  have RC : Hid (Row w2 w.heap.size 24 [.int .i64 g.w, .int .i64 g.h, .int .i64 g.edge, .slice A n c]) := rowCells ((Row.new w 24 [.int .i64 g.w, .int .i64 g.h, .int .i64 g.edge, .slice A n c]).alloc (.cells #[.int .i64 x.op, .int .i64 x.a, .int .i64 x.b] 34)) hb
  have RX : Hid (Row w2 (w.heap.size + 1) 34 [.int .i64 x.op, .int .i64 x.a, .int .i64 x.b]) := rowCells (rowNew1 w _ 34 [.int .i64 x.op, .int .i64 x.a, .int .i64 x.b]) hb
  clear hb
  cases hf : fewG g
  · clear RC RX
    go_wp2_with fail
    refine (galive_any _).mono ?_
    rintro e w9 ⟨rfl, hb⟩
    have HBE : Hid (Below w.heap.size w w9) := below_on HB.out (by go_grown) hb
    clear hb
    go_wp2
    go_ret
    exact ⟨rfl, HBE.out⟩
  clear hf
  have c0 := RC.out.cell 0
  have c1 := RC.out.cell 1
  have c2 := RC.out.cell 2
  have c3 := RC.out.cell 3
  have e0 := RX.out.cell 0
  have e1 := RX.out.cell 1
  have e2 := RX.out.cell 2
  have l1 := RC.out.lt
  have l2 := RX.out.lt
  simp only [List.getElem?_cons_zero, List.getElem?_cons_succ] at c0 c1 c2 c3 e0 e1 e2
  go_wp2_with fail
  refine (gSet_any g A n c x.op x.a x.b _ (H.out.up HB.out)).mono ?_
  rintro e w3 ⟨JA, jn, jc, rfl, hj, hb⟩
  have HJ : Hid (GAt w3 (setR g x.op x.a x.b) JA jn) := hj
  have HB := (show Hid (Below w.heap.size w w3) from below_on2 HB.out hb)
  have RC := (show Hid (Row w3 _ _ _) from rowCells RC.out hb)
  have RX := (show Hid (Row w3 _ _ _) from rowCells RX.out hb)
  clear hb hj c0 c1 c2 c3 e0 e1 e2 l1 l2
  have c0 := RC.out.cell 0
  have c1 := RC.out.cell 1
  have c2 := RC.out.cell 2
  have c3 := RC.out.cell 3
  have e0 := RX.out.cell 0
  have e1 := RX.out.cell 1
  have e2 := RX.out.cell 2
  have l1 := RC.out.lt
  have l2 := RX.out.lt
  simp only [List.getElem?_cons_zero, List.getElem?_cons_succ] at c0 c1 c2 c3 e0 e1 e2
  go_wp2_with fail
  refine (rGSet_any g A n c x.op x.a x.b _ (H.out.up (below_on2 HB.out (by go_grown)))).mono ?_
  rintro e w4 ⟨KA, kn, kc, rfl, hk, hb⟩
  have HK : Hid (GAt w4 (setR g x.op x.a x.b) KA kn) := hk
  have hn4 : Below w3.heap.size w3 w4 := below_next hb (by go_grown)
  have RJ : Hid (Row w4 w3.heap.size 24 [.int .i64 (setR g x.op x.a x.b).w, .int .i64 (setR g x.op x.a x.b).h, .int .i64 (setR g x.op x.a x.b).edge, .slice JA jn jc]) := rowCells (Row.new w3 24 [.int .i64 (setR g x.op x.a x.b).w, .int .i64 (setR g x.op x.a x.b).h, .int .i64 (setR g x.op x.a x.b).edge, .slice JA jn jc]) hb
  have HB := (show Hid (Below w.heap.size w w4) from below_on2 HB.out hn4)
  have HJ := (show Hid (GAt w4 _ _ _) from HJ.out.up hn4)
  have RC := (show Hid (Row w4 _ _ _) from rowCells RC.out hn4)
  have RX := (show Hid (Row w4 _ _ _) from rowCells RX.out hn4)
  clear hb hk hn4 c0 c1 c2 c3 e0 e1 e2 l1 l2
  have c0 := RC.out.cell 0
  have c1 := RC.out.cell 1
  have c2 := RC.out.cell 2
  have c3 := RC.out.cell 3
  have e0 := RX.out.cell 0
  have e1 := RX.out.cell 1
  have e2 := RX.out.cell 2
  have l1 := RC.out.lt
  have l2 := RX.out.lt
  simp only [List.getElem?_cons_zero, List.getElem?_cons_succ] at c0 c1 c2 c3 e0 e1 e2
  go_wp2_with fail
  clear c0 c1 c2 c3 e0 e1 e2 l1 l2
  have hn5 : Below w4.heap.size w4 (World.alloc w4 (.cells #[.int .i64 (setR g x.op x.a x.b).w, .int .i64 (setR g x.op x.a x.b).h, .int .i64 (setR g x.op x.a x.b).edge, .slice KA kn kc] 24)) := by go_grown
  have RK : Hid (Row (World.alloc w4 (.cells #[.int .i64 (setR g x.op x.a x.b).w, .int .i64 (setR g x.op x.a x.b).h, .int .i64 (setR g x.op x.a x.b).edge, .slice KA kn kc] 24)) w4.heap.size 24 [.int .i64 (setR g x.op x.a x.b).w, .int .i64 (setR g x.op x.a x.b).h, .int .i64 (setR g x.op x.a x.b).edge, .slice KA kn kc]) := Row.new w4 24 [.int .i64 (setR g x.op x.a x.b).w, .int .i64 (setR g x.op x.a x.b).h, .int .i64 (setR g x.op x.a x.b).edge, .slice KA kn kc]
  have HB := (show Hid (Below w.heap.size w (World.alloc w4 (.cells #[.int .i64 (setR g x.op x.a x.b).w, .int .i64 (setR g x.op x.a x.b).h, .int .i64 (setR g x.op x.a x.b).edge, .slice KA kn kc] 24))) from below_on2 HB.out hn5)
  have HJ := (show Hid (GAt (World.alloc w4 (.cells #[.int .i64 (setR g x.op x.a x.b).w, .int .i64 (setR g x.op x.a x.b).h, .int .i64 (setR g x.op x.a x.b).edge, .slice KA kn kc] 24)) _ _ _) from HJ.out.up hn5)
  have HK := (show Hid (GAt (World.alloc w4 (.cells #[.int .i64 (setR g x.op x.a x.b).w, .int .i64 (setR g x.op x.a x.b).h, .int .i64 (setR g x.op x.a x.b).edge, .slice KA kn kc] 24)) _ _ _) from HK.out.up hn5)
  have RC := (show Hid (Row (World.alloc w4 (.cells #[.int .i64 (setR g x.op x.a x.b).w, .int .i64 (setR g x.op x.a x.b).h, .int .i64 (setR g x.op x.a x.b).edge, .slice KA kn kc] 24)) _ _ _) from rowCells RC.out hn5)
  have RJ := (show Hid (Row (World.alloc w4 (.cells #[.int .i64 (setR g x.op x.a x.b).w, .int .i64 (setR g x.op x.a x.b).h, .int .i64 (setR g x.op x.a x.b).edge, .slice KA kn kc] 24)) _ _ _) from rowCells RJ.out hn5)
  have RX := (show Hid (Row (World.alloc w4 (.cells #[.int .i64 (setR g x.op x.a x.b).w, .int .i64 (setR g x.op x.a x.b).h, .int .i64 (setR g x.op x.a x.b).edge, .slice KA kn kc] 24)) _ _ _) from rowCells RX.out hn5)
  clear hn5
  revert RK HB HJ HK RC RJ RX
  generalize (World.alloc w4 (.cells #[.int .i64 (setR g x.op x.a x.b).w, .int .i64 (setR g x.op x.a x.b).h, .int .i64 (setR g x.op x.a x.b).edge, .slice KA kn kc] 24)) = w1
  intro RK HB HJ HK RC RJ RX
  have HS : ∀ w', Below w1.heap.size w1 w' → w'.cell? ⟨w.heap.size, 0, none⟩ = some (.int .i64 g.w) ∧ w'.cell? ⟨w.heap.size, 1, none⟩ = some (.int .i64 g.h) ∧ w'.cell? ⟨w.heap.size, 2, none⟩ = some (.int .i64 g.edge) ∧ w'.cell? ⟨w.heap.size, 3, none⟩ = some (.slice A n c) ∧ w'.cell? ⟨w.heap.size + 1, 0, none⟩ = some (.int .i64 x.op) ∧ w'.cell? ⟨w.heap.size + 1, 1, none⟩ = some (.int .i64 x.a) ∧ w'.cell? ⟨w.heap.size + 1, 2, none⟩ = some (.int .i64 x.b) ∧ w'.cell? ⟨w3.heap.size, 0, none⟩ = some (.int .i64 (setR g x.op x.a x.b).w) ∧ w'.cell? ⟨w3.heap.size, 1, none⟩ = some (.int .i64 (setR g x.op x.a x.b).h) ∧ w'.cell? ⟨w3.heap.size, 2, none⟩ = some (.int .i64 (setR g x.op x.a x.b).edge) ∧ w'.cell? ⟨w3.heap.size, 3, none⟩ = some (.slice JA jn jc) ∧ w'.cell? ⟨w4.heap.size, 0, none⟩ = some (.int .i64 (setR g x.op x.a x.b).w) ∧ w'.cell? ⟨w4.heap.size, 1, none⟩ = some (.int .i64 (setR g x.op x.a x.b).h) ∧ w'.cell? ⟨w4.heap.size, 2, none⟩ = some (.int .i64 (setR g x.op x.a x.b).edge) ∧ w'.cell? ⟨w4.heap.size, 3, none⟩ = some (.slice KA kn kc) := fun w' hw => ⟨(rowCells RC.out hw).cell 0, (rowCells RC.out hw).cell 1, (rowCells RC.out hw).cell 2, (rowCells RC.out hw).cell 3, (rowCells RX.out hw).cell 0, (rowCells RX.out hw).cell 1, (rowCells RX.out hw).cell 2, (rowCells RJ.out hw).cell 0, (rowCells RJ.out hw).cell 1, (rowCells RJ.out hw).cell 2, (rowCells RJ.out hw).cell 3, (rowCells RK.out hw).cell 0, (rowCells RK.out hw).cell 1, (rowCells RK.out hw).cell 2, (rowCells RK.out hw).cell 3⟩
  have HN : Hid (Below w1.heap.size w1 w1) := Below.refl _ _
  have HGS : Hid (setErr g x.op x.a x.b = 0 → getF (setR g x.op x.a x.b) x.op x.a = x.b) := get_set g x.op x.a x.b
  clear RC RJ RK RX
  generalize hk : setErr g x.op x.a x.b = k at HGS ⊢
  clear hk
  by_cases h0 : k = 0
  · subst h0
    have HG : Hid (getF (setR g x.op x.a x.b) x.op x.a = x.b) := HGS.out rfl
    clear HGS
    go_region_held3 (fun w' => w'.cell? ⟨w.heap.size, 0, none⟩ = some (.int .i64 g.w) ∧ w'.cell? ⟨w.heap.size, 1, none⟩ = some (.int .i64 g.h) ∧ w'.cell? ⟨w.heap.size, 2, none⟩ = some (.int .i64 g.edge) ∧ w'.cell? ⟨w.heap.size, 3, none⟩ = some (.slice A n c) ∧ w'.cell? ⟨w.heap.size + 1, 0, none⟩ = some (.int .i64 x.op) ∧ w'.cell? ⟨w.heap.size + 1, 1, none⟩ = some (.int .i64 x.a) ∧ w'.cell? ⟨w.heap.size + 1, 2, none⟩ = some (.int .i64 x.b) ∧ w'.cell? ⟨w3.heap.size, 0, none⟩ = some (.int .i64 (setR g x.op x.a x.b).w) ∧ w'.cell? ⟨w3.heap.size, 1, none⟩ = some (.int .i64 (setR g x.op x.a x.b).h) ∧ w'.cell? ⟨w3.heap.size, 2, none⟩ = some (.int .i64 (setR g x.op x.a x.b).edge) ∧ w'.cell? ⟨w3.heap.size, 3, none⟩ = some (.slice JA jn jc) ∧ w'.cell? ⟨w4.heap.size, 0, none⟩ = some (.int .i64 (setR g x.op x.a x.b).w) ∧ w'.cell? ⟨w4.heap.size, 1, none⟩ = some (.int .i64 (setR g x.op x.a x.b).h) ∧ w'.cell? ⟨w4.heap.size, 2, none⟩ = some (.int .i64 (setR g x.op x.a x.b).edge) ∧ w'.cell? ⟨w4.heap.size, 3, none⟩ = some (.slice KA kn kc)) (exact HS _ (by first | exact below_on2 HN.out (by go_grown) | go_grown)) (first
      | (go_at_call 16
         refine (rGSame_any (setR g x.op x.a x.b) (setR g x.op x.a x.b) JA KA jn jc kn kc _ (by exact HJ.out.up (by first | exact below_on2 HN.out (by go_grown) | go_grown)) (by exact HK.out.up (by first | exact below_on2 HN.out (by go_grown) | go_grown))).mono ?_
         rw [sameG_self2]
         rintro e w7 ⟨rfl, hb⟩
         have HN := (show Hid (Below w1.heap.size w1 w7) from below_on HN.out (by go_grown) hb)
         clear hb)
      | (go_at_call 17
         refine (gGet_any (setR g x.op x.a x.b) JA jn jc x.op x.a _ (by exact HJ.out.up (by first | exact below_on2 HN.out (by go_grown) | go_grown))).mono ?_
         rw [HG.out]
         rintro e w7 ⟨rfl, hb⟩
         have HN := (show Hid (Below w1.heap.size w1 w7) from below_on HN.out (by go_grown) hb)
         clear hb)
      | (go_at_call 11
         refine (galive_any _).mono ?_
         rintro e w7 ⟨rfl, hb⟩
         have HN := (show Hid (Below w1.heap.size w1 w7) from below_on HN.out (by go_grown) hb)
         clear hb))
    all_goals
      go_wp2
      go_ret
      exact ⟨rfl, below_on HB.out HN.out (by go_grown)⟩
  · have hk0 : (k != 0) = true := by simpa using h0
    clear h0 HGS
    have hu : undef = Value.tuple #[] := rfl
    refine wp_region_held_drew (S := fun w' => w'.cell? ⟨w.heap.size, 0, none⟩ = some (.int .i64 g.w) ∧ w'.cell? ⟨w.heap.size, 1, none⟩ = some (.int .i64 g.h) ∧ w'.cell? ⟨w.heap.size, 2, none⟩ = some (.int .i64 g.edge) ∧ w'.cell? ⟨w.heap.size, 3, none⟩ = some (.slice A n c) ∧ w'.cell? ⟨w.heap.size + 1, 0, none⟩ = some (.int .i64 x.op) ∧ w'.cell? ⟨w.heap.size + 1, 1, none⟩ = some (.int .i64 x.a) ∧ w'.cell? ⟨w.heap.size + 1, 2, none⟩ = some (.int .i64 x.b) ∧ w'.cell? ⟨w3.heap.size, 0, none⟩ = some (.int .i64 (setR g x.op x.a x.b).w) ∧ w'.cell? ⟨w3.heap.size, 1, none⟩ = some (.int .i64 (setR g x.op x.a x.b).h) ∧ w'.cell? ⟨w3.heap.size, 2, none⟩ = some (.int .i64 (setR g x.op x.a x.b).edge) ∧ w'.cell? ⟨w3.heap.size, 3, none⟩ = some (.slice JA jn jc) ∧ w'.cell? ⟨w4.heap.size, 0, none⟩ = some (.int .i64 (setR g x.op x.a x.b).w) ∧ w'.cell? ⟨w4.heap.size, 1, none⟩ = some (.int .i64 (setR g x.op x.a x.b).h) ∧ w'.cell? ⟨w4.heap.size, 2, none⟩ = some (.int .i64 (setR g x.op x.a x.b).edge) ∧ w'.cell? ⟨w4.heap.size, 3, none⟩ = some (.slice KA kn kc)) (by kernel_rfl) (by (try dsimp only); exact HS _ (by first | exact below_on2 HN.out (by go_grown) | go_grown)) (fun hHeld => ?_)
    refine wpAnyH_take (i := 0) (v := ?vs0) rfl (by kernel_rfl) (by kernel_rfl) (by kernel_rfl) (fun _ _ _ h => h) (Or.inl ⟨by rfl, ?ys0⟩) (by assumption) ?rs0
    case ys0 => intro w' hSw; (try dsimp only at hSw); go_simp; try (with_reducible rfl)
    go_simp
    refine wpAnyH_take (i := 1) (v := ?vs1) rfl (by kernel_rfl) (by kernel_rfl) (by kernel_rfl) (fun _ _ _ h => h) (Or.inl ⟨by rfl, ?ys1⟩) (by assumption) ?rs1
    case ys1 => intro w' hSw; (try dsimp only at hSw); go_simp; try (with_reducible rfl)
    go_simp
    refine wpAnyH_ready (rs := [2]) (by kernel_rfl) (by simp) ?_
    refine AllReadyH.cons rfl (fun K hK => ?_) AllReadyH.nil
    go_simp
    go_at_call 16
    refine (rGSame_any (setR g x.op x.a x.b) (setR g x.op x.a x.b) JA KA jn jc kn kc _ (by exact HJ.out.up (by first | exact below_on2 HN.out (by go_grown) | go_grown)) (by exact HK.out.up (by first | exact below_on2 HN.out (by go_grown) | go_grown))).mono ?_
    rw [sameG_self2]
    rintro e w7 ⟨rfl, hb⟩
    have HN := (show Hid (Below w1.heap.size w1 w7) from below_on HN.out (by go_grown) hb)
    clear hb
    refine hK.out _ _ ?_ (fun hHeld => ?_)
    · (try dsimp only); exact HS _ (by first | exact below_on2 HN.out (by go_grown) | go_grown)
    clear hK K
    try go_simp
    refine wpAnyH_take (i := 3) (v := ?vs3) rfl (by kernel_rfl) (by kernel_rfl) (by kernel_rfl) (fun _ _ _ h => h) (Or.inl ⟨by rfl, ?ys3⟩) (by assumption) ?rs3
    case ys3 => intro w' hSw; (try dsimp only at hSw); go_simp; try (with_reducible rfl)
    go_simp
    refine wpAnyH_take (i := 4) (v := ?vs4) rfl (by kernel_rfl) (by kernel_rfl) (by kernel_rfl) (fun _ _ _ h => h) (Or.inl ⟨by first | rfl | (go_simp; done), ?ys4⟩) (by assumption) ?rs4
    case ys4 => intro w' hSw; (try dsimp only at hSw); go_simp; try (with_reducible rfl)
    go_simp
    refine wpAnyH_take (i := 5) (v := ?vs5) rfl (by kernel_rfl) (by kernel_rfl) (by kernel_rfl) (fun _ _ _ h => h) (Or.inl ⟨by first | rfl | (go_simp; done), ?ys5⟩) (by assumption) ?rs5
    case ys5 => intro w' hSw; (try dsimp only at hSw); go_simp; try (with_reducible rfl)
    go_simp
    refine wpAnyH_take (i := 6) (v := ?vs6) rfl (by kernel_rfl) (by kernel_rfl) (by kernel_rfl) (fun _ _ _ h => h) (Or.inl ⟨by first | rfl | (go_simp; done), ?ys6⟩) (by assumption) ?rs6
    case ys6 => intro w' hSw; (try dsimp only at hSw); go_simp; try (with_reducible rfl)
    go_simp
    refine wpAnyH_take (i := 7) (v := ?vs7) rfl (by kernel_rfl) (by kernel_rfl) (by kernel_rfl) (fun _ _ _ h => h) (Or.inl ⟨by rfl, ?ys7⟩) (by assumption) ?rs7
    case ys7 => intro w' hSw; (try dsimp only at hSw); go_simp; try (with_reducible rfl)
    go_simp
    refine wpAnyH_take (i := 8) (v := ?vs8) rfl (by kernel_rfl) (by kernel_rfl) (by kernel_rfl) (fun _ _ _ h => h) (Or.inl ⟨by rfl, ?ys8⟩) (by assumption) ?rs8
    case ys8 => intro w' hSw; (try dsimp only at hSw); go_simp; try (with_reducible rfl)
    go_simp
    refine wpAnyH_take (i := 9) (v := ?vs9) rfl (by kernel_rfl) (by kernel_rfl) (by kernel_rfl) (fun _ _ _ h => h) (Or.inl ⟨by first | rfl | (go_simp; done), ?ys9⟩) (by assumption) ?rs9
    case ys9 => intro w' hSw; (try dsimp only at hSw); go_simp; try (with_reducible rfl)
    go_simp
    refine wpAnyH_take (i := 10) (v := ?vs10) rfl (by kernel_rfl) (by kernel_rfl) (by kernel_rfl) (fun _ _ _ h => h) (Or.inl ⟨by first | rfl | (go_simp; done), ?ys10⟩) (by assumption) ?rs10
    case ys10 => intro w' hSw; (try dsimp only at hSw); go_simp; try (with_reducible rfl)
    go_simp
    refine wpAnyH_take (i := 11) (v := ?vs11) rfl (by kernel_rfl) (by kernel_rfl) (by kernel_rfl) (fun _ _ _ h => h) (Or.inl ⟨by first | rfl | (go_simp; done), ?ys11⟩) (by assumption) ?rs11
    case ys11 => intro w' hSw; (try dsimp only at hSw); go_simp; try (with_reducible rfl)
    go_simp
    refine wpAnyH_take (i := 12) (v := undef) rfl (by kernel_rfl) (by kernel_rfl) (by kernel_rfl) (fun _ _ _ h => h) (Or.inr ⟨by go_simp, rfl⟩) (by assumption) ?_
    go_simp
    refine wpAnyH_take (i := 13) (v := undef) rfl (by kernel_rfl) (by kernel_rfl) (by kernel_rfl) (fun _ _ _ h => h) (Or.inr ⟨by go_simp, rfl⟩) (by assumption) ?_
    go_simp
    refine wpAnyH_take (i := 14) (v := undef) rfl (by kernel_rfl) (by kernel_rfl) (by kernel_rfl) (fun _ _ _ h => h) (Or.inr ⟨by go_simp, rfl⟩) (by assumption) ?_
    go_simp
    refine wpAnyH_take (i := 15) (v := undef) rfl (by kernel_rfl) (by kernel_rfl) (by kernel_rfl) (fun _ _ _ h => h) (Or.inr ⟨by go_simp, rfl⟩) (by assumption) ?_
    go_simp
    refine wpAnyH_take (i := 16) (v := undef) rfl (by kernel_rfl) (by kernel_rfl) (by kernel_rfl) (fun _ _ _ h => h) (Or.inr ⟨by go_simp, rfl⟩) (by assumption) ?_
    go_simp
    refine wpAnyH_take (i := 17) (v := undef) rfl (by kernel_rfl) (by kernel_rfl) (by kernel_rfl) (fun _ _ _ h => h) (Or.inr ⟨by go_simp, rfl⟩) (by assumption) ?_
    go_simp
    refine wpAnyH_take (i := 18) (v := undef) rfl (by kernel_rfl) (by kernel_rfl) (by kernel_rfl) (fun _ _ _ h => h) (Or.inr ⟨by go_simp, rfl⟩) (by assumption) ?_
    go_simp
    refine wpAnyH_take (i := 19) (v := undef) rfl (by kernel_rfl) (by kernel_rfl) (by kernel_rfl) (fun _ _ _ h => h) (Or.inr ⟨by go_simp, rfl⟩) (by assumption) ?_
    go_simp
    refine wpAnyH_take (i := 20) (v := undef) rfl (by kernel_rfl) (by kernel_rfl) (by kernel_rfl) (fun _ _ _ h => h) (Or.inr ⟨by go_simp, rfl⟩) (by assumption) ?_
    go_simp
    refine wpAnyH_take (i := 21) (v := ?vs21) rfl (by kernel_rfl) (by kernel_rfl) (by kernel_rfl) (fun _ _ _ h => h) (Or.inl ⟨by first | rfl | (go_simp; done), ?ys21⟩) (by assumption) ?rs21
    case ys21 => intro w' hSw; (try dsimp only at hSw); go_simp; try (with_reducible rfl)
    go_simp
    refine wpAnyH_take (i := 22) (v := ?vs22) rfl (by kernel_rfl) (by kernel_rfl) (by kernel_rfl) (fun _ _ _ h => h) (Or.inl ⟨by rfl, ?ys22⟩) (by assumption) ?rs22
    case ys22 => intro w' hSw; (try dsimp only at hSw); go_simp; try (with_reducible rfl)
    go_simp
    refine wpAnyH_take (i := 23) (v := ?vs23) rfl (by kernel_rfl) (by kernel_rfl) (by kernel_rfl) (fun _ _ _ h => h) (Or.inl ⟨by rfl, ?ys23⟩) (by assumption) ?rs23
    case ys23 => intro w' hSw; (try dsimp only at hSw); go_simp; try (with_reducible rfl)
    go_simp
    refine wpAnyH_ready (rs := [24]) (by kernel_rfl) (by simp) ?_
    refine AllReadyH.cons rfl (fun K hK => ?_) AllReadyH.nil
    go_simp
    go_at_call 11
    refine (galive_any _).mono ?_
    rintro e w7 ⟨rfl, hb⟩
    have HN := (show Hid (Below w1.heap.size w1 w7) from below_on HN.out (by go_grown) hb)
    clear hb
    refine hK.out _ _ ?_ (fun hHeld => ?_)
    · (try dsimp only); exact HS _ (by first | exact below_on2 HN.out (by go_grown) | go_grown)
    clear hK K
    try go_simp
    refine wpAnyH_take (i := 25) (v := ?vs25) rfl (by kernel_rfl) (by kernel_rfl) (by kernel_rfl) (fun _ _ _ h => h) (Or.inl ⟨by rfl, ?ys25⟩) (by assumption) ?rs25
    case ys25 => intro w' hSw; (try dsimp only at hSw); go_simp; try (with_reducible rfl)
    go_simp
    refine wpAnyH_take (i := 26) (v := ?vs26) rfl (by kernel_rfl) (by kernel_rfl) (by kernel_rfl) (fun _ _ _ h => h) (Or.inl ⟨by rfl, ?ys26⟩) (by assumption) ?rs26
    case ys26 => intro w' hSw; (try dsimp only at hSw); go_simp; try (with_reducible rfl)
    go_simp
    refine wpAnyH_done (by kernel_rfl) ?_ _
    go_wp2
    go_ret
    exact ⟨rfl, below_on HB.out HN.out (by go_grown)⟩
end Go.Proofs.Ytoldjjgogdbalaa
