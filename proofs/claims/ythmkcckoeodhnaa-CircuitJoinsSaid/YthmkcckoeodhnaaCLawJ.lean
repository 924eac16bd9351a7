/-
  The law CircuitJoins: what it does.
-/
import Derived.Test.YthmkcckoeodhnaaCAlive
import Derived.Test.YthmkcckoeodhnaaCJLaw
import Derived.StillTailTactics
namespace Go.Proofs.Ythmkcckoeodhnaa
open Go.RowKit
set_option linter.unusedSimpArgs false
set_option linter.unusedVariables false

theorem depthC_bd' (c : Circ) : 0 ≤ depthC c ∧ depthC c ≤ 20000 := by
  unfold depthC
  split
  · rename_i hr
    obtain ⟨⟨h0, h1, h2, h3⟩, _, _⟩ := rightC_parts hr
    have hb := depth_bd c.gates (List.replicate c.inputs.toNat 0) 0 (by omega) (fun k => by
      have : (List.replicate c.inputs.toNat (0 : Int)).getD k 0 = 0 := by
        rw [List.getD_eq_getElem?_getD, List.getElem?_replicate]; split <;> rfl
      omega)
    refine ⟨(le_foldl_max _ 0).1, foldl_max_le _ _ _ (by omega) ?_⟩
    intro x hx
    obtain ⟨o, _, rfl⟩ := List.mem_map.1 hx
    have := (hb o.toNat).2
    unfold depths
    omega
  · omega

set_option maxRecDepth 100000 in
set_option maxHeartbeats 4000000 in
theorem lawJoins_any (a b : Circ) (GA OA GB OB : Option Addr) (gn gc on oc hn hc pn pc : Nat) (w : World) (hA : CAt w a GA OA gn on) (hB : CAt w b GB OB hn pn) :
    Calls Try.prog 6 #[.agg #[.int .i64 a.inputs, .slice GA gn gc, .slice OA on oc], .agg #[.int .i64 b.inputs, .slice GB hn hc, .slice OB pn pc]] w fun e w' => e = .returned (.bool true) ∧ Below w.heap.size w w' := by
  have H : Hid (CAt w a GA OA gn on) := hA
  have H' : Hid (CAt w b GB OB hn pn) := hB
  clear hA hB
  go_enter Try.func6, Try.ntmps6
  go_wp2_with fail
  refine (few_any a GA OA gn gc on oc _ (H.out.up (by go_grown))).mono ?_
  rintro e w1 ⟨rfl, hb⟩
  have HB : Hid (Below w.heap.size w w1) := below_next hb (by go_grown)
  have RA : Hid (Row w1 w.heap.size 25 [.int .i64 a.inputs, .slice GA gn gc, .slice OA on oc]) := rowCells ((Row.new w 25 [.int .i64 a.inputs, .slice GA gn gc, .slice OA on oc]).alloc (.cells #[.int .i64 b.inputs, .slice GB hn hc, .slice OB pn pc] 25)) hb
  have RB : Hid (Row w1 (w.heap.size + 1) 25 [.int .i64 b.inputs, .slice GB hn hc, .slice OB pn pc]) := rowCells (row_new1 w _ 25 [.int .i64 b.inputs, .slice GB hn hc, .slice OB pn pc]) hb
  clear hb
  cases hf : fewC a
  · clear RA RB
    go_wp2_with fail
    refine (alive_any _).mono ?_
    rintro e w2 ⟨rfl, hb⟩
    have HB2 : Hid (Below w.heap.size w w2) := below_on HB.out (by go_grown) hb
    clear hb
    go_wp2
    go_ret
    exact ⟨rfl, HB2.out⟩
  have c0 := RB.out.cell 0
  have c1 := RB.out.cell 1
  have c2 := RB.out.cell 2
  simp only [List.getElem?_cons_zero, List.getElem?_cons_succ] at c0 c1 c2
  go_wp2_with fail
  refine (few_any b GB OB hn hc pn pc _ (H'.out.up HB.out)).mono ?_
  rintro e w2 ⟨rfl, hb⟩
  have HB := (show Hid (Below w.heap.size w w2) from below_on2 HB.out hb)
  have RA := (show Hid (Row w2 _ _ _) from rowCells RA.out hb)
  have RB := (show Hid (Row w2 _ _ _) from rowCells RB.out hb)
  clear hb c0 c1 c2
  cases hf' : fewC b
  · clear RA RB
    go_wp2_with fail
    refine (alive_any _).mono ?_
    rintro e w3 ⟨rfl, hb⟩
    have HB2 : Hid (Below w.heap.size w w3) := below_on HB.out (by go_grown) hb
    clear hb
    go_wp2
    go_ret
    exact ⟨rfl, HB2.out⟩
  have a0 := RA.out.cell 0
  have a1 := RA.out.cell 1
  have a2 := RA.out.cell 2
  have c0 := RB.out.cell 0
  have c1 := RB.out.cell 1
  have c2 := RB.out.cell 2
  simp only [List.getElem?_cons_zero, List.getElem?_cons_succ] at a0 a1 a2 c0 c1 c2
  go_wp2_with fail
  refine (join_any a b GA OA GB OB gn gc on oc hn hc pn pc _ (H.out.up HB.out) (H'.out.up HB.out)).mono ?_
  rintro e w3 ⟨JA, JO, jn, jc, jon, joc, rfl, hj, hb⟩
  have HJ : Hid (CAt w3 (joinR a b) JA JO jn jon) := hj
  have HB := (show Hid (Below w.heap.size w w3) from below_on2 HB.out hb)
  have RA := (show Hid (Row w3 _ _ _) from rowCells RA.out hb)
  have RB := (show Hid (Row w3 _ _ _) from rowCells RB.out hb)
  clear hb a0 a1 a2 c0 c1 c2 hj
  have a0 := RA.out.cell 0
  have a1 := RA.out.cell 1
  have a2 := RA.out.cell 2
  have c0 := RB.out.cell 0
  have c1 := RB.out.cell 1
  have c2 := RB.out.cell 2
  simp only [List.getElem?_cons_zero, List.getElem?_cons_succ] at a0 a1 a2 c0 c1 c2
  have l1 := RA.out.lt
  have l2 := RB.out.lt
  go_wp2_with fail
  refine (rJoin_any a b GA OA GB OB gn gc on oc hn hc pn pc _ (H.out.up (below_on2 HB.out (by go_grown))) (H'.out.up (below_on2 HB.out (by go_grown)))).mono ?_
  rintro e w4 ⟨KA, KO, kn, kc, kon, koc, rfl, hk, hb⟩
  have HK : Hid (CAt w4 (joinR a b) KA KO kn kon) := hk
  have hn4 : Below w3.heap.size w3 w4 := below_next hb (by go_grown)
  have RJ : Hid (Row w4 w3.heap.size 25 [.int .i64 (joinR a b).inputs, .slice JA jn jc, .slice JO jon joc]) := rowCells (Row.new w3 25 [.int .i64 (joinR a b).inputs, .slice JA jn jc, .slice JO jon joc]) hb
  have HB := (show Hid (Below w.heap.size w w4) from below_on2 HB.out hn4)
  have HJ := (show Hid (CAt w4 _ _ _ _ _) from HJ.out.up hn4)
  have RA := (show Hid (Row w4 _ _ _) from rowCells RA.out hn4)
  have RB := (show Hid (Row w4 _ _ _) from rowCells RB.out hn4)
  clear hb a0 a1 a2 c0 c1 c2 hk hn4 l1 l2
  have d0 := RJ.out.cell 0
  have d1 := RJ.out.cell 1
  have d2 := RJ.out.cell 2
  simp only [List.getElem?_cons_zero, List.getElem?_cons_succ] at d0 d1 d2
  have l3 := RJ.out.lt
  go_wp2_with fail
  refine (rSame_any (joinR a b).inputs (joinR a b).inputs JA JO KA KO jn jc jon joc kn kc kon koc (joinR a b).gates (joinR a b).gates (joinR a b).outs (joinR a b).outs _ (by exact (HJ.out.up (by go_grown)).gates) (by exact (HJ.out.up (by go_grown)).outs) HJ.out.g63 HJ.out.o63 (by exact (HK.out.up (by go_grown)).gates) (by exact (HK.out.up (by go_grown)).outs) HK.out.g63 HK.out.o63).mono ?_
  rw [show sameC ⟨(joinR a b).inputs, (joinR a b).gates, (joinR a b).outs⟩ ⟨(joinR a b).inputs, (joinR a b).gates, (joinR a b).outs⟩ = true from by simp [sameC]]
  rintro e w1 ⟨rfl, hb⟩
  have hn5 : Below w4.heap.size w4 w1 := below_next hb (by go_grown)
  have HB := (show Hid (Below w.heap.size w w1) from below_on2 HB.out hn5)
  have HJ := (show Hid (CAt w1 _ _ _ _ _) from HJ.out.up hn5)
  have HA : Hid (CAt w1 a GA OA gn on) := H.out.up HB.out
  have HA' : Hid (CAt w1 b GB OB hn pn) := H'.out.up HB.out
  have RA := (show Hid (Row w1 _ _ _) from rowCells RA.out hn5)
  have RB := (show Hid (Row w1 _ _ _) from rowCells RB.out hn5)
  have RJ := (show Hid (Row w1 _ _ _) from rowCells RJ.out hn5)
  clear hb hn5 d0 d1 d2 l3 HK
  have HS : ∀ w', Below w1.heap.size w1 w' → w'.cell? ⟨w.heap.size, 0, none⟩ = some (.int .i64 a.inputs) ∧ w'.cell? ⟨w.heap.size, 1, none⟩ = some (.slice GA gn gc) ∧ w'.cell? ⟨w.heap.size, 2, none⟩ = some (.slice OA on oc) ∧ w'.cell? ⟨w.heap.size + 1, 0, none⟩ = some (.int .i64 b.inputs) ∧ w'.cell? ⟨w.heap.size + 1, 1, none⟩ = some (.slice GB hn hc) ∧ w'.cell? ⟨w.heap.size + 1, 2, none⟩ = some (.slice OB pn pc) ∧ w'.cell? ⟨w3.heap.size, 0, none⟩ = some (.int .i64 (joinR a b).inputs) ∧ w'.cell? ⟨w3.heap.size, 1, none⟩ = some (.slice JA jn jc) ∧ w'.cell? ⟨w3.heap.size, 2, none⟩ = some (.slice JO jon joc) := fun w' hw => ⟨(rowCells RA.out hw).cell 0, (rowCells RA.out hw).cell 1, (rowCells RA.out hw).cell 2, (rowCells RB.out hw).cell 0, (rowCells RB.out hw).cell 1, (rowCells RB.out hw).cell 2, (rowCells RJ.out hw).cell 0, (rowCells RJ.out hw).cell 1, (rowCells RJ.out hw).cell 2⟩
  have HN : Hid (Below w1.heap.size w1 w1) := Below.refl _ _
  clear RA RB RJ
  rcases joinErr_cases a b with h0 | h0 | h0
  · have hjo := joins_of h0
    have hr : rightC (joinR a b) = true := by rw [joinR, if_pos h0]; exact right_join a b hjo
    have hd : depthC (joinR a b) ≤ depthC a + depthC b := by rw [joinR, if_pos h0]; exact depth_join a b hjo
    have hda := depthC_bd' a
    have hdb := depthC_bd' b
    have hwr : IntKind.i64.wrap (depthC a + depthC b) = depthC a + depthC b := IntWalk.i64_in _ (by omega)
    clear hjo
    rw [h0]
    go_wp2_with fail
    go_region_held3 (fun w' => w'.cell? ⟨w.heap.size, 0, none⟩ = some (.int .i64 a.inputs) ∧ w'.cell? ⟨w.heap.size, 1, none⟩ = some (.slice GA gn gc) ∧ w'.cell? ⟨w.heap.size, 2, none⟩ = some (.slice OA on oc) ∧ w'.cell? ⟨w.heap.size + 1, 0, none⟩ = some (.int .i64 b.inputs) ∧ w'.cell? ⟨w.heap.size + 1, 1, none⟩ = some (.slice GB hn hc) ∧ w'.cell? ⟨w.heap.size + 1, 2, none⟩ = some (.slice OB pn pc) ∧ w'.cell? ⟨w3.heap.size, 0, none⟩ = some (.int .i64 (joinR a b).inputs) ∧ w'.cell? ⟨w3.heap.size, 1, none⟩ = some (.slice JA jn jc) ∧ w'.cell? ⟨w3.heap.size, 2, none⟩ = some (.slice JO jon joc)) (exact HS _ (by first | exact below_on2 HN.out (by go_grown) | go_grown)) (first
    | (go_at_call 11
       refine (right_at (joinR a b) JA JO jn jc jon joc _ (by exact HJ.out.up (by first | exact below_on2 HN.out (by go_grown) | go_grown))).mono ?_
       rw [hr]
       rintro e w7 ⟨rfl, hb⟩
       have HN := (show Hid (Below w1.heap.size w1 w7) from below_on HN.out (by go_grown) hb)
       clear hb)
    | (go_at_call_of 13 (Value.agg #[.int .i64 (joinR a b).inputs, .slice JA jn jc, .slice JO jon joc])
       refine (depth_any (joinR a b) JA JO jn jc jon joc _ (by exact HJ.out.up (by first | exact below_on2 HN.out (by go_grown) | go_grown))).mono ?_
       rintro e w7 ⟨rfl, hb⟩
       have HN := (show Hid (Below w1.heap.size w1 w7) from below_on HN.out (by go_grown) hb)
       clear hb)
    | (go_at_call_of 13 (Value.agg #[.int .i64 a.inputs, .slice GA gn gc, .slice OA on oc])
       refine (depth_any a GA OA gn gc on oc _ (by exact HA.out.up (by first | exact below_on2 HN.out (by go_grown) | go_grown))).mono ?_
       rintro e w7 ⟨rfl, hb⟩
       have HN := (show Hid (Below w1.heap.size w1 w7) from below_on HN.out (by go_grown) hb)
       clear hb)
    | (go_at_call_of 13 (Value.agg #[.int .i64 b.inputs, .slice GB hn hc, .slice OB pn pc])
       refine (depth_any b GB OB hn hc pn pc _ (by exact HA'.out.up (by first | exact below_on2 HN.out (by go_grown) | go_grown))).mono ?_
       rintro e w7 ⟨rfl, hb⟩
       have HN := (show Hid (Below w1.heap.size w1 w7) from below_on HN.out (by go_grown) hb)
       clear hb)
    | (go_at_call 10
       refine (alive_any _).mono ?_
       rintro e w7 ⟨rfl, hb⟩
       have HN := (show Hid (Below w1.heap.size w1 w7) from below_on HN.out (by go_grown) hb)
       clear hb))
    all_goals
      go_wp2
      go_ret
      exact ⟨rfl, below_on HB.out HN.out (by go_grown)⟩
  · rw [h0]
    clear HS
    have hu : undef = Value.tuple #[] := rfl
    go_wp2_with fail
    refine wp_region_any (by kernel_rfl) ?_
    change wpAny _ _ _ _ _ _ _ (World.drew _)
    refine wpAny_take (i := 0) (v := ?v0) rfl (by kernel_rfl) (by kernel_rfl) (by kernel_rfl) (fun _ _ _ h => h) (Or.inl ⟨by rfl, ?y0⟩) ?r0
    case y0 => intro w; go_simp; try (with_reducible rfl)
    try simp only [Act.put, List.setIfInBounds_toArray, List.set_cons_zero, List.set_cons_succ]
    refine wpAny_take (i := 1) (v := ?v1) rfl (by kernel_rfl) (by kernel_rfl) (by kernel_rfl) (fun _ _ _ h => h) (Or.inl ⟨by rfl, ?y1⟩) ?r1
    case y1 => intro w; go_simp; try (with_reducible rfl)
    try simp only [Act.put, List.setIfInBounds_toArray, List.set_cons_zero, List.set_cons_succ]
    refine wpAny_take (i := 2) (v := ?v2) rfl (by kernel_rfl) (by kernel_rfl) (by kernel_rfl) (fun _ _ _ h => h) (Or.inl ⟨by rfl, ?y2⟩) ?r2
    case y2 => intro w; go_simp; try (with_reducible rfl)
    try simp only [Act.put, List.setIfInBounds_toArray, List.set_cons_zero, List.set_cons_succ]
    refine wpAny_take (i := 3) (v := undef) rfl (by kernel_rfl) (by kernel_rfl) (by kernel_rfl) (fun _ _ _ h => h) (Or.inr ⟨by go_simp, rfl⟩) ?_
    try simp only [Act.put, List.setIfInBounds_toArray, List.set_cons_zero, List.set_cons_succ]
    refine wpAny_take (i := 4) (v := undef) rfl (by kernel_rfl) (by kernel_rfl) (by kernel_rfl) (fun _ _ _ h => h) (Or.inr ⟨by go_simp, rfl⟩) ?_
    try simp only [Act.put, List.setIfInBounds_toArray, List.set_cons_zero, List.set_cons_succ]
    refine wpAny_take (i := 5) (v := undef) rfl (by kernel_rfl) (by kernel_rfl) (by kernel_rfl) (fun _ _ _ h => h) (Or.inr ⟨by go_simp, rfl⟩) ?_
    try simp only [Act.put, List.setIfInBounds_toArray, List.set_cons_zero, List.set_cons_succ]
    refine wpAny_take (i := 6) (v := undef) rfl (by kernel_rfl) (by kernel_rfl) (by kernel_rfl) (fun _ _ _ h => h) (Or.inr ⟨by go_simp, rfl⟩) ?_
    try simp only [Act.put, List.setIfInBounds_toArray, List.set_cons_zero, List.set_cons_succ]
    refine wpAny_take (i := 7) (v := undef) rfl (by kernel_rfl) (by kernel_rfl) (by kernel_rfl) (fun _ _ _ h => h) (Or.inr ⟨by go_simp, rfl⟩) ?_
    try simp only [Act.put, List.setIfInBounds_toArray, List.set_cons_zero, List.set_cons_succ]
    refine wpAny_take (i := 8) (v := undef) rfl (by kernel_rfl) (by kernel_rfl) (by kernel_rfl) (fun _ _ _ h => h) (Or.inr ⟨by go_simp, rfl⟩) ?_
    try simp only [Act.put, List.setIfInBounds_toArray, List.set_cons_zero, List.set_cons_succ]
    refine wpAny_take (i := 9) (v := undef) rfl (by kernel_rfl) (by kernel_rfl) (by kernel_rfl) (fun _ _ _ h => h) (Or.inr ⟨by go_simp, rfl⟩) ?_
    try simp only [Act.put, List.setIfInBounds_toArray, List.set_cons_zero, List.set_cons_succ]
    refine wpAny_take (i := 10) (v := undef) rfl (by kernel_rfl) (by kernel_rfl) (by kernel_rfl) (fun _ _ _ h => h) (Or.inr ⟨by go_simp, rfl⟩) ?_
    try simp only [Act.put, List.setIfInBounds_toArray, List.set_cons_zero, List.set_cons_succ]
    refine wpAny_take (i := 11) (v := undef) rfl (by kernel_rfl) (by kernel_rfl) (by kernel_rfl) (fun _ _ _ h => h) (Or.inr ⟨by go_simp, rfl⟩) ?_
    try simp only [Act.put, List.setIfInBounds_toArray, List.set_cons_zero, List.set_cons_succ]
    refine wpAny_take (i := 12) (v := undef) rfl (by kernel_rfl) (by kernel_rfl) (by kernel_rfl) (fun _ _ _ h => h) (Or.inr ⟨by go_simp, rfl⟩) ?_
    try simp only [Act.put, List.setIfInBounds_toArray, List.set_cons_zero, List.set_cons_succ]
    refine wpAny_take (i := 13) (v := undef) rfl (by kernel_rfl) (by kernel_rfl) (by kernel_rfl) (fun _ _ _ h => h) (Or.inr ⟨by go_simp, rfl⟩) ?_
    try simp only [Act.put, List.setIfInBounds_toArray, List.set_cons_zero, List.set_cons_succ]
    refine wpAny_take (i := 14) (v := undef) rfl (by kernel_rfl) (by kernel_rfl) (by kernel_rfl) (fun _ _ _ h => h) (Or.inr ⟨by go_simp, rfl⟩) ?_
    try simp only [Act.put, List.setIfInBounds_toArray, List.set_cons_zero, List.set_cons_succ]
    refine wpAny_take (i := 15) (v := ?v15) rfl (by kernel_rfl) (by kernel_rfl) (by kernel_rfl) (fun _ _ _ h => h) (Or.inl ⟨by rfl, ?y15⟩) ?r15
    case y15 => intro w; go_simp; try (with_reducible rfl)
    try simp only [Act.put, List.setIfInBounds_toArray, List.set_cons_zero, List.set_cons_succ]
    refine wpAny_take (i := 16) (v := ?v16) rfl (by kernel_rfl) (by kernel_rfl) (by kernel_rfl) (fun _ _ _ h => h) (Or.inl ⟨by rfl, ?y16⟩) ?r16
    case y16 => intro w; go_simp; try (with_reducible rfl)
    try simp only [Act.put, List.setIfInBounds_toArray, List.set_cons_zero, List.set_cons_succ]
    refine wpAny_ready (rs := [17]) (by kernel_rfl) (by simp) ?_
    refine AllReady.cons rfl (fun K hK => ?_) AllReady.nil
    go_simp
    refine (alive_any _).mono ?_
    rintro e w7 ⟨rfl, hb⟩
    have HN := (show Hid (Below w1.heap.size w1 w7) from below_on HN.out (by go_grown) hb)
    clear hb
    refine hK _ _ ?_
    clear hK K
    try simp only [Act.put, List.setIfInBounds_toArray, List.set_cons_zero, List.set_cons_succ]
    refine wpAny_take (i := 18) (v := ?v18) rfl (by kernel_rfl) (by kernel_rfl) (by kernel_rfl) (fun _ _ _ h => h) (Or.inl ⟨by rfl, ?y18⟩) ?r18
    case y18 => intro w; go_simp; try (with_reducible rfl)
    go_simp
    refine wpAny_take (i := 19) (v := ?v19) rfl (by kernel_rfl) (by kernel_rfl) (by kernel_rfl) (fun _ _ _ h => h) (Or.inl ⟨by rfl, ?y19⟩) ?r19
    case y19 => intro w; go_simp; try (with_reducible rfl)
    go_simp
    refine wpAny_done (by kernel_rfl) ?_ _
    go_wp2
    go_ret
    exact ⟨rfl, below_on HB.out HN.out (by go_grown)⟩
  · rw [h0]
    clear HS
    have hu : undef = Value.tuple #[] := rfl
    go_wp2_with fail
    refine wp_region_any (by kernel_rfl) ?_
    change wpAny _ _ _ _ _ _ _ (World.drew _)
    refine wpAny_take (i := 0) (v := ?v0b) rfl (by kernel_rfl) (by kernel_rfl) (by kernel_rfl) (fun _ _ _ h => h) (Or.inl ⟨by rfl, ?y0b⟩) ?r0b
    case y0b => intro w; go_simp; try (with_reducible rfl)
    try simp only [Act.put, List.setIfInBounds_toArray, List.set_cons_zero, List.set_cons_succ]
    refine wpAny_take (i := 1) (v := ?v1b) rfl (by kernel_rfl) (by kernel_rfl) (by kernel_rfl) (fun _ _ _ h => h) (Or.inl ⟨by rfl, ?y1b⟩) ?r1b
    case y1b => intro w; go_simp; try (with_reducible rfl)
    try simp only [Act.put, List.setIfInBounds_toArray, List.set_cons_zero, List.set_cons_succ]
    refine wpAny_take (i := 2) (v := ?v2b) rfl (by kernel_rfl) (by kernel_rfl) (by kernel_rfl) (fun _ _ _ h => h) (Or.inl ⟨by rfl, ?y2b⟩) ?r2b
    case y2b => intro w; go_simp; try (with_reducible rfl)
    try simp only [Act.put, List.setIfInBounds_toArray, List.set_cons_zero, List.set_cons_succ]
    refine wpAny_take (i := 3) (v := undef) rfl (by kernel_rfl) (by kernel_rfl) (by kernel_rfl) (fun _ _ _ h => h) (Or.inr ⟨by go_simp, rfl⟩) ?_
    try simp only [Act.put, List.setIfInBounds_toArray, List.set_cons_zero, List.set_cons_succ]
    refine wpAny_take (i := 4) (v := undef) rfl (by kernel_rfl) (by kernel_rfl) (by kernel_rfl) (fun _ _ _ h => h) (Or.inr ⟨by go_simp, rfl⟩) ?_
    try simp only [Act.put, List.setIfInBounds_toArray, List.set_cons_zero, List.set_cons_succ]
    refine wpAny_take (i := 5) (v := undef) rfl (by kernel_rfl) (by kernel_rfl) (by kernel_rfl) (fun _ _ _ h => h) (Or.inr ⟨by go_simp, rfl⟩) ?_
    try simp only [Act.put, List.setIfInBounds_toArray, List.set_cons_zero, List.set_cons_succ]
    refine wpAny_take (i := 6) (v := undef) rfl (by kernel_rfl) (by kernel_rfl) (by kernel_rfl) (fun _ _ _ h => h) (Or.inr ⟨by go_simp, rfl⟩) ?_
    try simp only [Act.put, List.setIfInBounds_toArray, List.set_cons_zero, List.set_cons_succ]
    refine wpAny_take (i := 7) (v := undef) rfl (by kernel_rfl) (by kernel_rfl) (by kernel_rfl) (fun _ _ _ h => h) (Or.inr ⟨by go_simp, rfl⟩) ?_
    try simp only [Act.put, List.setIfInBounds_toArray, List.set_cons_zero, List.set_cons_succ]
    refine wpAny_take (i := 8) (v := undef) rfl (by kernel_rfl) (by kernel_rfl) (by kernel_rfl) (fun _ _ _ h => h) (Or.inr ⟨by go_simp, rfl⟩) ?_
    try simp only [Act.put, List.setIfInBounds_toArray, List.set_cons_zero, List.set_cons_succ]
    refine wpAny_take (i := 9) (v := undef) rfl (by kernel_rfl) (by kernel_rfl) (by kernel_rfl) (fun _ _ _ h => h) (Or.inr ⟨by go_simp, rfl⟩) ?_
    try simp only [Act.put, List.setIfInBounds_toArray, List.set_cons_zero, List.set_cons_succ]
    refine wpAny_take (i := 10) (v := undef) rfl (by kernel_rfl) (by kernel_rfl) (by kernel_rfl) (fun _ _ _ h => h) (Or.inr ⟨by go_simp, rfl⟩) ?_
    try simp only [Act.put, List.setIfInBounds_toArray, List.set_cons_zero, List.set_cons_succ]
    refine wpAny_take (i := 11) (v := undef) rfl (by kernel_rfl) (by kernel_rfl) (by kernel_rfl) (fun _ _ _ h => h) (Or.inr ⟨by go_simp, rfl⟩) ?_
    try simp only [Act.put, List.setIfInBounds_toArray, List.set_cons_zero, List.set_cons_succ]
    refine wpAny_take (i := 12) (v := undef) rfl (by kernel_rfl) (by kernel_rfl) (by kernel_rfl) (fun _ _ _ h => h) (Or.inr ⟨by go_simp, rfl⟩) ?_
    try simp only [Act.put, List.setIfInBounds_toArray, List.set_cons_zero, List.set_cons_succ]
    refine wpAny_take (i := 13) (v := undef) rfl (by kernel_rfl) (by kernel_rfl) (by kernel_rfl) (fun _ _ _ h => h) (Or.inr ⟨by go_simp, rfl⟩) ?_
    try simp only [Act.put, List.setIfInBounds_toArray, List.set_cons_zero, List.set_cons_succ]
    refine wpAny_take (i := 14) (v := undef) rfl (by kernel_rfl) (by kernel_rfl) (by kernel_rfl) (fun _ _ _ h => h) (Or.inr ⟨by go_simp, rfl⟩) ?_
    try simp only [Act.put, List.setIfInBounds_toArray, List.set_cons_zero, List.set_cons_succ]
    refine wpAny_take (i := 15) (v := ?v15b) rfl (by kernel_rfl) (by kernel_rfl) (by kernel_rfl) (fun _ _ _ h => h) (Or.inl ⟨by rfl, ?y15b⟩) ?r15b
    case y15b => intro w; go_simp; try (with_reducible rfl)
    try simp only [Act.put, List.setIfInBounds_toArray, List.set_cons_zero, List.set_cons_succ]
    refine wpAny_take (i := 16) (v := ?v16b) rfl (by kernel_rfl) (by kernel_rfl) (by kernel_rfl) (fun _ _ _ h => h) (Or.inl ⟨by rfl, ?y16b⟩) ?r16b
    case y16b => intro w; go_simp; try (with_reducible rfl)
    try simp only [Act.put, List.setIfInBounds_toArray, List.set_cons_zero, List.set_cons_succ]
    refine wpAny_ready (rs := [17]) (by kernel_rfl) (by simp) ?_
    refine AllReady.cons rfl (fun K hK => ?_) AllReady.nil
    go_simp
    refine (alive_any _).mono ?_
    rintro e w7 ⟨rfl, hb⟩
    have HN := (show Hid (Below w1.heap.size w1 w7) from below_on HN.out (by go_grown) hb)
    clear hb
    refine hK _ _ ?_
    clear hK K
    try simp only [Act.put, List.setIfInBounds_toArray, List.set_cons_zero, List.set_cons_succ]
    refine wpAny_take (i := 18) (v := ?v18b) rfl (by kernel_rfl) (by kernel_rfl) (by kernel_rfl) (fun _ _ _ h => h) (Or.inl ⟨by rfl, ?y18b⟩) ?r18b
    case y18b => intro w; go_simp; try (with_reducible rfl)
    go_simp
    refine wpAny_take (i := 19) (v := ?v19b) rfl (by kernel_rfl) (by kernel_rfl) (by kernel_rfl) (fun _ _ _ h => h) (Or.inl ⟨by rfl, ?y19b⟩) ?r19b
    case y19b => intro w; go_simp; try (with_reducible rfl)
    go_simp
    refine wpAny_done (by kernel_rfl) ?_ _
    go_wp2
    go_ret
    exact ⟨rfl, below_on HB.out HN.out (by go_grown)⟩
end Go.Proofs.Ythmkcckoeodhnaa
