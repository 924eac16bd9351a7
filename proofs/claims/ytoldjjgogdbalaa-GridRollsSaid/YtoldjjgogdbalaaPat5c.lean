/-
  The reference's Right and Compare of patterns, walked.
-/
import Derived.Test.YtoldjjgogdbalaaPat5
namespace Go.Proofs.Ytoldjjgogdbalaa
open Go.RowKit
set_option linter.unusedSimpArgs false
set_option linter.unusedVariables false

set_option maxRecDepth 100000 in
set_option maxHeartbeats 2000000 in
theorem rPRight_any (p : List Gt) (A : Option Addr) (n c : Nat) (w : World) (h : Rd w w.heap.size 3 A n (gatesCells p)) (hm : n ≤ maxLen) :
    Calls Try.prog 37 #[.slice A n c] w fun e w' => e = .returned (.bool (rightP p)) ∧ Below w.heap.size w w' := by
  unfold maxLen at hm
  have H : Hid (Rd w w.heap.size 3 A n (gatesCells p)) := h
  have HL : Hid (p.length = n) := by have := h.1; rw [gatesCells_length] at this; show _ = _; omega
  clear h
  go_enter Try.func37, Try.ntmps37
  go_wp2
  go_loopg [3] n (fun gg s3 wr => ∃ kk : Nat, kk ≤ n ∧ n - kk ≤ gg ∧ s3 = .int .i64 kk ∧ Aside (Below w.heap.size w wr) ∧ Aside (∀ j, j < kk → cellOk (p.getD j default) = true ∧ (j = 0 ∨ beforeC (p.getD (j - 1) default) (p.getD j default) = true)))
  case atStart => exact ⟨0, Nat.zero_le _, by omega, rfl, Below.refl _ _, fun j hj => absurd hj (Nat.not_lt_zero _)⟩
  case round =>
    rename World => w1
    obtain ⟨kk, hkk, hg, rfl, BW, AA⟩ := hrel
    by_cases hlt : kk < n
    · have hltz : (kk : Int) < (n : Int) := by omega
      obtain ⟨ad, rfl, hb, g0, g1, g2⟩ := (H.out.up BW.out).gate hlt
      generalize hy : p.getD kk default = y at g0 g1 g2
      have HY : Hid (p.getD kk default = y) := hy
      clear hy
      have HB : Hid (Below w.heap.size w w1) := BW.out
      have hu : undef = Value.tuple #[] := rfl
      have HS : ∀ w', Below w1.heap.size w1 w' → w'.cell? (ad.add (kk * 3)) = some (.int .i64 y.op) ∧ w'.cell? ⟨(ad.add (kk * 3)).block, (ad.add (kk * 3)).off + 1, none⟩ = some (.int .i64 y.a) ∧ w'.cell? ⟨(ad.add (kk * 3)).block, (ad.add (kk * 3)).off + 2, none⟩ = some (.int .i64 y.b) := fun w' hw => ⟨(hw.cell (by rw [add_block]; exact hb)).trans g0, (hw.cell (p := ⟨(ad.add (kk * 3)).block, (ad.add (kk * 3)).off + 1, none⟩) (by show (ad.add (kk * 3)).block < _; rw [add_block]; exact hb)).trans g1, (hw.cell (p := ⟨(ad.add (kk * 3)).block, (ad.add (kk * 3)).off + 2, none⟩) (by show (ad.add (kk * 3)).block < _; rw [add_block]; exact hb)).trans g2⟩
      have HN : Hid (Below w1.heap.size w1 w1) := Below.refl _ _
      have hfalse : Hid (cellOk y = false → rightP p = false) := fun he => rightP_false_at p kk (by rw [HL.out]; exact hlt) (.inl (by rw [HY.out]; exact he))
      go_wp2_with fail
      cases hpl : placeOk y.op y.a
      · have HF : Hid (rightP p = false) := hfalse.out (by unfold cellOk; rw [hpl]; rfl)
        clear g0 g1 g2
        refine wp_region_held_drew (S := fun w' => w'.cell? (ad.add (kk * 3)) = some (.int .i64 y.op) ∧ w'.cell? ⟨(ad.add (kk * 3)).block, (ad.add (kk * 3)).off + 1, none⟩ = some (.int .i64 y.a) ∧ w'.cell? ⟨(ad.add (kk * 3)).block, (ad.add (kk * 3)).off + 2, none⟩ = some (.int .i64 y.b)) (by kernel_rfl) (by (try dsimp only); exact HS _ (by first | exact below_on2 HN.out (by go_grown) | go_grown)) (fun hHeld => ?_)
        refine wpAnyH_take (i := 0) (v := ?va0) rfl (by kernel_rfl) (by kernel_rfl) (by kernel_rfl) (fun _ _ _ h => h) (Or.inl ⟨by rfl, ?ya0⟩) (by assumption) ?ra0
        case ya0 => intro w' hSw; (try dsimp only at hSw); go_simp; try (with_reducible rfl)
        go_simp
        refine wpAnyH_take (i := 1) (v := ?va1) rfl (by kernel_rfl) (by kernel_rfl) (by kernel_rfl) (fun _ _ _ h => h) (Or.inl ⟨by rfl, ?ya1⟩) (by assumption) ?ra1
        case ya1 => intro w' hSw; (try dsimp only at hSw); go_simp; try (with_reducible rfl)
        go_simp
        refine wpAnyH_take (i := 2) (v := ?va2) rfl (by kernel_rfl) (by kernel_rfl) (by kernel_rfl) (fun _ _ _ h => h) (Or.inl ⟨by rfl, ?ya2⟩) (by assumption) ?ra2
        case ya2 => intro w' hSw; (try dsimp only at hSw); go_simp; try (with_reducible rfl)
        go_simp
        refine wpAnyH_take (i := 3) (v := ?va3) rfl (by kernel_rfl) (by kernel_rfl) (by kernel_rfl) (fun _ _ _ h => h) (Or.inl ⟨by rfl, ?ya3⟩) (by assumption) ?ra3
        case ya3 => intro w' hSw; (try dsimp only at hSw); go_simp; try (with_reducible rfl)
        go_simp
        refine wpAnyH_take (i := 4) (v := ?va4) rfl (by kernel_rfl) (by kernel_rfl) (by kernel_rfl) (fun _ _ _ h => h) (Or.inl ⟨by rfl, ?ya4⟩) (by assumption) ?ra4
        case ya4 => intro w' hSw; (try dsimp only at hSw); go_simp; try (with_reducible rfl)
        go_simp
        refine wpAnyH_take (i := 5) (v := ?va5) rfl (by kernel_rfl) (by kernel_rfl) (by kernel_rfl) (fun _ _ _ h => h) (Or.inl ⟨by rfl, ?ya5⟩) (by assumption) ?ra5
        case ya5 => intro w' hSw; (try dsimp only at hSw); go_simp; try (with_reducible rfl)
        go_simp
        refine wpAnyH_take (i := 6) (v := ?va6) rfl (by kernel_rfl) (by kernel_rfl) (by kernel_rfl) (fun _ _ _ h => h) (Or.inl ⟨by rfl, ?ya6⟩) (by assumption) ?ra6
        case ya6 => intro w' hSw; (try dsimp only at hSw); go_simp; try (with_reducible rfl)
        go_simp
        refine wpAnyH_take (i := 7) (v := ?va7) rfl (by kernel_rfl) (by kernel_rfl) (by kernel_rfl) (fun _ _ _ h => h) (Or.inl ⟨by rfl, ?ya7⟩) (by assumption) ?ra7
        case ya7 => intro w' hSw; (try dsimp only at hSw); go_simp; try (with_reducible rfl)
        go_simp
        refine wpAnyH_take (i := 8) (v := ?va8) rfl (by kernel_rfl) (by kernel_rfl) (by kernel_rfl) (fun _ _ _ h => h) (Or.inl ⟨by rfl, ?ya8⟩) (by assumption) ?ra8
        case ya8 => intro w' hSw; (try dsimp only at hSw); go_simp; try (with_reducible rfl)
        go_simp
        refine wpAnyH_take (i := 9) (v := ?va9) rfl (by kernel_rfl) (by kernel_rfl) (by kernel_rfl) (fun _ _ _ h => h) (Or.inl ⟨by rfl, ?ya9⟩) (by assumption) ?ra9
        case ya9 => intro w' hSw; (try dsimp only at hSw); go_simp; try (with_reducible rfl)
        go_simp
        refine wpAnyH_ready (rs := [10]) (by kernel_rfl) (by simp) ?_
        refine AllReadyH.cons rfl (fun K hK => ?_) AllReadyH.nil
        go_simp
        go_at_call 46
        refine (rPlace_any y.op y.a _).mono ?_
        rw [hpl]
        rintro e w7 ⟨rfl, rfl⟩
        refine hK.out _ _ ?_ (fun hHeld => ?_)
        · (try dsimp only); exact HS _ (by first | exact below_on2 HN.out (by go_grown) | go_grown)
        clear hK K
        try go_simp
        refine wpAnyH_take (i := 11) (v := ?va11) rfl (by kernel_rfl) (by kernel_rfl) (by kernel_rfl) (fun _ _ _ h => h) (Or.inl ⟨by rfl, ?ya11⟩) (by assumption) ?ra11
        case ya11 => intro w' hSw; (try dsimp only at hSw); go_simp; try (with_reducible rfl)
        go_simp
        refine wpAnyH_take (i := 12) (v := ?va12) rfl (by kernel_rfl) (by kernel_rfl) (by kernel_rfl) (fun _ _ _ h => h) (Or.inl ⟨by rfl, ?ya12⟩) (by assumption) ?ra12
        case ya12 => intro w' hSw; (try dsimp only at hSw); go_simp; try (with_reducible rfl)
        go_simp
        refine wpAnyH_take (i := 13) (v := undef) rfl (by kernel_rfl) (by kernel_rfl) (by kernel_rfl) (fun _ _ _ h => h) (Or.inr ⟨by go_simp, rfl⟩) (by assumption) ?_
        go_simp
        refine wpAnyH_take (i := 14) (v := undef) rfl (by kernel_rfl) (by kernel_rfl) (by kernel_rfl) (fun _ _ _ h => h) (Or.inr ⟨by go_simp, rfl⟩) (by assumption) ?_
        go_simp
        refine wpAnyH_take (i := 15) (v := undef) rfl (by kernel_rfl) (by kernel_rfl) (by kernel_rfl) (fun _ _ _ h => h) (Or.inr ⟨by go_simp, rfl⟩) (by assumption) ?_
        go_simp
        refine wpAnyH_take (i := 16) (v := undef) rfl (by kernel_rfl) (by kernel_rfl) (by kernel_rfl) (fun _ _ _ h => h) (Or.inr ⟨by go_simp, rfl⟩) (by assumption) ?_
        go_simp
        refine wpAnyH_take (i := 17) (v := undef) rfl (by kernel_rfl) (by kernel_rfl) (by kernel_rfl) (fun _ _ _ h => h) (Or.inr ⟨by go_simp, rfl⟩) (by assumption) ?_
        go_simp
        refine wpAnyH_take (i := 18) (v := undef) rfl (by kernel_rfl) (by kernel_rfl) (by kernel_rfl) (fun _ _ _ h => h) (Or.inr ⟨by go_simp, rfl⟩) (by assumption) ?_
        go_simp
        refine wpAnyH_take (i := 19) (v := ?va19) rfl (by kernel_rfl) (by kernel_rfl) (by kernel_rfl) (fun _ _ _ h => h) (Or.inl ⟨by rfl, ?ya19⟩) (by assumption) ?ra19
        case ya19 => intro w' hSw; (try dsimp only at hSw); go_simp; try (with_reducible rfl)
        go_simp
        refine wpAnyH_take (i := 20) (v := ?va20) rfl (by kernel_rfl) (by kernel_rfl) (by kernel_rfl) (fun _ _ _ h => h) (Or.inl ⟨by rfl, ?ya20⟩) (by assumption) ?ra20
        case ya20 => intro w' hSw; (try dsimp only at hSw); go_simp; try (with_reducible rfl)
        go_simp
        refine wpAnyH_take (i := 21) (v := undef) rfl (by kernel_rfl) (by kernel_rfl) (by kernel_rfl) (fun _ _ _ h => h) (Or.inr ⟨by go_simp, rfl⟩) (by assumption) ?_
        go_simp
        refine wpAnyH_take (i := 22) (v := undef) rfl (by kernel_rfl) (by kernel_rfl) (by kernel_rfl) (fun _ _ _ h => h) (Or.inr ⟨by go_simp, rfl⟩) (by assumption) ?_
        go_simp
        refine wpAnyH_take (i := 23) (v := undef) rfl (by kernel_rfl) (by kernel_rfl) (by kernel_rfl) (fun _ _ _ h => h) (Or.inr ⟨by go_simp, rfl⟩) (by assumption) ?_
        go_simp
        refine wpAnyH_take (i := 24) (v := undef) rfl (by kernel_rfl) (by kernel_rfl) (by kernel_rfl) (fun _ _ _ h => h) (Or.inr ⟨by go_simp, rfl⟩) (by assumption) ?_
        go_simp
        refine wpAnyH_take (i := 25) (v := undef) rfl (by kernel_rfl) (by kernel_rfl) (by kernel_rfl) (fun _ _ _ h => h) (Or.inr ⟨by go_simp, rfl⟩) (by assumption) ?_
        go_simp
        refine wpAnyH_take (i := 26) (v := undef) rfl (by kernel_rfl) (by kernel_rfl) (by kernel_rfl) (fun _ _ _ h => h) (Or.inr ⟨by go_simp, rfl⟩) (by assumption) ?_
        go_simp
        refine wpAnyH_take (i := 27) (v := ?va27) rfl (by kernel_rfl) (by kernel_rfl) (by kernel_rfl) (fun _ _ _ h => h) (Or.inl ⟨by rfl, ?ya27⟩) (by assumption) ?ra27
        case ya27 => intro w' hSw; (try dsimp only at hSw); go_simp; try (with_reducible rfl)
        go_simp
        refine wpAnyH_take (i := 28) (v := ?va28) rfl (by kernel_rfl) (by kernel_rfl) (by kernel_rfl) (fun _ _ _ h => h) (Or.inl ⟨by rfl, ?ya28⟩) (by assumption) ?ra28
        case ya28 => intro w' hSw; (try dsimp only at hSw); go_simp; try (with_reducible rfl)
        go_simp
        refine wpAnyH_take (i := 29) (v := undef) rfl (by kernel_rfl) (by kernel_rfl) (by kernel_rfl) (fun _ _ _ h => h) (Or.inr ⟨by go_simp, rfl⟩) (by assumption) ?_
        go_simp
        refine wpAnyH_take (i := 30) (v := undef) rfl (by kernel_rfl) (by kernel_rfl) (by kernel_rfl) (fun _ _ _ h => h) (Or.inr ⟨by go_simp, rfl⟩) (by assumption) ?_
        go_simp
        refine wpAnyH_take (i := 31) (v := undef) rfl (by kernel_rfl) (by kernel_rfl) (by kernel_rfl) (fun _ _ _ h => h) (Or.inr ⟨by go_simp, rfl⟩) (by assumption) ?_
        go_simp
        refine wpAnyH_take (i := 32) (v := undef) rfl (by kernel_rfl) (by kernel_rfl) (by kernel_rfl) (fun _ _ _ h => h) (Or.inr ⟨by go_simp, rfl⟩) (by assumption) ?_
        go_simp
        refine wpAnyH_take (i := 33) (v := undef) rfl (by kernel_rfl) (by kernel_rfl) (by kernel_rfl) (fun _ _ _ h => h) (Or.inr ⟨by go_simp, rfl⟩) (by assumption) ?_
        go_simp
        refine wpAnyH_take (i := 34) (v := undef) rfl (by kernel_rfl) (by kernel_rfl) (by kernel_rfl) (fun _ _ _ h => h) (Or.inr ⟨by go_simp, rfl⟩) (by assumption) ?_
        go_simp
        refine wpAnyH_take (i := 35) (v := undef) rfl (by kernel_rfl) (by kernel_rfl) (by kernel_rfl) (fun _ _ _ h => h) (Or.inr ⟨by go_simp, rfl⟩) (by assumption) ?_
        go_simp
        refine wpAnyH_take (i := 36) (v := undef) rfl (by kernel_rfl) (by kernel_rfl) (by kernel_rfl) (fun _ _ _ h => h) (Or.inr ⟨by go_simp, rfl⟩) (by assumption) ?_
        go_simp
        refine wpAnyH_take (i := 37) (v := undef) rfl (by kernel_rfl) (by kernel_rfl) (by kernel_rfl) (fun _ _ _ h => h) (Or.inr ⟨by go_simp, rfl⟩) (by assumption) ?_
        go_simp
        refine wpAnyH_take (i := 38) (v := undef) rfl (by kernel_rfl) (by kernel_rfl) (by kernel_rfl) (fun _ _ _ h => h) (Or.inr ⟨by go_simp, rfl⟩) (by assumption) ?_
        go_simp
        refine wpAnyH_take (i := 39) (v := undef) rfl (by kernel_rfl) (by kernel_rfl) (by kernel_rfl) (fun _ _ _ h => h) (Or.inr ⟨by go_simp, rfl⟩) (by assumption) ?_
        go_simp
        refine wpAnyH_take (i := 40) (v := undef) rfl (by kernel_rfl) (by kernel_rfl) (by kernel_rfl) (fun _ _ _ h => h) (Or.inr ⟨by go_simp, rfl⟩) (by assumption) ?_
        go_simp
        refine wpAnyH_take (i := 41) (v := undef) rfl (by kernel_rfl) (by kernel_rfl) (by kernel_rfl) (fun _ _ _ h => h) (Or.inr ⟨by go_simp, rfl⟩) (by assumption) ?_
        go_simp
        refine wpAnyH_take (i := 42) (v := undef) rfl (by kernel_rfl) (by kernel_rfl) (by kernel_rfl) (fun _ _ _ h => h) (Or.inr ⟨by go_simp, rfl⟩) (by assumption) ?_
        go_simp
        refine wpAnyH_take (i := 43) (v := undef) rfl (by kernel_rfl) (by kernel_rfl) (by kernel_rfl) (fun _ _ _ h => h) (Or.inr ⟨by go_simp, rfl⟩) (by assumption) ?_
        go_simp
        refine wpAnyH_take (i := 44) (v := ?va44) rfl (by kernel_rfl) (by kernel_rfl) (by kernel_rfl) (fun _ _ _ h => h) (Or.inl ⟨by rfl, ?ya44⟩) (by assumption) ?ra44
        case ya44 => intro w' hSw; (try dsimp only at hSw); go_simp; try (with_reducible rfl)
        go_simp
        refine wpAnyH_done (by kernel_rfl) ?_ _
        go_wp2
        go_ret
        exact ⟨ret_bool HF.out.symm, below_on HB.out HN.out (by go_grown)⟩
      by_cases hs1 : y.b < 1
      · have HF : Hid (rightP p = false) := hfalse.out (by unfold cellOk; rw [hpl]; simp; omega)
        have hd1 : decide (y.b < 1) = true := by simpa using hs1
        clear g0 g1 g2
        refine wp_region_held_drew (S := fun w' => w'.cell? (ad.add (kk * 3)) = some (.int .i64 y.op) ∧ w'.cell? ⟨(ad.add (kk * 3)).block, (ad.add (kk * 3)).off + 1, none⟩ = some (.int .i64 y.a) ∧ w'.cell? ⟨(ad.add (kk * 3)).block, (ad.add (kk * 3)).off + 2, none⟩ = some (.int .i64 y.b)) (by kernel_rfl) (by (try dsimp only); exact HS _ (by first | exact below_on2 HN.out (by go_grown) | go_grown)) (fun hHeld => ?_)
        refine wpAnyH_take (i := 0) (v := ?vb0) rfl (by kernel_rfl) (by kernel_rfl) (by kernel_rfl) (fun _ _ _ h => h) (Or.inl ⟨by rfl, ?yb0⟩) (by assumption) ?rb0
        case yb0 => intro w' hSw; (try dsimp only at hSw); go_simp; try (with_reducible rfl)
        go_simp
        refine wpAnyH_take (i := 1) (v := ?vb1) rfl (by kernel_rfl) (by kernel_rfl) (by kernel_rfl) (fun _ _ _ h => h) (Or.inl ⟨by rfl, ?yb1⟩) (by assumption) ?rb1
        case yb1 => intro w' hSw; (try dsimp only at hSw); go_simp; try (with_reducible rfl)
        go_simp
        refine wpAnyH_take (i := 2) (v := ?vb2) rfl (by kernel_rfl) (by kernel_rfl) (by kernel_rfl) (fun _ _ _ h => h) (Or.inl ⟨by rfl, ?yb2⟩) (by assumption) ?rb2
        case yb2 => intro w' hSw; (try dsimp only at hSw); go_simp; try (with_reducible rfl)
        go_simp
        refine wpAnyH_take (i := 3) (v := ?vb3) rfl (by kernel_rfl) (by kernel_rfl) (by kernel_rfl) (fun _ _ _ h => h) (Or.inl ⟨by rfl, ?yb3⟩) (by assumption) ?rb3
        case yb3 => intro w' hSw; (try dsimp only at hSw); go_simp; try (with_reducible rfl)
        go_simp
        refine wpAnyH_take (i := 4) (v := ?vb4) rfl (by kernel_rfl) (by kernel_rfl) (by kernel_rfl) (fun _ _ _ h => h) (Or.inl ⟨by rfl, ?yb4⟩) (by assumption) ?rb4
        case yb4 => intro w' hSw; (try dsimp only at hSw); go_simp; try (with_reducible rfl)
        go_simp
        refine wpAnyH_take (i := 5) (v := ?vb5) rfl (by kernel_rfl) (by kernel_rfl) (by kernel_rfl) (fun _ _ _ h => h) (Or.inl ⟨by rfl, ?yb5⟩) (by assumption) ?rb5
        case yb5 => intro w' hSw; (try dsimp only at hSw); go_simp; try (with_reducible rfl)
        go_simp
        refine wpAnyH_take (i := 6) (v := ?vb6) rfl (by kernel_rfl) (by kernel_rfl) (by kernel_rfl) (fun _ _ _ h => h) (Or.inl ⟨by rfl, ?yb6⟩) (by assumption) ?rb6
        case yb6 => intro w' hSw; (try dsimp only at hSw); go_simp; try (with_reducible rfl)
        go_simp
        refine wpAnyH_take (i := 7) (v := ?vb7) rfl (by kernel_rfl) (by kernel_rfl) (by kernel_rfl) (fun _ _ _ h => h) (Or.inl ⟨by rfl, ?yb7⟩) (by assumption) ?rb7
        case yb7 => intro w' hSw; (try dsimp only at hSw); go_simp; try (with_reducible rfl)
        go_simp
        refine wpAnyH_take (i := 8) (v := ?vb8) rfl (by kernel_rfl) (by kernel_rfl) (by kernel_rfl) (fun _ _ _ h => h) (Or.inl ⟨by rfl, ?yb8⟩) (by assumption) ?rb8
        case yb8 => intro w' hSw; (try dsimp only at hSw); go_simp; try (with_reducible rfl)
        go_simp
        refine wpAnyH_take (i := 9) (v := ?vb9) rfl (by kernel_rfl) (by kernel_rfl) (by kernel_rfl) (fun _ _ _ h => h) (Or.inl ⟨by rfl, ?yb9⟩) (by assumption) ?rb9
        case yb9 => intro w' hSw; (try dsimp only at hSw); go_simp; try (with_reducible rfl)
        go_simp
        refine wpAnyH_ready (rs := [10]) (by kernel_rfl) (by simp) ?_
        refine AllReadyH.cons rfl (fun K hK => ?_) AllReadyH.nil
        go_simp
        go_at_call 46
        refine (rPlace_any y.op y.a _).mono ?_
        rw [hpl]
        rintro e w7 ⟨rfl, rfl⟩
        refine hK.out _ _ ?_ (fun hHeld => ?_)
        · (try dsimp only); exact HS _ (by first | exact below_on2 HN.out (by go_grown) | go_grown)
        clear hK K
        try go_simp
        refine wpAnyH_take (i := 11) (v := ?vb11) rfl (by kernel_rfl) (by kernel_rfl) (by kernel_rfl) (fun _ _ _ h => h) (Or.inl ⟨by rfl, ?yb11⟩) (by assumption) ?rb11
        case yb11 => intro w' hSw; (try dsimp only at hSw); go_simp; try (with_reducible rfl)
        go_simp
        refine wpAnyH_take (i := 12) (v := ?vb12) rfl (by kernel_rfl) (by kernel_rfl) (by kernel_rfl) (fun _ _ _ h => h) (Or.inl ⟨by rfl, ?yb12⟩) (by assumption) ?rb12
        case yb12 => intro w' hSw; (try dsimp only at hSw); go_simp; try (with_reducible rfl)
        go_simp
        refine wpAnyH_take (i := 13) (v := ?vb13) rfl (by kernel_rfl) (by kernel_rfl) (by kernel_rfl) (fun _ _ _ h => h) (Or.inl ⟨by first | rfl | (go_simp; done), ?yb13⟩) (by assumption) ?rb13
        case yb13 => intro w' hSw; (try dsimp only at hSw); go_simp; try (with_reducible rfl)
        go_simp
        refine wpAnyH_take (i := 14) (v := ?vb14) rfl (by kernel_rfl) (by kernel_rfl) (by kernel_rfl) (fun _ _ _ h => h) (Or.inl ⟨by first | rfl | (go_simp; done), ?yb14⟩) (by assumption) ?rb14
        case yb14 => intro w' hSw; (try dsimp only at hSw); go_simp; try (with_reducible rfl)
        go_simp
        refine wpAnyH_take (i := 15) (v := ?vb15) rfl (by kernel_rfl) (by kernel_rfl) (by kernel_rfl) (fun _ _ _ h => h) (Or.inl ⟨by first | rfl | (go_simp; done), ?yb15⟩) (by assumption) ?rb15
        case yb15 => intro w' hSw; (try dsimp only at hSw); go_simp; try (with_reducible rfl)
        go_simp
        refine wpAnyH_take (i := 16) (v := ?vb16) rfl (by kernel_rfl) (by kernel_rfl) (by kernel_rfl) (fun _ _ _ h => h) (Or.inl ⟨by first | rfl | (go_simp; done), ?yb16⟩) (by assumption) ?rb16
        case yb16 => intro w' hSw; (try dsimp only at hSw); go_simp; try (with_reducible rfl)
        go_simp
        refine wpAnyH_take (i := 17) (v := ?vb17) rfl (by kernel_rfl) (by kernel_rfl) (by kernel_rfl) (fun _ _ _ h => h) (Or.inl ⟨by first | rfl | (go_simp; done), ?yb17⟩) (by assumption) ?rb17
        case yb17 => intro w' hSw; (try dsimp only at hSw); go_simp; try (with_reducible rfl)
        go_simp
        refine wpAnyH_take (i := 18) (v := ?vb18) rfl (by kernel_rfl) (by kernel_rfl) (by kernel_rfl) (fun _ _ _ h => h) (Or.inl ⟨by first | rfl | (go_simp; done), ?yb18⟩) (by assumption) ?rb18
        case yb18 => intro w' hSw; (try dsimp only at hSw); go_simp; try (with_reducible rfl)
        go_simp
        refine wpAnyH_take (i := 19) (v := ?vb19) rfl (by kernel_rfl) (by kernel_rfl) (by kernel_rfl) (fun _ _ _ h => h) (Or.inl ⟨by rfl, ?yb19⟩) (by assumption) ?rb19
        case yb19 => intro w' hSw; (try dsimp only at hSw); go_simp; try (with_reducible rfl)
        go_simp
        refine wpAnyH_take (i := 20) (v := ?vb20) rfl (by kernel_rfl) (by kernel_rfl) (by kernel_rfl) (fun _ _ _ h => h) (Or.inl ⟨by rfl, ?yb20⟩) (by assumption) ?rb20
        case yb20 => intro w' hSw; (try dsimp only at hSw); go_simp; try (with_reducible rfl)
        go_simp
        refine wpAnyH_take (i := 21) (v := undef) rfl (by kernel_rfl) (by kernel_rfl) (by kernel_rfl) (fun _ _ _ h => h) (Or.inr ⟨by go_simp, rfl⟩) (by assumption) ?_
        go_simp
        refine wpAnyH_take (i := 22) (v := undef) rfl (by kernel_rfl) (by kernel_rfl) (by kernel_rfl) (fun _ _ _ h => h) (Or.inr ⟨by go_simp, rfl⟩) (by assumption) ?_
        go_simp
        refine wpAnyH_take (i := 23) (v := undef) rfl (by kernel_rfl) (by kernel_rfl) (by kernel_rfl) (fun _ _ _ h => h) (Or.inr ⟨by go_simp, rfl⟩) (by assumption) ?_
        go_simp
        refine wpAnyH_take (i := 24) (v := undef) rfl (by kernel_rfl) (by kernel_rfl) (by kernel_rfl) (fun _ _ _ h => h) (Or.inr ⟨by go_simp, rfl⟩) (by assumption) ?_
        go_simp
        refine wpAnyH_take (i := 25) (v := undef) rfl (by kernel_rfl) (by kernel_rfl) (by kernel_rfl) (fun _ _ _ h => h) (Or.inr ⟨by go_simp, rfl⟩) (by assumption) ?_
        go_simp
        refine wpAnyH_take (i := 26) (v := undef) rfl (by kernel_rfl) (by kernel_rfl) (by kernel_rfl) (fun _ _ _ h => h) (Or.inr ⟨by go_simp, rfl⟩) (by assumption) ?_
        go_simp
        refine wpAnyH_take (i := 27) (v := ?vb27) rfl (by kernel_rfl) (by kernel_rfl) (by kernel_rfl) (fun _ _ _ h => h) (Or.inl ⟨by rfl, ?yb27⟩) (by assumption) ?rb27
        case yb27 => intro w' hSw; (try dsimp only at hSw); go_simp; try (with_reducible rfl)
        go_simp
        refine wpAnyH_take (i := 28) (v := ?vb28) rfl (by kernel_rfl) (by kernel_rfl) (by kernel_rfl) (fun _ _ _ h => h) (Or.inl ⟨by rfl, ?yb28⟩) (by assumption) ?rb28
        case yb28 => intro w' hSw; (try dsimp only at hSw); go_simp; try (with_reducible rfl)
        go_simp
        refine wpAnyH_take (i := 29) (v := undef) rfl (by kernel_rfl) (by kernel_rfl) (by kernel_rfl) (fun _ _ _ h => h) (Or.inr ⟨by go_simp, rfl⟩) (by assumption) ?_
        go_simp
        refine wpAnyH_take (i := 30) (v := undef) rfl (by kernel_rfl) (by kernel_rfl) (by kernel_rfl) (fun _ _ _ h => h) (Or.inr ⟨by go_simp, rfl⟩) (by assumption) ?_
        go_simp
        refine wpAnyH_take (i := 31) (v := undef) rfl (by kernel_rfl) (by kernel_rfl) (by kernel_rfl) (fun _ _ _ h => h) (Or.inr ⟨by go_simp, rfl⟩) (by assumption) ?_
        go_simp
        refine wpAnyH_take (i := 32) (v := undef) rfl (by kernel_rfl) (by kernel_rfl) (by kernel_rfl) (fun _ _ _ h => h) (Or.inr ⟨by go_simp, rfl⟩) (by assumption) ?_
        go_simp
        refine wpAnyH_take (i := 33) (v := undef) rfl (by kernel_rfl) (by kernel_rfl) (by kernel_rfl) (fun _ _ _ h => h) (Or.inr ⟨by go_simp, rfl⟩) (by assumption) ?_
        go_simp
        refine wpAnyH_take (i := 34) (v := undef) rfl (by kernel_rfl) (by kernel_rfl) (by kernel_rfl) (fun _ _ _ h => h) (Or.inr ⟨by go_simp, rfl⟩) (by assumption) ?_
        go_simp
        refine wpAnyH_take (i := 35) (v := undef) rfl (by kernel_rfl) (by kernel_rfl) (by kernel_rfl) (fun _ _ _ h => h) (Or.inr ⟨by go_simp, rfl⟩) (by assumption) ?_
        go_simp
        refine wpAnyH_take (i := 36) (v := undef) rfl (by kernel_rfl) (by kernel_rfl) (by kernel_rfl) (fun _ _ _ h => h) (Or.inr ⟨by go_simp, rfl⟩) (by assumption) ?_
        go_simp
        refine wpAnyH_take (i := 37) (v := undef) rfl (by kernel_rfl) (by kernel_rfl) (by kernel_rfl) (fun _ _ _ h => h) (Or.inr ⟨by go_simp, rfl⟩) (by assumption) ?_
        go_simp
        refine wpAnyH_take (i := 38) (v := undef) rfl (by kernel_rfl) (by kernel_rfl) (by kernel_rfl) (fun _ _ _ h => h) (Or.inr ⟨by go_simp, rfl⟩) (by assumption) ?_
        go_simp
        refine wpAnyH_take (i := 39) (v := undef) rfl (by kernel_rfl) (by kernel_rfl) (by kernel_rfl) (fun _ _ _ h => h) (Or.inr ⟨by go_simp, rfl⟩) (by assumption) ?_
        go_simp
        refine wpAnyH_take (i := 40) (v := undef) rfl (by kernel_rfl) (by kernel_rfl) (by kernel_rfl) (fun _ _ _ h => h) (Or.inr ⟨by go_simp, rfl⟩) (by assumption) ?_
        go_simp
        refine wpAnyH_take (i := 41) (v := undef) rfl (by kernel_rfl) (by kernel_rfl) (by kernel_rfl) (fun _ _ _ h => h) (Or.inr ⟨by go_simp, rfl⟩) (by assumption) ?_
        go_simp
        refine wpAnyH_take (i := 42) (v := undef) rfl (by kernel_rfl) (by kernel_rfl) (by kernel_rfl) (fun _ _ _ h => h) (Or.inr ⟨by go_simp, rfl⟩) (by assumption) ?_
        go_simp
        refine wpAnyH_take (i := 43) (v := undef) rfl (by kernel_rfl) (by kernel_rfl) (by kernel_rfl) (fun _ _ _ h => h) (Or.inr ⟨by go_simp, rfl⟩) (by assumption) ?_
        go_simp
        refine wpAnyH_take (i := 44) (v := ?vb44) rfl (by kernel_rfl) (by kernel_rfl) (by kernel_rfl) (fun _ _ _ h => h) (Or.inl ⟨by rfl, ?yb44⟩) (by assumption) ?rb44
        case yb44 => intro w' hSw; (try dsimp only at hSw); go_simp; try (with_reducible rfl)
        go_simp
        refine wpAnyH_done (by kernel_rfl) ?_ _
        go_wp2
        go_ret
        exact ⟨ret_bool HF.out.symm, below_on HB.out HN.out (by go_grown)⟩
      have hd1 : decide (y.b < 1) = false := by simpa using hs1
      by_cases hs2 : 8 ≤ y.b
      · have HF : Hid (rightP p = false) := hfalse.out (by unfold cellOk; rw [hpl]; simp; omega)
        have hd2 : decide (8 ≤ y.b) = true := by simpa using hs2
        clear g0 g1 g2
        refine wp_region_held_drew (S := fun w' => w'.cell? (ad.add (kk * 3)) = some (.int .i64 y.op) ∧ w'.cell? ⟨(ad.add (kk * 3)).block, (ad.add (kk * 3)).off + 1, none⟩ = some (.int .i64 y.a) ∧ w'.cell? ⟨(ad.add (kk * 3)).block, (ad.add (kk * 3)).off + 2, none⟩ = some (.int .i64 y.b)) (by kernel_rfl) (by (try dsimp only); exact HS _ (by first | exact below_on2 HN.out (by go_grown) | go_grown)) (fun hHeld => ?_)
        refine wpAnyH_take (i := 0) (v := ?vc0) rfl (by kernel_rfl) (by kernel_rfl) (by kernel_rfl) (fun _ _ _ h => h) (Or.inl ⟨by rfl, ?yc0⟩) (by assumption) ?rc0
        case yc0 => intro w' hSw; (try dsimp only at hSw); go_simp; try (with_reducible rfl)
        go_simp
        refine wpAnyH_take (i := 1) (v := ?vc1) rfl (by kernel_rfl) (by kernel_rfl) (by kernel_rfl) (fun _ _ _ h => h) (Or.inl ⟨by rfl, ?yc1⟩) (by assumption) ?rc1
        case yc1 => intro w' hSw; (try dsimp only at hSw); go_simp; try (with_reducible rfl)
        go_simp
        refine wpAnyH_take (i := 2) (v := ?vc2) rfl (by kernel_rfl) (by kernel_rfl) (by kernel_rfl) (fun _ _ _ h => h) (Or.inl ⟨by rfl, ?yc2⟩) (by assumption) ?rc2
        case yc2 => intro w' hSw; (try dsimp only at hSw); go_simp; try (with_reducible rfl)
        go_simp
        refine wpAnyH_take (i := 3) (v := ?vc3) rfl (by kernel_rfl) (by kernel_rfl) (by kernel_rfl) (fun _ _ _ h => h) (Or.inl ⟨by rfl, ?yc3⟩) (by assumption) ?rc3
        case yc3 => intro w' hSw; (try dsimp only at hSw); go_simp; try (with_reducible rfl)
        go_simp
        refine wpAnyH_take (i := 4) (v := ?vc4) rfl (by kernel_rfl) (by kernel_rfl) (by kernel_rfl) (fun _ _ _ h => h) (Or.inl ⟨by rfl, ?yc4⟩) (by assumption) ?rc4
        case yc4 => intro w' hSw; (try dsimp only at hSw); go_simp; try (with_reducible rfl)
        go_simp
        refine wpAnyH_take (i := 5) (v := ?vc5) rfl (by kernel_rfl) (by kernel_rfl) (by kernel_rfl) (fun _ _ _ h => h) (Or.inl ⟨by rfl, ?yc5⟩) (by assumption) ?rc5
        case yc5 => intro w' hSw; (try dsimp only at hSw); go_simp; try (with_reducible rfl)
        go_simp
        refine wpAnyH_take (i := 6) (v := ?vc6) rfl (by kernel_rfl) (by kernel_rfl) (by kernel_rfl) (fun _ _ _ h => h) (Or.inl ⟨by rfl, ?yc6⟩) (by assumption) ?rc6
        case yc6 => intro w' hSw; (try dsimp only at hSw); go_simp; try (with_reducible rfl)
        go_simp
        refine wpAnyH_take (i := 7) (v := ?vc7) rfl (by kernel_rfl) (by kernel_rfl) (by kernel_rfl) (fun _ _ _ h => h) (Or.inl ⟨by rfl, ?yc7⟩) (by assumption) ?rc7
        case yc7 => intro w' hSw; (try dsimp only at hSw); go_simp; try (with_reducible rfl)
        go_simp
        refine wpAnyH_take (i := 8) (v := ?vc8) rfl (by kernel_rfl) (by kernel_rfl) (by kernel_rfl) (fun _ _ _ h => h) (Or.inl ⟨by rfl, ?yc8⟩) (by assumption) ?rc8
        case yc8 => intro w' hSw; (try dsimp only at hSw); go_simp; try (with_reducible rfl)
        go_simp
        refine wpAnyH_take (i := 9) (v := ?vc9) rfl (by kernel_rfl) (by kernel_rfl) (by kernel_rfl) (fun _ _ _ h => h) (Or.inl ⟨by rfl, ?yc9⟩) (by assumption) ?rc9
        case yc9 => intro w' hSw; (try dsimp only at hSw); go_simp; try (with_reducible rfl)
        go_simp
        refine wpAnyH_ready (rs := [10]) (by kernel_rfl) (by simp) ?_
        refine AllReadyH.cons rfl (fun K hK => ?_) AllReadyH.nil
        go_simp
        go_at_call 46
        refine (rPlace_any y.op y.a _).mono ?_
        rw [hpl]
        rintro e w7 ⟨rfl, rfl⟩
        refine hK.out _ _ ?_ (fun hHeld => ?_)
        · (try dsimp only); exact HS _ (by first | exact below_on2 HN.out (by go_grown) | go_grown)
        clear hK K
        try go_simp
        refine wpAnyH_take (i := 11) (v := ?vc11) rfl (by kernel_rfl) (by kernel_rfl) (by kernel_rfl) (fun _ _ _ h => h) (Or.inl ⟨by rfl, ?yc11⟩) (by assumption) ?rc11
        case yc11 => intro w' hSw; (try dsimp only at hSw); go_simp; try (with_reducible rfl)
        go_simp
        refine wpAnyH_take (i := 12) (v := ?vc12) rfl (by kernel_rfl) (by kernel_rfl) (by kernel_rfl) (fun _ _ _ h => h) (Or.inl ⟨by rfl, ?yc12⟩) (by assumption) ?rc12
        case yc12 => intro w' hSw; (try dsimp only at hSw); go_simp; try (with_reducible rfl)
        go_simp
        refine wpAnyH_take (i := 13) (v := ?vc13) rfl (by kernel_rfl) (by kernel_rfl) (by kernel_rfl) (fun _ _ _ h => h) (Or.inl ⟨by first | rfl | (go_simp; done), ?yc13⟩) (by assumption) ?rc13
        case yc13 => intro w' hSw; (try dsimp only at hSw); go_simp; try (with_reducible rfl)
        go_simp
        refine wpAnyH_take (i := 14) (v := ?vc14) rfl (by kernel_rfl) (by kernel_rfl) (by kernel_rfl) (fun _ _ _ h => h) (Or.inl ⟨by first | rfl | (go_simp; done), ?yc14⟩) (by assumption) ?rc14
        case yc14 => intro w' hSw; (try dsimp only at hSw); go_simp; try (with_reducible rfl)
        go_simp
        refine wpAnyH_take (i := 15) (v := ?vc15) rfl (by kernel_rfl) (by kernel_rfl) (by kernel_rfl) (fun _ _ _ h => h) (Or.inl ⟨by first | rfl | (go_simp; done), ?yc15⟩) (by assumption) ?rc15
        case yc15 => intro w' hSw; (try dsimp only at hSw); go_simp; try (with_reducible rfl)
        go_simp
        refine wpAnyH_take (i := 16) (v := ?vc16) rfl (by kernel_rfl) (by kernel_rfl) (by kernel_rfl) (fun _ _ _ h => h) (Or.inl ⟨by first | rfl | (go_simp; done), ?yc16⟩) (by assumption) ?rc16
        case yc16 => intro w' hSw; (try dsimp only at hSw); go_simp; try (with_reducible rfl)
        go_simp
        refine wpAnyH_take (i := 17) (v := ?vc17) rfl (by kernel_rfl) (by kernel_rfl) (by kernel_rfl) (fun _ _ _ h => h) (Or.inl ⟨by first | rfl | (go_simp; done), ?yc17⟩) (by assumption) ?rc17
        case yc17 => intro w' hSw; (try dsimp only at hSw); go_simp; try (with_reducible rfl)
        go_simp
        refine wpAnyH_take (i := 18) (v := ?vc18) rfl (by kernel_rfl) (by kernel_rfl) (by kernel_rfl) (fun _ _ _ h => h) (Or.inl ⟨by first | rfl | (go_simp; done), ?yc18⟩) (by assumption) ?rc18
        case yc18 => intro w' hSw; (try dsimp only at hSw); go_simp; try (with_reducible rfl)
        go_simp
        refine wpAnyH_take (i := 19) (v := ?vc19) rfl (by kernel_rfl) (by kernel_rfl) (by kernel_rfl) (fun _ _ _ h => h) (Or.inl ⟨by rfl, ?yc19⟩) (by assumption) ?rc19
        case yc19 => intro w' hSw; (try dsimp only at hSw); go_simp; try (with_reducible rfl)
        go_simp
        refine wpAnyH_take (i := 20) (v := ?vc20) rfl (by kernel_rfl) (by kernel_rfl) (by kernel_rfl) (fun _ _ _ h => h) (Or.inl ⟨by rfl, ?yc20⟩) (by assumption) ?rc20
        case yc20 => intro w' hSw; (try dsimp only at hSw); go_simp; try (with_reducible rfl)
        go_simp
        refine wpAnyH_take (i := 21) (v := ?vc21) rfl (by kernel_rfl) (by kernel_rfl) (by kernel_rfl) (fun _ _ _ h => h) (Or.inl ⟨by first | rfl | (go_simp; done), ?yc21⟩) (by assumption) ?rc21
        case yc21 => intro w' hSw; (try dsimp only at hSw); go_simp; try (with_reducible rfl)
        go_simp
        refine wpAnyH_take (i := 22) (v := ?vc22) rfl (by kernel_rfl) (by kernel_rfl) (by kernel_rfl) (fun _ _ _ h => h) (Or.inl ⟨by first | rfl | (go_simp; done), ?yc22⟩) (by assumption) ?rc22
        case yc22 => intro w' hSw; (try dsimp only at hSw); go_simp; try (with_reducible rfl)
        go_simp
        refine wpAnyH_take (i := 23) (v := ?vc23) rfl (by kernel_rfl) (by kernel_rfl) (by kernel_rfl) (fun _ _ _ h => h) (Or.inl ⟨by first | rfl | (go_simp; done), ?yc23⟩) (by assumption) ?rc23
        case yc23 => intro w' hSw; (try dsimp only at hSw); go_simp; try (with_reducible rfl)
        go_simp
        refine wpAnyH_take (i := 24) (v := ?vc24) rfl (by kernel_rfl) (by kernel_rfl) (by kernel_rfl) (fun _ _ _ h => h) (Or.inl ⟨by first | rfl | (go_simp; done), ?yc24⟩) (by assumption) ?rc24
        case yc24 => intro w' hSw; (try dsimp only at hSw); go_simp; try (with_reducible rfl)
        go_simp
        refine wpAnyH_take (i := 25) (v := ?vc25) rfl (by kernel_rfl) (by kernel_rfl) (by kernel_rfl) (fun _ _ _ h => h) (Or.inl ⟨by first | rfl | (go_simp; done), ?yc25⟩) (by assumption) ?rc25
        case yc25 => intro w' hSw; (try dsimp only at hSw); go_simp; try (with_reducible rfl)
        go_simp
        refine wpAnyH_take (i := 26) (v := ?vc26) rfl (by kernel_rfl) (by kernel_rfl) (by kernel_rfl) (fun _ _ _ h => h) (Or.inl ⟨by first | rfl | (go_simp; done), ?yc26⟩) (by assumption) ?rc26
        case yc26 => intro w' hSw; (try dsimp only at hSw); go_simp; try (with_reducible rfl)
        go_simp
        refine wpAnyH_take (i := 27) (v := ?vc27) rfl (by kernel_rfl) (by kernel_rfl) (by kernel_rfl) (fun _ _ _ h => h) (Or.inl ⟨by rfl, ?yc27⟩) (by assumption) ?rc27
        case yc27 => intro w' hSw; (try dsimp only at hSw); go_simp; try (with_reducible rfl)
        go_simp
        refine wpAnyH_take (i := 28) (v := ?vc28) rfl (by kernel_rfl) (by kernel_rfl) (by kernel_rfl) (fun _ _ _ h => h) (Or.inl ⟨by rfl, ?yc28⟩) (by assumption) ?rc28
        case yc28 => intro w' hSw; (try dsimp only at hSw); go_simp; try (with_reducible rfl)
        go_simp
        refine wpAnyH_take (i := 29) (v := undef) rfl (by kernel_rfl) (by kernel_rfl) (by kernel_rfl) (fun _ _ _ h => h) (Or.inr ⟨by go_simp, rfl⟩) (by assumption) ?_
        go_simp
        refine wpAnyH_take (i := 30) (v := undef) rfl (by kernel_rfl) (by kernel_rfl) (by kernel_rfl) (fun _ _ _ h => h) (Or.inr ⟨by go_simp, rfl⟩) (by assumption) ?_
        go_simp
        refine wpAnyH_take (i := 31) (v := undef) rfl (by kernel_rfl) (by kernel_rfl) (by kernel_rfl) (fun _ _ _ h => h) (Or.inr ⟨by go_simp, rfl⟩) (by assumption) ?_
        go_simp
        refine wpAnyH_take (i := 32) (v := undef) rfl (by kernel_rfl) (by kernel_rfl) (by kernel_rfl) (fun _ _ _ h => h) (Or.inr ⟨by go_simp, rfl⟩) (by assumption) ?_
        go_simp
        refine wpAnyH_take (i := 33) (v := undef) rfl (by kernel_rfl) (by kernel_rfl) (by kernel_rfl) (fun _ _ _ h => h) (Or.inr ⟨by go_simp, rfl⟩) (by assumption) ?_
        go_simp
        refine wpAnyH_take (i := 34) (v := undef) rfl (by kernel_rfl) (by kernel_rfl) (by kernel_rfl) (fun _ _ _ h => h) (Or.inr ⟨by go_simp, rfl⟩) (by assumption) ?_
        go_simp
        refine wpAnyH_take (i := 35) (v := undef) rfl (by kernel_rfl) (by kernel_rfl) (by kernel_rfl) (fun _ _ _ h => h) (Or.inr ⟨by go_simp, rfl⟩) (by assumption) ?_
        go_simp
        refine wpAnyH_take (i := 36) (v := undef) rfl (by kernel_rfl) (by kernel_rfl) (by kernel_rfl) (fun _ _ _ h => h) (Or.inr ⟨by go_simp, rfl⟩) (by assumption) ?_
        go_simp
        refine wpAnyH_take (i := 37) (v := undef) rfl (by kernel_rfl) (by kernel_rfl) (by kernel_rfl) (fun _ _ _ h => h) (Or.inr ⟨by go_simp, rfl⟩) (by assumption) ?_
        go_simp
        refine wpAnyH_take (i := 38) (v := undef) rfl (by kernel_rfl) (by kernel_rfl) (by kernel_rfl) (fun _ _ _ h => h) (Or.inr ⟨by go_simp, rfl⟩) (by assumption) ?_
        go_simp
        refine wpAnyH_take (i := 39) (v := undef) rfl (by kernel_rfl) (by kernel_rfl) (by kernel_rfl) (fun _ _ _ h => h) (Or.inr ⟨by go_simp, rfl⟩) (by assumption) ?_
        go_simp
        refine wpAnyH_take (i := 40) (v := undef) rfl (by kernel_rfl) (by kernel_rfl) (by kernel_rfl) (fun _ _ _ h => h) (Or.inr ⟨by go_simp, rfl⟩) (by assumption) ?_
        go_simp
        refine wpAnyH_take (i := 41) (v := undef) rfl (by kernel_rfl) (by kernel_rfl) (by kernel_rfl) (fun _ _ _ h => h) (Or.inr ⟨by go_simp, rfl⟩) (by assumption) ?_
        go_simp
        refine wpAnyH_take (i := 42) (v := undef) rfl (by kernel_rfl) (by kernel_rfl) (by kernel_rfl) (fun _ _ _ h => h) (Or.inr ⟨by go_simp, rfl⟩) (by assumption) ?_
        go_simp
        refine wpAnyH_take (i := 43) (v := undef) rfl (by kernel_rfl) (by kernel_rfl) (by kernel_rfl) (fun _ _ _ h => h) (Or.inr ⟨by go_simp, rfl⟩) (by assumption) ?_
        go_simp
        refine wpAnyH_take (i := 44) (v := ?vc44) rfl (by kernel_rfl) (by kernel_rfl) (by kernel_rfl) (fun _ _ _ h => h) (Or.inl ⟨by rfl, ?yc44⟩) (by assumption) ?rc44
        case yc44 => intro w' hSw; (try dsimp only at hSw); go_simp; try (with_reducible rfl)
        go_simp
        refine wpAnyH_done (by kernel_rfl) ?_ _
        go_wp2
        go_ret
        exact ⟨ret_bool HF.out.symm, below_on HB.out HN.out (by go_grown)⟩
      have hd2 : decide (8 ≤ y.b) = false := by simpa using hs2
      have HC : Hid (cellOk y = true) := by show _ = _; unfold cellOk; rw [hpl]; simp; omega
      by_cases hk0 : kk = 0
      · subst hk0
        clear g0 g1 g2
        refine wp_region_held_drew (S := fun w' => w'.cell? (ad.add (0 * 3)) = some (.int .i64 y.op) ∧ w'.cell? ⟨(ad.add (0 * 3)).block, (ad.add (0 * 3)).off + 1, none⟩ = some (.int .i64 y.a) ∧ w'.cell? ⟨(ad.add (0 * 3)).block, (ad.add (0 * 3)).off + 2, none⟩ = some (.int .i64 y.b)) (by kernel_rfl) (by (try dsimp only); exact HS _ (by first | exact below_on2 HN.out (by go_grown) | go_grown)) (fun hHeld => ?_)
        refine wpAnyH_take (i := 0) (v := ?vd0) rfl (by kernel_rfl) (by kernel_rfl) (by kernel_rfl) (fun _ _ _ h => h) (Or.inl ⟨by rfl, ?yd0⟩) (by assumption) ?rd0
        case yd0 => intro w' hSw; (try dsimp only at hSw); go_simp; try (with_reducible rfl)
        go_simp
        refine wpAnyH_take (i := 1) (v := ?vd1) rfl (by kernel_rfl) (by kernel_rfl) (by kernel_rfl) (fun _ _ _ h => h) (Or.inl ⟨by rfl, ?yd1⟩) (by assumption) ?rd1
        case yd1 => intro w' hSw; (try dsimp only at hSw); go_simp; try (with_reducible rfl)
        go_simp
        refine wpAnyH_take (i := 2) (v := ?vd2) rfl (by kernel_rfl) (by kernel_rfl) (by kernel_rfl) (fun _ _ _ h => h) (Or.inl ⟨by rfl, ?yd2⟩) (by assumption) ?rd2
        case yd2 => intro w' hSw; (try dsimp only at hSw); go_simp; try (with_reducible rfl)
        go_simp
        refine wpAnyH_take (i := 3) (v := ?vd3) rfl (by kernel_rfl) (by kernel_rfl) (by kernel_rfl) (fun _ _ _ h => h) (Or.inl ⟨by rfl, ?yd3⟩) (by assumption) ?rd3
        case yd3 => intro w' hSw; (try dsimp only at hSw); go_simp; try (with_reducible rfl)
        go_simp
        refine wpAnyH_take (i := 4) (v := ?vd4) rfl (by kernel_rfl) (by kernel_rfl) (by kernel_rfl) (fun _ _ _ h => h) (Or.inl ⟨by rfl, ?yd4⟩) (by assumption) ?rd4
        case yd4 => intro w' hSw; (try dsimp only at hSw); go_simp; try (with_reducible rfl)
        go_simp
        refine wpAnyH_take (i := 5) (v := ?vd5) rfl (by kernel_rfl) (by kernel_rfl) (by kernel_rfl) (fun _ _ _ h => h) (Or.inl ⟨by rfl, ?yd5⟩) (by assumption) ?rd5
        case yd5 => intro w' hSw; (try dsimp only at hSw); go_simp; try (with_reducible rfl)
        go_simp
        refine wpAnyH_take (i := 6) (v := ?vd6) rfl (by kernel_rfl) (by kernel_rfl) (by kernel_rfl) (fun _ _ _ h => h) (Or.inl ⟨by rfl, ?yd6⟩) (by assumption) ?rd6
        case yd6 => intro w' hSw; (try dsimp only at hSw); go_simp; try (with_reducible rfl)
        go_simp
        refine wpAnyH_take (i := 7) (v := ?vd7) rfl (by kernel_rfl) (by kernel_rfl) (by kernel_rfl) (fun _ _ _ h => h) (Or.inl ⟨by rfl, ?yd7⟩) (by assumption) ?rd7
        case yd7 => intro w' hSw; (try dsimp only at hSw); go_simp; try (with_reducible rfl)
        go_simp
        refine wpAnyH_take (i := 8) (v := ?vd8) rfl (by kernel_rfl) (by kernel_rfl) (by kernel_rfl) (fun _ _ _ h => h) (Or.inl ⟨by rfl, ?yd8⟩) (by assumption) ?rd8
        case yd8 => intro w' hSw; (try dsimp only at hSw); go_simp; try (with_reducible rfl)
        go_simp
        refine wpAnyH_take (i := 9) (v := ?vd9) rfl (by kernel_rfl) (by kernel_rfl) (by kernel_rfl) (fun _ _ _ h => h) (Or.inl ⟨by rfl, ?yd9⟩) (by assumption) ?rd9
        case yd9 => intro w' hSw; (try dsimp only at hSw); go_simp; try (with_reducible rfl)
        go_simp
        refine wpAnyH_ready (rs := [10]) (by kernel_rfl) (by simp) ?_
        refine AllReadyH.cons rfl (fun K hK => ?_) AllReadyH.nil
        go_simp
        go_at_call 46
        refine (rPlace_any y.op y.a _).mono ?_
        rw [hpl]
        rintro e w7 ⟨rfl, rfl⟩
        refine hK.out _ _ ?_ (fun hHeld => ?_)
        · (try dsimp only); exact HS _ (by first | exact below_on2 HN.out (by go_grown) | go_grown)
        clear hK K
        try go_simp
        refine wpAnyH_take (i := 11) (v := ?vd11) rfl (by kernel_rfl) (by kernel_rfl) (by kernel_rfl) (fun _ _ _ h => h) (Or.inl ⟨by rfl, ?yd11⟩) (by assumption) ?rd11
        case yd11 => intro w' hSw; (try dsimp only at hSw); go_simp; try (with_reducible rfl)
        go_simp
        refine wpAnyH_take (i := 12) (v := ?vd12) rfl (by kernel_rfl) (by kernel_rfl) (by kernel_rfl) (fun _ _ _ h => h) (Or.inl ⟨by rfl, ?yd12⟩) (by assumption) ?rd12
        case yd12 => intro w' hSw; (try dsimp only at hSw); go_simp; try (with_reducible rfl)
        go_simp
        refine wpAnyH_take (i := 13) (v := ?vd13) rfl (by kernel_rfl) (by kernel_rfl) (by kernel_rfl) (fun _ _ _ h => h) (Or.inl ⟨by first | rfl | (go_simp; done), ?yd13⟩) (by assumption) ?rd13
        case yd13 => intro w' hSw; (try dsimp only at hSw); go_simp; try (with_reducible rfl)
        go_simp
        refine wpAnyH_take (i := 14) (v := ?vd14) rfl (by kernel_rfl) (by kernel_rfl) (by kernel_rfl) (fun _ _ _ h => h) (Or.inl ⟨by first | rfl | (go_simp; done), ?yd14⟩) (by assumption) ?rd14
        case yd14 => intro w' hSw; (try dsimp only at hSw); go_simp; try (with_reducible rfl)
        go_simp
        refine wpAnyH_take (i := 15) (v := ?vd15) rfl (by kernel_rfl) (by kernel_rfl) (by kernel_rfl) (fun _ _ _ h => h) (Or.inl ⟨by first | rfl | (go_simp; done), ?yd15⟩) (by assumption) ?rd15
        case yd15 => intro w' hSw; (try dsimp only at hSw); go_simp; try (with_reducible rfl)
        go_simp
        refine wpAnyH_take (i := 16) (v := ?vd16) rfl (by kernel_rfl) (by kernel_rfl) (by kernel_rfl) (fun _ _ _ h => h) (Or.inl ⟨by first | rfl | (go_simp; done), ?yd16⟩) (by assumption) ?rd16
        case yd16 => intro w' hSw; (try dsimp only at hSw); go_simp; try (with_reducible rfl)
        go_simp
        refine wpAnyH_take (i := 17) (v := ?vd17) rfl (by kernel_rfl) (by kernel_rfl) (by kernel_rfl) (fun _ _ _ h => h) (Or.inl ⟨by first | rfl | (go_simp; done), ?yd17⟩) (by assumption) ?rd17
        case yd17 => intro w' hSw; (try dsimp only at hSw); go_simp; try (with_reducible rfl)
        go_simp
        refine wpAnyH_take (i := 18) (v := ?vd18) rfl (by kernel_rfl) (by kernel_rfl) (by kernel_rfl) (fun _ _ _ h => h) (Or.inl ⟨by first | rfl | (go_simp; done), ?yd18⟩) (by assumption) ?rd18
        case yd18 => intro w' hSw; (try dsimp only at hSw); go_simp; try (with_reducible rfl)
        go_simp
        refine wpAnyH_take (i := 19) (v := ?vd19) rfl (by kernel_rfl) (by kernel_rfl) (by kernel_rfl) (fun _ _ _ h => h) (Or.inl ⟨by rfl, ?yd19⟩) (by assumption) ?rd19
        case yd19 => intro w' hSw; (try dsimp only at hSw); go_simp; try (with_reducible rfl)
        go_simp
        refine wpAnyH_take (i := 20) (v := ?vd20) rfl (by kernel_rfl) (by kernel_rfl) (by kernel_rfl) (fun _ _ _ h => h) (Or.inl ⟨by rfl, ?yd20⟩) (by assumption) ?rd20
        case yd20 => intro w' hSw; (try dsimp only at hSw); go_simp; try (with_reducible rfl)
        go_simp
        refine wpAnyH_take (i := 21) (v := ?vd21) rfl (by kernel_rfl) (by kernel_rfl) (by kernel_rfl) (fun _ _ _ h => h) (Or.inl ⟨by first | rfl | (go_simp; done), ?yd21⟩) (by assumption) ?rd21
        case yd21 => intro w' hSw; (try dsimp only at hSw); go_simp; try (with_reducible rfl)
        go_simp
        refine wpAnyH_take (i := 22) (v := ?vd22) rfl (by kernel_rfl) (by kernel_rfl) (by kernel_rfl) (fun _ _ _ h => h) (Or.inl ⟨by first | rfl | (go_simp; done), ?yd22⟩) (by assumption) ?rd22
        case yd22 => intro w' hSw; (try dsimp only at hSw); go_simp; try (with_reducible rfl)
        go_simp
        refine wpAnyH_take (i := 23) (v := ?vd23) rfl (by kernel_rfl) (by kernel_rfl) (by kernel_rfl) (fun _ _ _ h => h) (Or.inl ⟨by first | rfl | (go_simp; done), ?yd23⟩) (by assumption) ?rd23
        case yd23 => intro w' hSw; (try dsimp only at hSw); go_simp; try (with_reducible rfl)
        go_simp
        refine wpAnyH_take (i := 24) (v := ?vd24) rfl (by kernel_rfl) (by kernel_rfl) (by kernel_rfl) (fun _ _ _ h => h) (Or.inl ⟨by first | rfl | (go_simp; done), ?yd24⟩) (by assumption) ?rd24
        case yd24 => intro w' hSw; (try dsimp only at hSw); go_simp; try (with_reducible rfl)
        go_simp
        refine wpAnyH_take (i := 25) (v := ?vd25) rfl (by kernel_rfl) (by kernel_rfl) (by kernel_rfl) (fun _ _ _ h => h) (Or.inl ⟨by first | rfl | (go_simp; done), ?yd25⟩) (by assumption) ?rd25
        case yd25 => intro w' hSw; (try dsimp only at hSw); go_simp; try (with_reducible rfl)
        go_simp
        refine wpAnyH_take (i := 26) (v := ?vd26) rfl (by kernel_rfl) (by kernel_rfl) (by kernel_rfl) (fun _ _ _ h => h) (Or.inl ⟨by first | rfl | (go_simp; done), ?yd26⟩) (by assumption) ?rd26
        case yd26 => intro w' hSw; (try dsimp only at hSw); go_simp; try (with_reducible rfl)
        go_simp
        refine wpAnyH_take (i := 27) (v := ?vd27) rfl (by kernel_rfl) (by kernel_rfl) (by kernel_rfl) (fun _ _ _ h => h) (Or.inl ⟨by rfl, ?yd27⟩) (by assumption) ?rd27
        case yd27 => intro w' hSw; (try dsimp only at hSw); go_simp; try (with_reducible rfl)
        go_simp
        refine wpAnyH_take (i := 28) (v := ?vd28) rfl (by kernel_rfl) (by kernel_rfl) (by kernel_rfl) (fun _ _ _ h => h) (Or.inl ⟨by rfl, ?yd28⟩) (by assumption) ?rd28
        case yd28 => intro w' hSw; (try dsimp only at hSw); go_simp; try (with_reducible rfl)
        go_simp
        refine wpAnyH_take (i := 29) (v := ?vd29) rfl (by kernel_rfl) (by kernel_rfl) (by kernel_rfl) (fun _ _ _ h => h) (Or.inl ⟨by first | rfl | (go_simp; done), ?yd29⟩) (by assumption) ?rd29
        case yd29 => intro w' hSw; (try dsimp only at hSw); go_simp; try (with_reducible rfl)
        go_simp
        refine wpAnyH_take (i := 30) (v := ?vd30) rfl (by kernel_rfl) (by kernel_rfl) (by kernel_rfl) (fun _ _ _ h => h) (Or.inl ⟨by first | rfl | (go_simp; done), ?yd30⟩) (by assumption) ?rd30
        case yd30 => intro w' hSw; (try dsimp only at hSw); go_simp; try (with_reducible rfl)
        go_simp
        refine wpAnyH_take (i := 31) (v := ?vd31) rfl (by kernel_rfl) (by kernel_rfl) (by kernel_rfl) (fun _ _ _ h => h) (Or.inl ⟨by first | rfl | (go_simp; done), ?yd31⟩) (by assumption) ?rd31
        case yd31 => intro w' hSw; (try dsimp only at hSw); go_simp; try (with_reducible rfl)
        go_simp
        refine wpAnyH_take (i := 32) (v := undef) rfl (by kernel_rfl) (by kernel_rfl) (by kernel_rfl) (fun _ _ _ h => h) (Or.inr ⟨by go_simp, rfl⟩) (by assumption) ?_
        go_simp
        refine wpAnyH_take (i := 33) (v := undef) rfl (by kernel_rfl) (by kernel_rfl) (by kernel_rfl) (fun _ _ _ h => h) (Or.inr ⟨by go_simp, rfl⟩) (by assumption) ?_
        go_simp
        refine wpAnyH_take (i := 34) (v := undef) rfl (by kernel_rfl) (by kernel_rfl) (by kernel_rfl) (fun _ _ _ h => h) (Or.inr ⟨by go_simp, rfl⟩) (by assumption) ?_
        go_simp
        refine wpAnyH_take (i := 35) (v := undef) rfl (by kernel_rfl) (by kernel_rfl) (by kernel_rfl) (fun _ _ _ h => h) (Or.inr ⟨by go_simp, rfl⟩) (by assumption) ?_
        go_simp
        refine wpAnyH_take (i := 36) (v := undef) rfl (by kernel_rfl) (by kernel_rfl) (by kernel_rfl) (fun _ _ _ h => h) (Or.inr ⟨by go_simp, rfl⟩) (by assumption) ?_
        go_simp
        refine wpAnyH_take (i := 37) (v := undef) rfl (by kernel_rfl) (by kernel_rfl) (by kernel_rfl) (fun _ _ _ h => h) (Or.inr ⟨by go_simp, rfl⟩) (by assumption) ?_
        go_simp
        refine wpAnyH_take (i := 38) (v := undef) rfl (by kernel_rfl) (by kernel_rfl) (by kernel_rfl) (fun _ _ _ h => h) (Or.inr ⟨by go_simp, rfl⟩) (by assumption) ?_
        go_simp
        refine wpAnyH_take (i := 39) (v := undef) rfl (by kernel_rfl) (by kernel_rfl) (by kernel_rfl) (fun _ _ _ h => h) (Or.inr ⟨by go_simp, rfl⟩) (by assumption) ?_
        go_simp
        refine wpAnyH_take (i := 40) (v := undef) rfl (by kernel_rfl) (by kernel_rfl) (by kernel_rfl) (fun _ _ _ h => h) (Or.inr ⟨by go_simp, rfl⟩) (by assumption) ?_
        go_simp
        refine wpAnyH_take (i := 41) (v := undef) rfl (by kernel_rfl) (by kernel_rfl) (by kernel_rfl) (fun _ _ _ h => h) (Or.inr ⟨by go_simp, rfl⟩) (by assumption) ?_
        go_simp
        refine wpAnyH_take (i := 42) (v := undef) rfl (by kernel_rfl) (by kernel_rfl) (by kernel_rfl) (fun _ _ _ h => h) (Or.inr ⟨by go_simp, rfl⟩) (by assumption) ?_
        go_simp
        refine wpAnyH_take (i := 43) (v := ?vd43) rfl (by kernel_rfl) (by kernel_rfl) (by kernel_rfl) (fun _ _ _ h => h) (Or.inl ⟨by first | rfl | (go_simp; done), ?yd43⟩) (by assumption) ?rd43
        case yd43 => intro w' hSw; (try dsimp only at hSw); go_simp; try (with_reducible rfl)
        go_simp
        refine wpAnyH_take (i := 44) (v := ?vd44) rfl (by kernel_rfl) (by kernel_rfl) (by kernel_rfl) (fun _ _ _ h => h) (Or.inl ⟨by rfl, ?yd44⟩) (by assumption) ?rd44
        case yd44 => intro w' hSw; (try dsimp only at hSw); go_simp; try (with_reducible rfl)
        go_simp
        refine wpAnyH_done (by kernel_rfl) ?_ _
        go_wp2
        go_roundg (n - (0 + 1))
        case measure => omega
        case rel =>
          refine ⟨0 + 1, by omega, by omega, by go_num, (show Below _ _ _ from below_on HB.out HN.out (by go_grown)), (show Aside _ from fun i hi => ?_)⟩
          by_cases e : i = 0
          · subst e
            exact ⟨by rw [HY.out]; exact HC.out, .inl rfl⟩
          · exact AA.out i (by omega)
      · obtain ⟨j, rfl⟩ : ∃ j, kk = j + 1 := ⟨kk - 1, by omega⟩
        obtain ⟨ad', e', hb2, k0, k1, k2⟩ := (H.out.up BW.out).gate (show j < n by omega)
        cases e'
        generalize hq : p.getD j default = q at k0 k1 k2
        have HQ : Hid (p.getD j default = q) := hq
        clear hq
        have HS : ∀ w', Below w1.heap.size w1 w' → w'.cell? (ad.add ((j + 1) * 3)) = some (.int .i64 y.op) ∧ w'.cell? ⟨(ad.add ((j + 1) * 3)).block, (ad.add ((j + 1) * 3)).off + 1, none⟩ = some (.int .i64 y.a) ∧ w'.cell? ⟨(ad.add ((j + 1) * 3)).block, (ad.add ((j + 1) * 3)).off + 2, none⟩ = some (.int .i64 y.b) ∧ w'.cell? (ad.add (j * 3)) = some (.int .i64 q.op) ∧ w'.cell? ⟨(ad.add (j * 3)).block, (ad.add (j * 3)).off + 1, none⟩ = some (.int .i64 q.a) ∧ w'.cell? ⟨(ad.add (j * 3)).block, (ad.add (j * 3)).off + 2, none⟩ = some (.int .i64 q.b) := fun w' hw => ⟨(hw.cell (by rw [add_block]; exact hb)).trans g0, (hw.cell (p := ⟨(ad.add ((j + 1) * 3)).block, (ad.add ((j + 1) * 3)).off + 1, none⟩) (by show (ad.add ((j + 1) * 3)).block < _; rw [add_block]; exact hb)).trans g1, (hw.cell (p := ⟨(ad.add ((j + 1) * 3)).block, (ad.add ((j + 1) * 3)).off + 2, none⟩) (by show (ad.add ((j + 1) * 3)).block < _; rw [add_block]; exact hb)).trans g2, (hw.cell (by rw [add_block]; exact hb)).trans k0, (hw.cell (p := ⟨(ad.add (j * 3)).block, (ad.add (j * 3)).off + 1, none⟩) (by show (ad.add (j * 3)).block < _; rw [add_block]; exact hb)).trans k1, (hw.cell (p := ⟨(ad.add (j * 3)).block, (ad.add (j * 3)).off + 2, none⟩) (by show (ad.add (j * 3)).block < _; rw [add_block]; exact hb)).trans k2⟩
        have hj0 : (0 : Int) < (j : Int) + 1 := by omega
        have hjn : (j : Int) < (n : Int) := by omega
        have hj2 : (0 : Int) ≤ (j : Int) + 1 := by omega
        have hj3 : (j : Int) + 1 < (n : Int) := by omega
        have hj1 : (0 : Int) ≤ (j : Int) := by omega
        have hwj : IntKind.i64.wrap (j : Int) = (j : Int) := IntWalk.i64_in _ (by omega)
        cases hbe : beforeC q y
        · have HF : Hid (rightP p = false) := rightP_false_at p (j + 1) (by rw [HL.out]; exact hlt) (.inr ⟨by omega, by rw [HY.out, Nat.add_sub_cancel, HQ.out]; exact hbe⟩)
          clear g0 g1 g2 k0 k1 k2
          refine wp_region_held_drew (S := fun w' => w'.cell? (ad.add ((j + 1) * 3)) = some (.int .i64 y.op) ∧ w'.cell? ⟨(ad.add ((j + 1) * 3)).block, (ad.add ((j + 1) * 3)).off + 1, none⟩ = some (.int .i64 y.a) ∧ w'.cell? ⟨(ad.add ((j + 1) * 3)).block, (ad.add ((j + 1) * 3)).off + 2, none⟩ = some (.int .i64 y.b) ∧ w'.cell? (ad.add (j * 3)) = some (.int .i64 q.op) ∧ w'.cell? ⟨(ad.add (j * 3)).block, (ad.add (j * 3)).off + 1, none⟩ = some (.int .i64 q.a) ∧ w'.cell? ⟨(ad.add (j * 3)).block, (ad.add (j * 3)).off + 2, none⟩ = some (.int .i64 q.b)) (by kernel_rfl) (by (try dsimp only); exact HS _ (by first | exact below_on2 HN.out (by go_grown) | go_grown)) (fun hHeld => ?_)
          refine wpAnyH_take (i := 0) (v := ?ve0) rfl (by kernel_rfl) (by kernel_rfl) (by kernel_rfl) (fun _ _ _ h => h) (Or.inl ⟨by rfl, ?ye0⟩) (by assumption) ?re0
          case ye0 => intro w' hSw; (try dsimp only at hSw); go_simp; try (with_reducible rfl)
          go_simp
          refine wpAnyH_take (i := 1) (v := ?ve1) rfl (by kernel_rfl) (by kernel_rfl) (by kernel_rfl) (fun _ _ _ h => h) (Or.inl ⟨by rfl, ?ye1⟩) (by assumption) ?re1
          case ye1 => intro w' hSw; (try dsimp only at hSw); go_simp; try (with_reducible rfl)
          go_simp
          refine wpAnyH_take (i := 2) (v := ?ve2) rfl (by kernel_rfl) (by kernel_rfl) (by kernel_rfl) (fun _ _ _ h => h) (Or.inl ⟨by rfl, ?ye2⟩) (by assumption) ?re2
          case ye2 => intro w' hSw; (try dsimp only at hSw); go_simp; try (with_reducible rfl)
          go_simp
          refine wpAnyH_take (i := 3) (v := ?ve3) rfl (by kernel_rfl) (by kernel_rfl) (by kernel_rfl) (fun _ _ _ h => h) (Or.inl ⟨by rfl, ?ye3⟩) (by assumption) ?re3
          case ye3 => intro w' hSw; (try dsimp only at hSw); go_simp; try (with_reducible rfl)
          go_simp
          refine wpAnyH_take (i := 4) (v := ?ve4) rfl (by kernel_rfl) (by kernel_rfl) (by kernel_rfl) (fun _ _ _ h => h) (Or.inl ⟨by rfl, ?ye4⟩) (by assumption) ?re4
          case ye4 => intro w' hSw; (try dsimp only at hSw); go_simp; try (with_reducible rfl)
          go_simp
          refine wpAnyH_take (i := 5) (v := ?ve5) rfl (by kernel_rfl) (by kernel_rfl) (by kernel_rfl) (fun _ _ _ h => h) (Or.inl ⟨by rfl, ?ye5⟩) (by assumption) ?re5
          case ye5 => intro w' hSw; (try dsimp only at hSw); go_simp; try (with_reducible rfl)
          go_simp
          refine wpAnyH_take (i := 6) (v := ?ve6) rfl (by kernel_rfl) (by kernel_rfl) (by kernel_rfl) (fun _ _ _ h => h) (Or.inl ⟨by rfl, ?ye6⟩) (by assumption) ?re6
          case ye6 => intro w' hSw; (try dsimp only at hSw); go_simp; try (with_reducible rfl)
          go_simp
          refine wpAnyH_take (i := 7) (v := ?ve7) rfl (by kernel_rfl) (by kernel_rfl) (by kernel_rfl) (fun _ _ _ h => h) (Or.inl ⟨by rfl, ?ye7⟩) (by assumption) ?re7
          case ye7 => intro w' hSw; (try dsimp only at hSw); go_simp; try (with_reducible rfl)
          go_simp
          refine wpAnyH_take (i := 8) (v := ?ve8) rfl (by kernel_rfl) (by kernel_rfl) (by kernel_rfl) (fun _ _ _ h => h) (Or.inl ⟨by rfl, ?ye8⟩) (by assumption) ?re8
          case ye8 => intro w' hSw; (try dsimp only at hSw); go_simp; try (with_reducible rfl)
          go_simp
          refine wpAnyH_take (i := 9) (v := ?ve9) rfl (by kernel_rfl) (by kernel_rfl) (by kernel_rfl) (fun _ _ _ h => h) (Or.inl ⟨by rfl, ?ye9⟩) (by assumption) ?re9
          case ye9 => intro w' hSw; (try dsimp only at hSw); go_simp; try (with_reducible rfl)
          go_simp
          refine wpAnyH_ready (rs := [10]) (by kernel_rfl) (by simp) ?_
          refine AllReadyH.cons rfl (fun K hK => ?_) AllReadyH.nil
          go_simp
          go_at_call 46
          refine (rPlace_any y.op y.a _).mono ?_
          rw [hpl]
          rintro e w7 ⟨rfl, rfl⟩
          refine hK.out _ _ ?_ (fun hHeld => ?_)
          · (try dsimp only); exact HS _ (by first | exact below_on2 HN.out (by go_grown) | go_grown)
          clear hK K
          try go_simp
          refine wpAnyH_take (i := 11) (v := ?ve11) rfl (by kernel_rfl) (by kernel_rfl) (by kernel_rfl) (fun _ _ _ h => h) (Or.inl ⟨by rfl, ?ye11⟩) (by assumption) ?re11
          case ye11 => intro w' hSw; (try dsimp only at hSw); go_simp; try (with_reducible rfl)
          go_simp
          refine wpAnyH_take (i := 12) (v := ?ve12) rfl (by kernel_rfl) (by kernel_rfl) (by kernel_rfl) (fun _ _ _ h => h) (Or.inl ⟨by rfl, ?ye12⟩) (by assumption) ?re12
          case ye12 => intro w' hSw; (try dsimp only at hSw); go_simp; try (with_reducible rfl)
          go_simp
          refine wpAnyH_take (i := 13) (v := ?ve13) rfl (by kernel_rfl) (by kernel_rfl) (by kernel_rfl) (fun _ _ _ h => h) (Or.inl ⟨by first | rfl | (go_simp; done), ?ye13⟩) (by assumption) ?re13
          case ye13 => intro w' hSw; (try dsimp only at hSw); go_simp; try (with_reducible rfl)
          go_simp
          refine wpAnyH_take (i := 14) (v := ?ve14) rfl (by kernel_rfl) (by kernel_rfl) (by kernel_rfl) (fun _ _ _ h => h) (Or.inl ⟨by first | rfl | (go_simp; done), ?ye14⟩) (by assumption) ?re14
          case ye14 => intro w' hSw; (try dsimp only at hSw); go_simp; try (with_reducible rfl)
          go_simp
          refine wpAnyH_take (i := 15) (v := ?ve15) rfl (by kernel_rfl) (by kernel_rfl) (by kernel_rfl) (fun _ _ _ h => h) (Or.inl ⟨by first | rfl | (go_simp; done), ?ye15⟩) (by assumption) ?re15
          case ye15 => intro w' hSw; (try dsimp only at hSw); go_simp; try (with_reducible rfl)
          go_simp
          refine wpAnyH_take (i := 16) (v := ?ve16) rfl (by kernel_rfl) (by kernel_rfl) (by kernel_rfl) (fun _ _ _ h => h) (Or.inl ⟨by first | rfl | (go_simp; done), ?ye16⟩) (by assumption) ?re16
          case ye16 => intro w' hSw; (try dsimp only at hSw); go_simp; try (with_reducible rfl)
          go_simp
          refine wpAnyH_take (i := 17) (v := ?ve17) rfl (by kernel_rfl) (by kernel_rfl) (by kernel_rfl) (fun _ _ _ h => h) (Or.inl ⟨by first | rfl | (go_simp; done), ?ye17⟩) (by assumption) ?re17
          case ye17 => intro w' hSw; (try dsimp only at hSw); go_simp; try (with_reducible rfl)
          go_simp
          refine wpAnyH_take (i := 18) (v := ?ve18) rfl (by kernel_rfl) (by kernel_rfl) (by kernel_rfl) (fun _ _ _ h => h) (Or.inl ⟨by first | rfl | (go_simp; done), ?ye18⟩) (by assumption) ?re18
          case ye18 => intro w' hSw; (try dsimp only at hSw); go_simp; try (with_reducible rfl)
          go_simp
          refine wpAnyH_take (i := 19) (v := ?ve19) rfl (by kernel_rfl) (by kernel_rfl) (by kernel_rfl) (fun _ _ _ h => h) (Or.inl ⟨by rfl, ?ye19⟩) (by assumption) ?re19
          case ye19 => intro w' hSw; (try dsimp only at hSw); go_simp; try (with_reducible rfl)
          go_simp
          refine wpAnyH_take (i := 20) (v := ?ve20) rfl (by kernel_rfl) (by kernel_rfl) (by kernel_rfl) (fun _ _ _ h => h) (Or.inl ⟨by rfl, ?ye20⟩) (by assumption) ?re20
          case ye20 => intro w' hSw; (try dsimp only at hSw); go_simp; try (with_reducible rfl)
          go_simp
          refine wpAnyH_take (i := 21) (v := ?ve21) rfl (by kernel_rfl) (by kernel_rfl) (by kernel_rfl) (fun _ _ _ h => h) (Or.inl ⟨by first | rfl | (go_simp; done), ?ye21⟩) (by assumption) ?re21
          case ye21 => intro w' hSw; (try dsimp only at hSw); go_simp; try (with_reducible rfl)
          go_simp
          refine wpAnyH_take (i := 22) (v := ?ve22) rfl (by kernel_rfl) (by kernel_rfl) (by kernel_rfl) (fun _ _ _ h => h) (Or.inl ⟨by first | rfl | (go_simp; done), ?ye22⟩) (by assumption) ?re22
          case ye22 => intro w' hSw; (try dsimp only at hSw); go_simp; try (with_reducible rfl)
          go_simp
          refine wpAnyH_take (i := 23) (v := ?ve23) rfl (by kernel_rfl) (by kernel_rfl) (by kernel_rfl) (fun _ _ _ h => h) (Or.inl ⟨by first | rfl | (go_simp; done), ?ye23⟩) (by assumption) ?re23
          case ye23 => intro w' hSw; (try dsimp only at hSw); go_simp; try (with_reducible rfl)
          go_simp
          refine wpAnyH_take (i := 24) (v := ?ve24) rfl (by kernel_rfl) (by kernel_rfl) (by kernel_rfl) (fun _ _ _ h => h) (Or.inl ⟨by first | rfl | (go_simp; done), ?ye24⟩) (by assumption) ?re24
          case ye24 => intro w' hSw; (try dsimp only at hSw); go_simp; try (with_reducible rfl)
          go_simp
          refine wpAnyH_take (i := 25) (v := ?ve25) rfl (by kernel_rfl) (by kernel_rfl) (by kernel_rfl) (fun _ _ _ h => h) (Or.inl ⟨by first | rfl | (go_simp; done), ?ye25⟩) (by assumption) ?re25
          case ye25 => intro w' hSw; (try dsimp only at hSw); go_simp; try (with_reducible rfl)
          go_simp
          refine wpAnyH_take (i := 26) (v := ?ve26) rfl (by kernel_rfl) (by kernel_rfl) (by kernel_rfl) (fun _ _ _ h => h) (Or.inl ⟨by first | rfl | (go_simp; done), ?ye26⟩) (by assumption) ?re26
          case ye26 => intro w' hSw; (try dsimp only at hSw); go_simp; try (with_reducible rfl)
          go_simp
          refine wpAnyH_take (i := 27) (v := ?ve27) rfl (by kernel_rfl) (by kernel_rfl) (by kernel_rfl) (fun _ _ _ h => h) (Or.inl ⟨by rfl, ?ye27⟩) (by assumption) ?re27
          case ye27 => intro w' hSw; (try dsimp only at hSw); go_simp; try (with_reducible rfl)
          go_simp
          refine wpAnyH_take (i := 28) (v := ?ve28) rfl (by kernel_rfl) (by kernel_rfl) (by kernel_rfl) (fun _ _ _ h => h) (Or.inl ⟨by rfl, ?ye28⟩) (by assumption) ?re28
          case ye28 => intro w' hSw; (try dsimp only at hSw); go_simp; try (with_reducible rfl)
          go_simp
          refine wpAnyH_take (i := 29) (v := ?ve29) rfl (by kernel_rfl) (by kernel_rfl) (by kernel_rfl) (fun _ _ _ h => h) (Or.inl ⟨by first | rfl | (go_simp; done), ?ye29⟩) (by assumption) ?re29
          case ye29 => intro w' hSw; (try dsimp only at hSw); go_simp; try (with_reducible rfl)
          go_simp
          refine wpAnyH_take (i := 30) (v := ?ve30) rfl (by kernel_rfl) (by kernel_rfl) (by kernel_rfl) (fun _ _ _ h => h) (Or.inl ⟨by first | rfl | (go_simp; done), ?ye30⟩) (by assumption) ?re30
          case ye30 => intro w' hSw; (try dsimp only at hSw); go_simp; try (with_reducible rfl)
          go_simp
          refine wpAnyH_take (i := 31) (v := ?ve31) rfl (by kernel_rfl) (by kernel_rfl) (by kernel_rfl) (fun _ _ _ h => h) (Or.inl ⟨by first | rfl | (go_simp; done), ?ye31⟩) (by assumption) ?re31
          case ye31 => intro w' hSw; (try dsimp only at hSw); go_simp; try (with_reducible rfl)
          go_simp
          refine wpAnyH_take (i := 32) (v := ?ve32) rfl (by kernel_rfl) (by kernel_rfl) (by kernel_rfl) (fun _ _ _ h => h) (Or.inl ⟨by first | rfl | (go_simp; done), ?ye32⟩) (by assumption) ?re32
          case ye32 => intro w' hSw; (try dsimp only at hSw); go_simp; try (with_reducible rfl)
          go_simp
          refine wpAnyH_take (i := 33) (v := ?ve33) rfl (by kernel_rfl) (by kernel_rfl) (by kernel_rfl) (fun _ _ _ h => h) (Or.inl ⟨by first | rfl | (go_simp; done), ?ye33⟩) (by assumption) ?re33
          case ye33 => intro w' hSw; (try dsimp only at hSw); go_simp; try (with_reducible rfl)
          go_simp
          refine wpAnyH_take (i := 34) (v := ?ve34) rfl (by kernel_rfl) (by kernel_rfl) (by kernel_rfl) (fun _ _ _ h => h) (Or.inl ⟨by first | rfl | (go_simp; done), ?ye34⟩) (by assumption) ?re34
          case ye34 => intro w' hSw; (try dsimp only at hSw); go_simp; try (with_reducible rfl)
          go_simp
          refine wpAnyH_take (i := 35) (v := ?ve35) rfl (by kernel_rfl) (by kernel_rfl) (by kernel_rfl) (fun _ _ _ h => h) (Or.inl ⟨by first | rfl | (go_simp; done), ?ye35⟩) (by assumption) ?re35
          case ye35 => intro w' hSw; (try dsimp only at hSw); go_simp; try (with_reducible rfl)
          go_simp
          refine wpAnyH_take (i := 36) (v := ?ve36) rfl (by kernel_rfl) (by kernel_rfl) (by kernel_rfl) (fun _ _ _ h => h) (Or.inl ⟨by first | rfl | (go_simp; done), ?ye36⟩) (by assumption) ?re36
          case ye36 => intro w' hSw; (try dsimp only at hSw); go_simp; try (with_reducible rfl)
          go_simp
          refine wpAnyH_take (i := 37) (v := ?ve37) rfl (by kernel_rfl) (by kernel_rfl) (by kernel_rfl) (fun _ _ _ h => h) (Or.inl ⟨by first | rfl | (go_simp; done), ?ye37⟩) (by assumption) ?re37
          case ye37 => intro w' hSw; (try dsimp only at hSw); go_simp; try (with_reducible rfl)
          go_simp
          refine wpAnyH_take (i := 38) (v := ?ve38) rfl (by kernel_rfl) (by kernel_rfl) (by kernel_rfl) (fun _ _ _ h => h) (Or.inl ⟨by first | rfl | (go_simp; done), ?ye38⟩) (by assumption) ?re38
          case ye38 => intro w' hSw; (try dsimp only at hSw); go_simp; try (with_reducible rfl)
          go_simp
          refine wpAnyH_take (i := 39) (v := ?ve39) rfl (by kernel_rfl) (by kernel_rfl) (by kernel_rfl) (fun _ _ _ h => h) (Or.inl ⟨by first | rfl | (go_simp; done), ?ye39⟩) (by assumption) ?re39
          case ye39 => intro w' hSw; (try dsimp only at hSw); go_simp; try (with_reducible rfl)
          go_simp
          refine wpAnyH_take (i := 40) (v := ?ve40) rfl (by kernel_rfl) (by kernel_rfl) (by kernel_rfl) (fun _ _ _ h => h) (Or.inl ⟨by first | rfl | (go_simp; done), ?ye40⟩) (by assumption) ?re40
          case ye40 => intro w' hSw; (try dsimp only at hSw); go_simp; try (with_reducible rfl)
          go_simp
          refine wpAnyH_ready (rs := [41]) (by kernel_rfl) (by simp) ?_
          refine AllReadyH.cons rfl (fun K hK => ?_) AllReadyH.nil
          go_simp
          go_at_call 47
          refine (rBefore_any q y _).mono ?_
          rw [hbe]
          rintro e w7 ⟨rfl, hb⟩
          have HN := (show Hid (Below w1.heap.size w1 w7) from below_on HN.out (by go_grown) hb)
          clear hb
          refine hK.out _ _ ?_ (fun hHeld => ?_)
          · (try dsimp only); exact HS _ (by first | exact below_on2 HN.out (by go_grown) | go_grown)
          clear hK K
          try go_simp
          refine wpAnyH_take (i := 42) (v := ?ve42) rfl (by kernel_rfl) (by kernel_rfl) (by kernel_rfl) (fun _ _ _ h => h) (Or.inl ⟨by first | rfl | (go_simp; done), ?ye42⟩) (by assumption) ?re42
          case ye42 => intro w' hSw; (try dsimp only at hSw); go_simp; try (with_reducible rfl)
          go_simp
          refine wpAnyH_take (i := 43) (v := ?ve43) rfl (by kernel_rfl) (by kernel_rfl) (by kernel_rfl) (fun _ _ _ h => h) (Or.inl ⟨by first | rfl | (go_simp; done), ?ye43⟩) (by assumption) ?re43
          case ye43 => intro w' hSw; (try dsimp only at hSw); go_simp; try (with_reducible rfl)
          go_simp
          refine wpAnyH_take (i := 44) (v := ?ve44) rfl (by kernel_rfl) (by kernel_rfl) (by kernel_rfl) (fun _ _ _ h => h) (Or.inl ⟨by rfl, ?ye44⟩) (by assumption) ?re44
          case ye44 => intro w' hSw; (try dsimp only at hSw); go_simp; try (with_reducible rfl)
          go_simp
          refine wpAnyH_done (by kernel_rfl) ?_ _
          go_wp2
          go_ret
          exact ⟨ret_bool HF.out.symm, below_on HB.out HN.out (by go_grown)⟩
        · have HG : Hid (cellOk y = true ∧ (j + 1 = 0 ∨ beforeC (p.getD (j + 1 - 1) default) y = true)) := ⟨HC.out, .inr (by rw [Nat.add_sub_cancel, HQ.out]; exact hbe)⟩
          clear g0 g1 g2 k0 k1 k2
          refine wp_region_held_drew (S := fun w' => w'.cell? (ad.add ((j + 1) * 3)) = some (.int .i64 y.op) ∧ w'.cell? ⟨(ad.add ((j + 1) * 3)).block, (ad.add ((j + 1) * 3)).off + 1, none⟩ = some (.int .i64 y.a) ∧ w'.cell? ⟨(ad.add ((j + 1) * 3)).block, (ad.add ((j + 1) * 3)).off + 2, none⟩ = some (.int .i64 y.b) ∧ w'.cell? (ad.add (j * 3)) = some (.int .i64 q.op) ∧ w'.cell? ⟨(ad.add (j * 3)).block, (ad.add (j * 3)).off + 1, none⟩ = some (.int .i64 q.a) ∧ w'.cell? ⟨(ad.add (j * 3)).block, (ad.add (j * 3)).off + 2, none⟩ = some (.int .i64 q.b)) (by kernel_rfl) (by (try dsimp only); exact HS _ (by first | exact below_on2 HN.out (by go_grown) | go_grown)) (fun hHeld => ?_)
          refine wpAnyH_take (i := 0) (v := ?vf0) rfl (by kernel_rfl) (by kernel_rfl) (by kernel_rfl) (fun _ _ _ h => h) (Or.inl ⟨by rfl, ?yf0⟩) (by assumption) ?rf0
          case yf0 => intro w' hSw; (try dsimp only at hSw); go_simp; try (with_reducible rfl)
          go_simp
          refine wpAnyH_take (i := 1) (v := ?vf1) rfl (by kernel_rfl) (by kernel_rfl) (by kernel_rfl) (fun _ _ _ h => h) (Or.inl ⟨by rfl, ?yf1⟩) (by assumption) ?rf1
          case yf1 => intro w' hSw; (try dsimp only at hSw); go_simp; try (with_reducible rfl)
          go_simp
          refine wpAnyH_take (i := 2) (v := ?vf2) rfl (by kernel_rfl) (by kernel_rfl) (by kernel_rfl) (fun _ _ _ h => h) (Or.inl ⟨by rfl, ?yf2⟩) (by assumption) ?rf2
          case yf2 => intro w' hSw; (try dsimp only at hSw); go_simp; try (with_reducible rfl)
          go_simp
          refine wpAnyH_take (i := 3) (v := ?vf3) rfl (by kernel_rfl) (by kernel_rfl) (by kernel_rfl) (fun _ _ _ h => h) (Or.inl ⟨by rfl, ?yf3⟩) (by assumption) ?rf3
          case yf3 => intro w' hSw; (try dsimp only at hSw); go_simp; try (with_reducible rfl)
          go_simp
          refine wpAnyH_take (i := 4) (v := ?vf4) rfl (by kernel_rfl) (by kernel_rfl) (by kernel_rfl) (fun _ _ _ h => h) (Or.inl ⟨by rfl, ?yf4⟩) (by assumption) ?rf4
          case yf4 => intro w' hSw; (try dsimp only at hSw); go_simp; try (with_reducible rfl)
          go_simp
          refine wpAnyH_take (i := 5) (v := ?vf5) rfl (by kernel_rfl) (by kernel_rfl) (by kernel_rfl) (fun _ _ _ h => h) (Or.inl ⟨by rfl, ?yf5⟩) (by assumption) ?rf5
          case yf5 => intro w' hSw; (try dsimp only at hSw); go_simp; try (with_reducible rfl)
          go_simp
          refine wpAnyH_take (i := 6) (v := ?vf6) rfl (by kernel_rfl) (by kernel_rfl) (by kernel_rfl) (fun _ _ _ h => h) (Or.inl ⟨by rfl, ?yf6⟩) (by assumption) ?rf6
          case yf6 => intro w' hSw; (try dsimp only at hSw); go_simp; try (with_reducible rfl)
          go_simp
          refine wpAnyH_take (i := 7) (v := ?vf7) rfl (by kernel_rfl) (by kernel_rfl) (by kernel_rfl) (fun _ _ _ h => h) (Or.inl ⟨by rfl, ?yf7⟩) (by assumption) ?rf7
          case yf7 => intro w' hSw; (try dsimp only at hSw); go_simp; try (with_reducible rfl)
          go_simp
          refine wpAnyH_take (i := 8) (v := ?vf8) rfl (by kernel_rfl) (by kernel_rfl) (by kernel_rfl) (fun _ _ _ h => h) (Or.inl ⟨by rfl, ?yf8⟩) (by assumption) ?rf8
          case yf8 => intro w' hSw; (try dsimp only at hSw); go_simp; try (with_reducible rfl)
          go_simp
          refine wpAnyH_take (i := 9) (v := ?vf9) rfl (by kernel_rfl) (by kernel_rfl) (by kernel_rfl) (fun _ _ _ h => h) (Or.inl ⟨by rfl, ?yf9⟩) (by assumption) ?rf9
          case yf9 => intro w' hSw; (try dsimp only at hSw); go_simp; try (with_reducible rfl)
          go_simp
          refine wpAnyH_ready (rs := [10]) (by kernel_rfl) (by simp) ?_
          refine AllReadyH.cons rfl (fun K hK => ?_) AllReadyH.nil
          go_simp
          go_at_call 46
          refine (rPlace_any y.op y.a _).mono ?_
          rw [hpl]
          rintro e w7 ⟨rfl, rfl⟩
          refine hK.out _ _ ?_ (fun hHeld => ?_)
          · (try dsimp only); exact HS _ (by first | exact below_on2 HN.out (by go_grown) | go_grown)
          clear hK K
          try go_simp
          refine wpAnyH_take (i := 11) (v := ?vf11) rfl (by kernel_rfl) (by kernel_rfl) (by kernel_rfl) (fun _ _ _ h => h) (Or.inl ⟨by rfl, ?yf11⟩) (by assumption) ?rf11
          case yf11 => intro w' hSw; (try dsimp only at hSw); go_simp; try (with_reducible rfl)
          go_simp
          refine wpAnyH_take (i := 12) (v := ?vf12) rfl (by kernel_rfl) (by kernel_rfl) (by kernel_rfl) (fun _ _ _ h => h) (Or.inl ⟨by rfl, ?yf12⟩) (by assumption) ?rf12
          case yf12 => intro w' hSw; (try dsimp only at hSw); go_simp; try (with_reducible rfl)
          go_simp
          refine wpAnyH_take (i := 13) (v := ?vf13) rfl (by kernel_rfl) (by kernel_rfl) (by kernel_rfl) (fun _ _ _ h => h) (Or.inl ⟨by first | rfl | (go_simp; done), ?yf13⟩) (by assumption) ?rf13
          case yf13 => intro w' hSw; (try dsimp only at hSw); go_simp; try (with_reducible rfl)
          go_simp
          refine wpAnyH_take (i := 14) (v := ?vf14) rfl (by kernel_rfl) (by kernel_rfl) (by kernel_rfl) (fun _ _ _ h => h) (Or.inl ⟨by first | rfl | (go_simp; done), ?yf14⟩) (by assumption) ?rf14
          case yf14 => intro w' hSw; (try dsimp only at hSw); go_simp; try (with_reducible rfl)
          go_simp
          refine wpAnyH_take (i := 15) (v := ?vf15) rfl (by kernel_rfl) (by kernel_rfl) (by kernel_rfl) (fun _ _ _ h => h) (Or.inl ⟨by first | rfl | (go_simp; done), ?yf15⟩) (by assumption) ?rf15
          case yf15 => intro w' hSw; (try dsimp only at hSw); go_simp; try (with_reducible rfl)
          go_simp
          refine wpAnyH_take (i := 16) (v := ?vf16) rfl (by kernel_rfl) (by kernel_rfl) (by kernel_rfl) (fun _ _ _ h => h) (Or.inl ⟨by first | rfl | (go_simp; done), ?yf16⟩) (by assumption) ?rf16
          case yf16 => intro w' hSw; (try dsimp only at hSw); go_simp; try (with_reducible rfl)
          go_simp
          refine wpAnyH_take (i := 17) (v := ?vf17) rfl (by kernel_rfl) (by kernel_rfl) (by kernel_rfl) (fun _ _ _ h => h) (Or.inl ⟨by first | rfl | (go_simp; done), ?yf17⟩) (by assumption) ?rf17
          case yf17 => intro w' hSw; (try dsimp only at hSw); go_simp; try (with_reducible rfl)
          go_simp
          refine wpAnyH_take (i := 18) (v := ?vf18) rfl (by kernel_rfl) (by kernel_rfl) (by kernel_rfl) (fun _ _ _ h => h) (Or.inl ⟨by first | rfl | (go_simp; done), ?yf18⟩) (by assumption) ?rf18
          case yf18 => intro w' hSw; (try dsimp only at hSw); go_simp; try (with_reducible rfl)
          go_simp
          refine wpAnyH_take (i := 19) (v := ?vf19) rfl (by kernel_rfl) (by kernel_rfl) (by kernel_rfl) (fun _ _ _ h => h) (Or.inl ⟨by rfl, ?yf19⟩) (by assumption) ?rf19
          case yf19 => intro w' hSw; (try dsimp only at hSw); go_simp; try (with_reducible rfl)
          go_simp
          refine wpAnyH_take (i := 20) (v := ?vf20) rfl (by kernel_rfl) (by kernel_rfl) (by kernel_rfl) (fun _ _ _ h => h) (Or.inl ⟨by rfl, ?yf20⟩) (by assumption) ?rf20
          case yf20 => intro w' hSw; (try dsimp only at hSw); go_simp; try (with_reducible rfl)
          go_simp
          refine wpAnyH_take (i := 21) (v := ?vf21) rfl (by kernel_rfl) (by kernel_rfl) (by kernel_rfl) (fun _ _ _ h => h) (Or.inl ⟨by first | rfl | (go_simp; done), ?yf21⟩) (by assumption) ?rf21
          case yf21 => intro w' hSw; (try dsimp only at hSw); go_simp; try (with_reducible rfl)
          go_simp
          refine wpAnyH_take (i := 22) (v := ?vf22) rfl (by kernel_rfl) (by kernel_rfl) (by kernel_rfl) (fun _ _ _ h => h) (Or.inl ⟨by first | rfl | (go_simp; done), ?yf22⟩) (by assumption) ?rf22
          case yf22 => intro w' hSw; (try dsimp only at hSw); go_simp; try (with_reducible rfl)
          go_simp
          refine wpAnyH_take (i := 23) (v := ?vf23) rfl (by kernel_rfl) (by kernel_rfl) (by kernel_rfl) (fun _ _ _ h => h) (Or.inl ⟨by first | rfl | (go_simp; done), ?yf23⟩) (by assumption) ?rf23
          case yf23 => intro w' hSw; (try dsimp only at hSw); go_simp; try (with_reducible rfl)
          go_simp
          refine wpAnyH_take (i := 24) (v := ?vf24) rfl (by kernel_rfl) (by kernel_rfl) (by kernel_rfl) (fun _ _ _ h => h) (Or.inl ⟨by first | rfl | (go_simp; done), ?yf24⟩) (by assumption) ?rf24
          case yf24 => intro w' hSw; (try dsimp only at hSw); go_simp; try (with_reducible rfl)
          go_simp
          refine wpAnyH_take (i := 25) (v := ?vf25) rfl (by kernel_rfl) (by kernel_rfl) (by kernel_rfl) (fun _ _ _ h => h) (Or.inl ⟨by first | rfl | (go_simp; done), ?yf25⟩) (by assumption) ?rf25
          case yf25 => intro w' hSw; (try dsimp only at hSw); go_simp; try (with_reducible rfl)
          go_simp
          refine wpAnyH_take (i := 26) (v := ?vf26) rfl (by kernel_rfl) (by kernel_rfl) (by kernel_rfl) (fun _ _ _ h => h) (Or.inl ⟨by first | rfl | (go_simp; done), ?yf26⟩) (by assumption) ?rf26
          case yf26 => intro w' hSw; (try dsimp only at hSw); go_simp; try (with_reducible rfl)
          go_simp
          refine wpAnyH_take (i := 27) (v := ?vf27) rfl (by kernel_rfl) (by kernel_rfl) (by kernel_rfl) (fun _ _ _ h => h) (Or.inl ⟨by rfl, ?yf27⟩) (by assumption) ?rf27
          case yf27 => intro w' hSw; (try dsimp only at hSw); go_simp; try (with_reducible rfl)
          go_simp
          refine wpAnyH_take (i := 28) (v := ?vf28) rfl (by kernel_rfl) (by kernel_rfl) (by kernel_rfl) (fun _ _ _ h => h) (Or.inl ⟨by rfl, ?yf28⟩) (by assumption) ?rf28
          case yf28 => intro w' hSw; (try dsimp only at hSw); go_simp; try (with_reducible rfl)
          go_simp
          refine wpAnyH_take (i := 29) (v := ?vf29) rfl (by kernel_rfl) (by kernel_rfl) (by kernel_rfl) (fun _ _ _ h => h) (Or.inl ⟨by first | rfl | (go_simp; done), ?yf29⟩) (by assumption) ?rf29
          case yf29 => intro w' hSw; (try dsimp only at hSw); go_simp; try (with_reducible rfl)
          go_simp
          refine wpAnyH_take (i := 30) (v := ?vf30) rfl (by kernel_rfl) (by kernel_rfl) (by kernel_rfl) (fun _ _ _ h => h) (Or.inl ⟨by first | rfl | (go_simp; done), ?yf30⟩) (by assumption) ?rf30
          case yf30 => intro w' hSw; (try dsimp only at hSw); go_simp; try (with_reducible rfl)
          go_simp
          refine wpAnyH_take (i := 31) (v := ?vf31) rfl (by kernel_rfl) (by kernel_rfl) (by kernel_rfl) (fun _ _ _ h => h) (Or.inl ⟨by first | rfl | (go_simp; done), ?yf31⟩) (by assumption) ?rf31
          case yf31 => intro w' hSw; (try dsimp only at hSw); go_simp; try (with_reducible rfl)
          go_simp
          refine wpAnyH_take (i := 32) (v := ?vf32) rfl (by kernel_rfl) (by kernel_rfl) (by kernel_rfl) (fun _ _ _ h => h) (Or.inl ⟨by first | rfl | (go_simp; done), ?yf32⟩) (by assumption) ?rf32
          case yf32 => intro w' hSw; (try dsimp only at hSw); go_simp; try (with_reducible rfl)
          go_simp
          refine wpAnyH_take (i := 33) (v := ?vf33) rfl (by kernel_rfl) (by kernel_rfl) (by kernel_rfl) (fun _ _ _ h => h) (Or.inl ⟨by first | rfl | (go_simp; done), ?yf33⟩) (by assumption) ?rf33
          case yf33 => intro w' hSw; (try dsimp only at hSw); go_simp; try (with_reducible rfl)
          go_simp
          refine wpAnyH_take (i := 34) (v := ?vf34) rfl (by kernel_rfl) (by kernel_rfl) (by kernel_rfl) (fun _ _ _ h => h) (Or.inl ⟨by first | rfl | (go_simp; done), ?yf34⟩) (by assumption) ?rf34
          case yf34 => intro w' hSw; (try dsimp only at hSw); go_simp; try (with_reducible rfl)
          go_simp
          refine wpAnyH_take (i := 35) (v := ?vf35) rfl (by kernel_rfl) (by kernel_rfl) (by kernel_rfl) (fun _ _ _ h => h) (Or.inl ⟨by first | rfl | (go_simp; done), ?yf35⟩) (by assumption) ?rf35
          case yf35 => intro w' hSw; (try dsimp only at hSw); go_simp; try (with_reducible rfl)
          go_simp
          refine wpAnyH_take (i := 36) (v := ?vf36) rfl (by kernel_rfl) (by kernel_rfl) (by kernel_rfl) (fun _ _ _ h => h) (Or.inl ⟨by first | rfl | (go_simp; done), ?yf36⟩) (by assumption) ?rf36
          case yf36 => intro w' hSw; (try dsimp only at hSw); go_simp; try (with_reducible rfl)
          go_simp
          refine wpAnyH_take (i := 37) (v := ?vf37) rfl (by kernel_rfl) (by kernel_rfl) (by kernel_rfl) (fun _ _ _ h => h) (Or.inl ⟨by first | rfl | (go_simp; done), ?yf37⟩) (by assumption) ?rf37
          case yf37 => intro w' hSw; (try dsimp only at hSw); go_simp; try (with_reducible rfl)
          go_simp
          refine wpAnyH_take (i := 38) (v := ?vf38) rfl (by kernel_rfl) (by kernel_rfl) (by kernel_rfl) (fun _ _ _ h => h) (Or.inl ⟨by first | rfl | (go_simp; done), ?yf38⟩) (by assumption) ?rf38
          case yf38 => intro w' hSw; (try dsimp only at hSw); go_simp; try (with_reducible rfl)
          go_simp
          refine wpAnyH_take (i := 39) (v := ?vf39) rfl (by kernel_rfl) (by kernel_rfl) (by kernel_rfl) (fun _ _ _ h => h) (Or.inl ⟨by first | rfl | (go_simp; done), ?yf39⟩) (by assumption) ?rf39
          case yf39 => intro w' hSw; (try dsimp only at hSw); go_simp; try (with_reducible rfl)
          go_simp
          refine wpAnyH_take (i := 40) (v := ?vf40) rfl (by kernel_rfl) (by kernel_rfl) (by kernel_rfl) (fun _ _ _ h => h) (Or.inl ⟨by first | rfl | (go_simp; done), ?yf40⟩) (by assumption) ?rf40
          case yf40 => intro w' hSw; (try dsimp only at hSw); go_simp; try (with_reducible rfl)
          go_simp
          refine wpAnyH_ready (rs := [41]) (by kernel_rfl) (by simp) ?_
          refine AllReadyH.cons rfl (fun K hK => ?_) AllReadyH.nil
          go_simp
          go_at_call 47
          refine (rBefore_any q y _).mono ?_
          rw [hbe]
          rintro e w7 ⟨rfl, hb⟩
          have HN := (show Hid (Below w1.heap.size w1 w7) from below_on HN.out (by go_grown) hb)
          clear hb
          refine hK.out _ _ ?_ (fun hHeld => ?_)
          · (try dsimp only); exact HS _ (by first | exact below_on2 HN.out (by go_grown) | go_grown)
          clear hK K
          try go_simp
          refine wpAnyH_take (i := 42) (v := ?vf42) rfl (by kernel_rfl) (by kernel_rfl) (by kernel_rfl) (fun _ _ _ h => h) (Or.inl ⟨by first | rfl | (go_simp; done), ?yf42⟩) (by assumption) ?rf42
          case yf42 => intro w' hSw; (try dsimp only at hSw); go_simp; try (with_reducible rfl)
          go_simp
          refine wpAnyH_take (i := 43) (v := ?vf43) rfl (by kernel_rfl) (by kernel_rfl) (by kernel_rfl) (fun _ _ _ h => h) (Or.inl ⟨by first | rfl | (go_simp; done), ?yf43⟩) (by assumption) ?rf43
          case yf43 => intro w' hSw; (try dsimp only at hSw); go_simp; try (with_reducible rfl)
          go_simp
          refine wpAnyH_take (i := 44) (v := ?vf44) rfl (by kernel_rfl) (by kernel_rfl) (by kernel_rfl) (fun _ _ _ h => h) (Or.inl ⟨by rfl, ?yf44⟩) (by assumption) ?rf44
          case yf44 => intro w' hSw; (try dsimp only at hSw); go_simp; try (with_reducible rfl)
          go_simp
          refine wpAnyH_done (by kernel_rfl) ?_ _
          go_wp2
          go_roundg (n - (j + 1 + 1))
          case measure => omega
          case rel =>
            refine ⟨j + 1 + 1, by omega, by omega, by go_num, (show Below _ _ _ from below_on HB.out HN.out (by go_grown)), (show Aside _ from fun i hi => ?_)⟩
            by_cases e : i = j + 1
            · subst e
              (rw [HY.out]; exact HG.out)
            · exact AA.out i (by omega)
    · have hltz : ¬ (kk : Int) < (n : Int) := by omega
      obtain rfl : kk = n := by omega
      go_wp2
      go_ret
      refine ⟨ret_bool ?_, BW.out⟩
      rw [rightP_true_all p (fun k hk => AA.out k (by rw [HL.out] at hk; exact hk)), HL.out]
      rw [Bool.eq_iff_iff]; simp; omega

end Go.Proofs.Ytoldjjgogdbalaa
