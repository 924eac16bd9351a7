/-
  Neighbourhoods: hood.Right and the reference's before and Right, walked.
-/
import Derived.Test.YtlmdjkmcplobnaaDoorKC2
import Derived.Test.YtlmdjkmcplobnaaDoorKC1
namespace Go.Proofs.YtlmdjkmcplobnaaDoor
open Go.RowKit
set_option linter.unusedSimpArgs false
set_option linter.unusedVariables false

def orderP (a b : Pt) : Int := if cmpI a.y b.y ≠ 0 then cmpI a.y b.y else cmpI a.x b.x
theorem orderP_lt (a b : Pt) : decide (0 ≤ orderP a b) = !beforeP a b := by
  have h1 := cmpI_cases a.y b.y
  have h2 := cmpI_cases a.x b.x
  rw [Bool.eq_iff_iff]
  simp [orderP, beforeP]
  split <;> omega
theorem hood_false_at (l : List Pt) (k : Nat) (hk : k < l.length) (h : ptOk (l.getD k default) = false ∨ (k ≠ 0 ∧ beforeP (l.getD (k - 1) default) (l.getD k default) = false)) : hoodOk l = false := by
  have : hoodPts l = false := decide_eq_false (fun hh => by
    have := hh k hk
    rcases h with h | ⟨h1, h2⟩
    · rw [h] at this; exact absurd this.1 (by simp)
    · rw [h2] at this; rcases this.2 with h | h
      · exact h1 h
      · exact absurd h (by simp))
  simp [hoodOk, this]
theorem hood_true_all (l : List Pt) (hl : 1 ≤ l.length ∧ l.length ≤ 25) (h : ∀ k, k < l.length → ptOk (l.getD k default) = true ∧ (k = 0 ∨ beforeP (l.getD (k - 1) default) (l.getD k default) = true)) : hoodOk l = true := by
  have : hoodPts l = true := decide_eq_true h
  simp [hoodOk, this, hl]
theorem hood_row {w : World} {B n : Nat} {A : Option Addr} {l : List Pt} (h : Rd w B 2 A n (hoodCells l)) {k : Nat} (hk : k < n) :
    ∃ ad, A = some ad ∧ ad.block < B ∧ w.cell? (ad.add (k * 2)) = some (.int .i64 (l.getD k default).x) ∧ w.cell? ⟨(ad.add (k * 2)).block, (ad.add (k * 2)).off + 1, none⟩ = some (.int .i64 (l.getD k default).y) := by
  have hl : l.length = n := by have := h.1; rw [hoodCells, flat2_length _ (fun _ => rfl)] at this; omega
  obtain ⟨h0, h1⟩ := flat2_get ptCells (fun _ => rfl) l k (by omega)
  exact h.row2 hk h0 h1

set_option maxRecDepth 100000 in
set_option maxHeartbeats 2000000 in
theorem hoodRight_any (l : List Pt) (A : Option Addr) (n c : Nat) (w : World) (h : Rd w w.heap.size 2 A n (hoodCells l)) (hm : n ≤ maxLen) :
    Calls Tryd.prog 24 #[.slice A n c] w fun e w' => e = .returned (.bool (hoodOk l)) ∧ Below w.heap.size w w' := by
  unfold maxLen at hm
  have H : Hid (Rd w w.heap.size 2 A n (hoodCells l)) := h
  have HL : Hid (l.length = n) := by have := h.1; rw [hoodCells, flat2_length _ (fun _ => rfl)] at this; show _ = _; omega
  clear h
  by_cases hbig : n < 1 ∨ 25 < n
  · have hr : hoodOk l = false := by unfold hoodOk; rw [decide_eq_false (by rw [HL.out]; omega)]; rfl
    rw [hr]
    rcases hbig with hbig | hbig
    · obtain rfl : n = 0 := by omega
      go_enter Tryd.func24, Tryd.ntmps24
      go_wp2
      go_ret
      exact ⟨rfl, Below.refl _ _⟩
    · have hbig' : ¬ n < 1 := by omega
      go_enter Tryd.func24, Tryd.ntmps24
      go_wp2
      go_ret
      exact ⟨rfl, Below.refl _ _⟩
  have hn1 : ¬ n < 1 := by omega
  have hn2 : ¬ 25 < n := by omega
  have HN25 : Hid (1 ≤ n ∧ n ≤ 25) := ⟨by omega, by omega⟩
  clear hbig
  go_enter Tryd.func24, Tryd.ntmps24
  go_wp2
  clear hn1 hn2
  go_loopg [3, 15] n (fun gg _ s15 wr => ∃ kk : Nat, kk ≤ n ∧ n - kk ≤ gg ∧ s15 = .int .i64 kk ∧ Aside (Below w.heap.size w wr) ∧ Aside (∀ j, j < kk → ptOk (l.getD j default) = true ∧ (j = 0 ∨ beforeP (l.getD (j - 1) default) (l.getD j default) = true)))
  case atStart => exact ⟨0, Nat.zero_le _, by omega, rfl, Below.refl _ _, fun j hj => absurd hj (Nat.not_lt_zero _)⟩
  case round =>
    obtain ⟨kk, hkk, hg, rfl, BW, AA⟩ := hrel
    have hn25 := HN25.out.2
    by_cases hlt : kk < n
    · have hltz : (kk : Int) < (n : Int) := by omega
      obtain ⟨ad, rfl, hb, g0, g1⟩ := hood_row (H.out.up BW.out) hlt
      generalize hy : l.getD kk default = y at g0 g1
      have HY : Hid (l.getD kk default = y) := hy
      clear hy
      go_wp2_with fail
      have RA : Hid (Row (World.alloc wr _) wr.heap.size 70 [.int .i64 y.x, .int .i64 y.y]) := Row.new wr 70 [.int .i64 y.x, .int .i64 y.y]
      have HB : Hid (Below w.heap.size w (World.alloc wr (.cells #[.int .i64 y.x, .int .i64 y.y] 70))) := below_on2 BW.out (by go_grown)
      have HW : Hid (Below wr.heap.size wr (World.alloc wr (.cells #[.int .i64 y.x, .int .i64 y.y] 70))) := by show Below _ _ _; go_grown
      revert RA HB HW
      generalize World.alloc wr (.cells #[.int .i64 y.x, .int .i64 y.y] 70) = w1
      intro RA HB HW
      have hu : undef = Value.tuple #[] := rfl
      have HS : ∀ w', Below w1.heap.size w1 w' → w'.cell? ⟨wr.heap.size, 0, none⟩ = some (.int .i64 y.x) ∧ w'.cell? ⟨wr.heap.size, 1, none⟩ = some (.int .i64 y.y) := fun w' hw => ⟨(rowCells RA.out hw).cell 0, (rowCells RA.out hw).cell 1⟩
      have HN : Hid (Below w1.heap.size w1 w1) := Below.refl _ _
      have hfalse : Hid (ptOk y = false → hoodOk l = false) := fun he => hood_false_at l kk (by rw [HL.out]; exact hlt) (.inl (by rw [HY.out]; exact he))
      have hbox : wr.heap.size < w1.heap.size := RA.out.lt
      by_cases hs0 : y.x < -2
      · have HF : Hid (hoodOk l = false) := hfalse.out (decide_eq_false (by unfold radius; omega))
        have hd0 : decide (y.x < -2) = true := by simpa using hs0
        clear RA
        refine wp_region_held_drew (S := fun w' => w'.cell? ⟨wr.heap.size, 0, none⟩ = some (.int .i64 y.x) ∧ w'.cell? ⟨wr.heap.size, 1, none⟩ = some (.int .i64 y.y)) (by kernel_rfl) (by (try dsimp only); exact HS _ (by first | exact below_on2 HN.out (by go_grown) | go_grown)) (fun hHeld => ?_)
        refine wpAnyH_take (i := 0) (v := ?va0) rfl (by kernel_rfl) (by kernel_rfl) (by kernel_rfl) (fun _ _ _ h => h) (Or.inl ⟨by rfl, ?ya0⟩) (by assumption) ?ra0
        case ya0 => intro w' hSw; (try dsimp only at hSw); go_simp; try (with_reducible rfl)
        go_simp
        refine wpAnyH_take (i := 1) (v := ?va1) rfl (by kernel_rfl) (by kernel_rfl) (by kernel_rfl) (fun _ _ _ h => h) (Or.inl ⟨by rfl, ?ya1⟩) (by assumption) ?ra1
        case ya1 => intro w' hSw; (try dsimp only at hSw); go_simp; try (with_reducible rfl)
        go_simp
        refine wpAnyH_take (i := 2) (v := ?va2) rfl (by kernel_rfl) (by kernel_rfl) (by kernel_rfl) (fun _ _ _ h => h) (Or.inl ⟨by rfl, ?ya2⟩) (by assumption) ?ra2
        case ya2 => intro w' hSw; (try dsimp only at hSw); go_simp; try (with_reducible rfl)
        go_simp
        refine wpAnyH_take (i := 3) (v := ?va3) rfl (by kernel_rfl) (by kernel_rfl) (by kernel_rfl) (fun _ _ _ h => h) (Or.inl ⟨by rfl, ?ya3⟩) (by assumption) ?ra3
        case ya3 => intro w' hSw; (try dsimp only at hSw); go_simp; try (with_reducible rfl)
        go_simp
        refine wpAnyH_take (i := 4) (v := undef) rfl (by kernel_rfl) (by kernel_rfl) (by kernel_rfl) (fun _ _ _ h => h) (Or.inr ⟨by go_simp, rfl⟩) (by assumption) ?_
        go_simp
        refine wpAnyH_take (i := 5) (v := undef) rfl (by kernel_rfl) (by kernel_rfl) (by kernel_rfl) (fun _ _ _ h => h) (Or.inr ⟨by go_simp, rfl⟩) (by assumption) ?_
        go_simp
        refine wpAnyH_take (i := 6) (v := undef) rfl (by kernel_rfl) (by kernel_rfl) (by kernel_rfl) (fun _ _ _ h => h) (Or.inr ⟨by go_simp, rfl⟩) (by assumption) ?_
        go_simp
        refine wpAnyH_take (i := 7) (v := ?va7) rfl (by kernel_rfl) (by kernel_rfl) (by kernel_rfl) (fun _ _ _ h => h) (Or.inl ⟨by rfl, ?ya7⟩) (by assumption) ?ra7
        case ya7 => intro w' hSw; (try dsimp only at hSw); go_simp; try (with_reducible rfl)
        go_simp
        refine wpAnyH_take (i := 8) (v := ?va8) rfl (by kernel_rfl) (by kernel_rfl) (by kernel_rfl) (fun _ _ _ h => h) (Or.inl ⟨by rfl, ?ya8⟩) (by assumption) ?ra8
        case ya8 => intro w' hSw; (try dsimp only at hSw); go_simp; try (with_reducible rfl)
        go_simp
        refine wpAnyH_take (i := 9) (v := undef) rfl (by kernel_rfl) (by kernel_rfl) (by kernel_rfl) (fun _ _ _ h => h) (Or.inr ⟨by go_simp, rfl⟩) (by assumption) ?_
        go_simp
        refine wpAnyH_take (i := 10) (v := undef) rfl (by kernel_rfl) (by kernel_rfl) (by kernel_rfl) (fun _ _ _ h => h) (Or.inr ⟨by go_simp, rfl⟩) (by assumption) ?_
        go_simp
        refine wpAnyH_take (i := 11) (v := undef) rfl (by kernel_rfl) (by kernel_rfl) (by kernel_rfl) (fun _ _ _ h => h) (Or.inr ⟨by go_simp, rfl⟩) (by assumption) ?_
        go_simp
        refine wpAnyH_take (i := 12) (v := ?va12) rfl (by kernel_rfl) (by kernel_rfl) (by kernel_rfl) (fun _ _ _ h => h) (Or.inl ⟨by rfl, ?ya12⟩) (by assumption) ?ra12
        case ya12 => intro w' hSw; (try dsimp only at hSw); go_simp; try (with_reducible rfl)
        go_simp
        refine wpAnyH_take (i := 13) (v := ?va13) rfl (by kernel_rfl) (by kernel_rfl) (by kernel_rfl) (fun _ _ _ h => h) (Or.inl ⟨by rfl, ?ya13⟩) (by assumption) ?ra13
        case ya13 => intro w' hSw; (try dsimp only at hSw); go_simp; try (with_reducible rfl)
        go_simp
        refine wpAnyH_take (i := 14) (v := undef) rfl (by kernel_rfl) (by kernel_rfl) (by kernel_rfl) (fun _ _ _ h => h) (Or.inr ⟨by go_simp, rfl⟩) (by assumption) ?_
        go_simp
        refine wpAnyH_take (i := 15) (v := undef) rfl (by kernel_rfl) (by kernel_rfl) (by kernel_rfl) (fun _ _ _ h => h) (Or.inr ⟨by go_simp, rfl⟩) (by assumption) ?_
        go_simp
        refine wpAnyH_take (i := 16) (v := undef) rfl (by kernel_rfl) (by kernel_rfl) (by kernel_rfl) (fun _ _ _ h => h) (Or.inr ⟨by go_simp, rfl⟩) (by assumption) ?_
        go_simp
        refine wpAnyH_take (i := 17) (v := ?va17) rfl (by kernel_rfl) (by kernel_rfl) (by kernel_rfl) (fun _ _ _ h => h) (Or.inl ⟨by rfl, ?ya17⟩) (by assumption) ?ra17
        case ya17 => intro w' hSw; (try dsimp only at hSw); go_simp; try (with_reducible rfl)
        go_simp
        refine wpAnyH_take (i := 18) (v := ?va18) rfl (by kernel_rfl) (by kernel_rfl) (by kernel_rfl) (fun _ _ _ h => h) (Or.inl ⟨by rfl, ?ya18⟩) (by assumption) ?ra18
        case ya18 => intro w' hSw; (try dsimp only at hSw); go_simp; try (with_reducible rfl)
        go_simp
        refine wpAnyH_take (i := 19) (v := undef) rfl (by kernel_rfl) (by kernel_rfl) (by kernel_rfl) (fun _ _ _ h => h) (Or.inr ⟨by go_simp, rfl⟩) (by assumption) ?_
        go_simp
        refine wpAnyH_take (i := 20) (v := undef) rfl (by kernel_rfl) (by kernel_rfl) (by kernel_rfl) (fun _ _ _ h => h) (Or.inr ⟨by go_simp, rfl⟩) (by assumption) ?_
        go_simp
        refine wpAnyH_take (i := 21) (v := undef) rfl (by kernel_rfl) (by kernel_rfl) (by kernel_rfl) (fun _ _ _ h => h) (Or.inr ⟨by go_simp, rfl⟩) (by assumption) ?_
        go_simp
        refine wpAnyH_take (i := 22) (v := undef) rfl (by kernel_rfl) (by kernel_rfl) (by kernel_rfl) (fun _ _ _ h => h) (Or.inr ⟨by go_simp, rfl⟩) (by assumption) ?_
        go_simp
        refine wpAnyH_take (i := 23) (v := undef) rfl (by kernel_rfl) (by kernel_rfl) (by kernel_rfl) (fun _ _ _ h => h) (Or.inr ⟨by go_simp, rfl⟩) (by assumption) ?_
        go_simp
        refine wpAnyH_take (i := 24) (v := undef) rfl (by kernel_rfl) (by kernel_rfl) (by kernel_rfl) (fun _ _ _ h => h) (Or.inr ⟨by go_simp, rfl⟩) (by assumption) ?_
        go_simp
        refine wpAnyH_take (i := 25) (v := undef) rfl (by kernel_rfl) (by kernel_rfl) (by kernel_rfl) (fun _ _ _ h => h) (Or.inr ⟨by go_simp, rfl⟩) (by assumption) ?_
        go_simp
        refine wpAnyH_take (i := 26) (v := undef) rfl (by kernel_rfl) (by kernel_rfl) (by kernel_rfl) (fun _ _ _ h => h) (Or.inr ⟨by go_simp, rfl⟩) (by assumption) ?_
        go_simp
        refine wpAnyH_take (i := 27) (v := undef) rfl (by kernel_rfl) (by kernel_rfl) (by kernel_rfl) (fun _ _ _ h => h) (Or.inr ⟨by go_simp, rfl⟩) (by assumption) ?_
        go_simp
        refine wpAnyH_take (i := 28) (v := undef) rfl (by kernel_rfl) (by kernel_rfl) (by kernel_rfl) (fun _ _ _ h => h) (Or.inr ⟨by go_simp, rfl⟩) (by assumption) ?_
        go_simp
        refine wpAnyH_take (i := 29) (v := undef) rfl (by kernel_rfl) (by kernel_rfl) (by kernel_rfl) (fun _ _ _ h => h) (Or.inr ⟨by go_simp, rfl⟩) (by assumption) ?_
        go_simp
        refine wpAnyH_take (i := 30) (v := undef) rfl (by kernel_rfl) (by kernel_rfl) (by kernel_rfl) (fun _ _ _ h => h) (Or.inr ⟨by go_simp, rfl⟩) (by assumption) ?_
        go_simp
        refine wpAnyH_take (i := 31) (v := ?va31) rfl (by kernel_rfl) (by kernel_rfl) (by kernel_rfl) (fun _ _ _ h => h) (Or.inl ⟨by rfl, ?ya31⟩) (by assumption) ?ra31
        case ya31 => intro w' hSw; (try dsimp only at hSw); go_simp; try (with_reducible rfl)
        go_simp
        refine wpAnyH_done (by kernel_rfl) ?_ _
        go_wp2
        go_ret
        exact ⟨ret_bool HF.out.symm, below_on HB.out HN.out (by go_grown)⟩
      have hd0 : decide (y.x < -2) = false := by simpa using hs0
      by_cases hs1 : 2 < y.x
      · have HF : Hid (hoodOk l = false) := hfalse.out (decide_eq_false (by unfold radius; omega))
        have hd1 : decide (2 < y.x) = true := by simpa using hs1
        clear RA
        refine wp_region_held_drew (S := fun w' => w'.cell? ⟨wr.heap.size, 0, none⟩ = some (.int .i64 y.x) ∧ w'.cell? ⟨wr.heap.size, 1, none⟩ = some (.int .i64 y.y)) (by kernel_rfl) (by (try dsimp only); exact HS _ (by first | exact below_on2 HN.out (by go_grown) | go_grown)) (fun hHeld => ?_)
        refine wpAnyH_take (i := 0) (v := ?vb0) rfl (by kernel_rfl) (by kernel_rfl) (by kernel_rfl) (fun _ _ _ h => h) (Or.inl ⟨by rfl, ?yb0⟩) (by assumption) ?rb0
        case yb0 => intro w' hSw; (try dsimp only at hSw); go_simp; try (with_reducible rfl)
        go_simp
        refine wpAnyH_take (i := 1) (v := ?vb1) rfl (by kernel_rfl) (by kernel_rfl) (by kernel_rfl) (fun _ _ _ h => h) (Or.inl ⟨by rfl, ?yb1⟩) (by assumption) ?rb1
        case yb1 => intro w' hSw; (try dsimp only at hSw); go_simp; try (with_reducible rfl)
        go_simp
        refine wpAnyH_take (i := 2) (v := ?vb2) rfl (by kernel_rfl) (by kernel_rfl) (by kernel_rfl) (fun _ _ _ h => h) (Or.inl ⟨by rfl, ?yb2⟩) (by assumption) ?rb2
        case yb2 => intro w' hSw; (try dsimp only at hSw); go_simp; try (with_reducible rfl)
        go_simp
        refine wpAnyH_take (i := 3) (v := ?vb3) rfl (by kernel_rfl) (by kernel_rfl) (by kernel_rfl) (fun _ _ _ h => h) (Or.inl ⟨by rfl, ?yb3⟩) (by assumption) ?rb3
        case yb3 => intro w' hSw; (try dsimp only at hSw); go_simp; try (with_reducible rfl)
        go_simp
        refine wpAnyH_take (i := 4) (v := ?vb4) rfl (by kernel_rfl) (by kernel_rfl) (by kernel_rfl) (fun _ _ _ h => h) (Or.inl ⟨by first | rfl | (go_simp; done), ?yb4⟩) (by assumption) ?rb4
        case yb4 => intro w' hSw; (try dsimp only at hSw); go_simp; try (with_reducible rfl)
        go_simp
        refine wpAnyH_take (i := 5) (v := ?vb5) rfl (by kernel_rfl) (by kernel_rfl) (by kernel_rfl) (fun _ _ _ h => h) (Or.inl ⟨by first | rfl | (go_simp; done), ?yb5⟩) (by assumption) ?rb5
        case yb5 => intro w' hSw; (try dsimp only at hSw); go_simp; try (with_reducible rfl)
        go_simp
        refine wpAnyH_take (i := 6) (v := ?vb6) rfl (by kernel_rfl) (by kernel_rfl) (by kernel_rfl) (fun _ _ _ h => h) (Or.inl ⟨by first | rfl | (go_simp; done), ?yb6⟩) (by assumption) ?rb6
        case yb6 => intro w' hSw; (try dsimp only at hSw); go_simp; try (with_reducible rfl)
        go_simp
        refine wpAnyH_take (i := 7) (v := ?vb7) rfl (by kernel_rfl) (by kernel_rfl) (by kernel_rfl) (fun _ _ _ h => h) (Or.inl ⟨by rfl, ?yb7⟩) (by assumption) ?rb7
        case yb7 => intro w' hSw; (try dsimp only at hSw); go_simp; try (with_reducible rfl)
        go_simp
        refine wpAnyH_take (i := 8) (v := ?vb8) rfl (by kernel_rfl) (by kernel_rfl) (by kernel_rfl) (fun _ _ _ h => h) (Or.inl ⟨by rfl, ?yb8⟩) (by assumption) ?rb8
        case yb8 => intro w' hSw; (try dsimp only at hSw); go_simp; try (with_reducible rfl)
        go_simp
        refine wpAnyH_take (i := 9) (v := undef) rfl (by kernel_rfl) (by kernel_rfl) (by kernel_rfl) (fun _ _ _ h => h) (Or.inr ⟨by go_simp, rfl⟩) (by assumption) ?_
        go_simp
        refine wpAnyH_take (i := 10) (v := undef) rfl (by kernel_rfl) (by kernel_rfl) (by kernel_rfl) (fun _ _ _ h => h) (Or.inr ⟨by go_simp, rfl⟩) (by assumption) ?_
        go_simp
        refine wpAnyH_take (i := 11) (v := undef) rfl (by kernel_rfl) (by kernel_rfl) (by kernel_rfl) (fun _ _ _ h => h) (Or.inr ⟨by go_simp, rfl⟩) (by assumption) ?_
        go_simp
        refine wpAnyH_take (i := 12) (v := ?vb12) rfl (by kernel_rfl) (by kernel_rfl) (by kernel_rfl) (fun _ _ _ h => h) (Or.inl ⟨by rfl, ?yb12⟩) (by assumption) ?rb12
        case yb12 => intro w' hSw; (try dsimp only at hSw); go_simp; try (with_reducible rfl)
        go_simp
        refine wpAnyH_take (i := 13) (v := ?vb13) rfl (by kernel_rfl) (by kernel_rfl) (by kernel_rfl) (fun _ _ _ h => h) (Or.inl ⟨by rfl, ?yb13⟩) (by assumption) ?rb13
        case yb13 => intro w' hSw; (try dsimp only at hSw); go_simp; try (with_reducible rfl)
        go_simp
        refine wpAnyH_take (i := 14) (v := undef) rfl (by kernel_rfl) (by kernel_rfl) (by kernel_rfl) (fun _ _ _ h => h) (Or.inr ⟨by go_simp, rfl⟩) (by assumption) ?_
        go_simp
        refine wpAnyH_take (i := 15) (v := undef) rfl (by kernel_rfl) (by kernel_rfl) (by kernel_rfl) (fun _ _ _ h => h) (Or.inr ⟨by go_simp, rfl⟩) (by assumption) ?_
        go_simp
        refine wpAnyH_take (i := 16) (v := undef) rfl (by kernel_rfl) (by kernel_rfl) (by kernel_rfl) (fun _ _ _ h => h) (Or.inr ⟨by go_simp, rfl⟩) (by assumption) ?_
        go_simp
        refine wpAnyH_take (i := 17) (v := ?vb17) rfl (by kernel_rfl) (by kernel_rfl) (by kernel_rfl) (fun _ _ _ h => h) (Or.inl ⟨by rfl, ?yb17⟩) (by assumption) ?rb17
        case yb17 => intro w' hSw; (try dsimp only at hSw); go_simp; try (with_reducible rfl)
        go_simp
        refine wpAnyH_take (i := 18) (v := ?vb18) rfl (by kernel_rfl) (by kernel_rfl) (by kernel_rfl) (fun _ _ _ h => h) (Or.inl ⟨by rfl, ?yb18⟩) (by assumption) ?rb18
        case yb18 => intro w' hSw; (try dsimp only at hSw); go_simp; try (with_reducible rfl)
        go_simp
        refine wpAnyH_take (i := 19) (v := undef) rfl (by kernel_rfl) (by kernel_rfl) (by kernel_rfl) (fun _ _ _ h => h) (Or.inr ⟨by go_simp, rfl⟩) (by assumption) ?_
        go_simp
        refine wpAnyH_take (i := 20) (v := undef) rfl (by kernel_rfl) (by kernel_rfl) (by kernel_rfl) (fun _ _ _ h => h) (Or.inr ⟨by go_simp, rfl⟩) (by assumption) ?_
        go_simp
        refine wpAnyH_take (i := 21) (v := undef) rfl (by kernel_rfl) (by kernel_rfl) (by kernel_rfl) (fun _ _ _ h => h) (Or.inr ⟨by go_simp, rfl⟩) (by assumption) ?_
        go_simp
        refine wpAnyH_take (i := 22) (v := undef) rfl (by kernel_rfl) (by kernel_rfl) (by kernel_rfl) (fun _ _ _ h => h) (Or.inr ⟨by go_simp, rfl⟩) (by assumption) ?_
        go_simp
        refine wpAnyH_take (i := 23) (v := undef) rfl (by kernel_rfl) (by kernel_rfl) (by kernel_rfl) (fun _ _ _ h => h) (Or.inr ⟨by go_simp, rfl⟩) (by assumption) ?_
        go_simp
        refine wpAnyH_take (i := 24) (v := undef) rfl (by kernel_rfl) (by kernel_rfl) (by kernel_rfl) (fun _ _ _ h => h) (Or.inr ⟨by go_simp, rfl⟩) (by assumption) ?_
        go_simp
        refine wpAnyH_take (i := 25) (v := undef) rfl (by kernel_rfl) (by kernel_rfl) (by kernel_rfl) (fun _ _ _ h => h) (Or.inr ⟨by go_simp, rfl⟩) (by assumption) ?_
        go_simp
        refine wpAnyH_take (i := 26) (v := undef) rfl (by kernel_rfl) (by kernel_rfl) (by kernel_rfl) (fun _ _ _ h => h) (Or.inr ⟨by go_simp, rfl⟩) (by assumption) ?_
        go_simp
        refine wpAnyH_take (i := 27) (v := undef) rfl (by kernel_rfl) (by kernel_rfl) (by kernel_rfl) (fun _ _ _ h => h) (Or.inr ⟨by go_simp, rfl⟩) (by assumption) ?_
        go_simp
        refine wpAnyH_take (i := 28) (v := undef) rfl (by kernel_rfl) (by kernel_rfl) (by kernel_rfl) (fun _ _ _ h => h) (Or.inr ⟨by go_simp, rfl⟩) (by assumption) ?_
        go_simp
        refine wpAnyH_take (i := 29) (v := undef) rfl (by kernel_rfl) (by kernel_rfl) (by kernel_rfl) (fun _ _ _ h => h) (Or.inr ⟨by go_simp, rfl⟩) (by assumption) ?_
        go_simp
        refine wpAnyH_take (i := 30) (v := undef) rfl (by kernel_rfl) (by kernel_rfl) (by kernel_rfl) (fun _ _ _ h => h) (Or.inr ⟨by go_simp, rfl⟩) (by assumption) ?_
        go_simp
        refine wpAnyH_take (i := 31) (v := ?vb31) rfl (by kernel_rfl) (by kernel_rfl) (by kernel_rfl) (fun _ _ _ h => h) (Or.inl ⟨by rfl, ?yb31⟩) (by assumption) ?rb31
        case yb31 => intro w' hSw; (try dsimp only at hSw); go_simp; try (with_reducible rfl)
        go_simp
        refine wpAnyH_done (by kernel_rfl) ?_ _
        go_wp2
        go_ret
        exact ⟨ret_bool HF.out.symm, below_on HB.out HN.out (by go_grown)⟩
      have hd1 : decide (2 < y.x) = false := by simpa using hs1
      by_cases hs2 : y.y < -2
      · have HF : Hid (hoodOk l = false) := hfalse.out (decide_eq_false (by unfold radius; omega))
        have hd2 : decide (y.y < -2) = true := by simpa using hs2
        clear RA
        refine wp_region_held_drew (S := fun w' => w'.cell? ⟨wr.heap.size, 0, none⟩ = some (.int .i64 y.x) ∧ w'.cell? ⟨wr.heap.size, 1, none⟩ = some (.int .i64 y.y)) (by kernel_rfl) (by (try dsimp only); exact HS _ (by first | exact below_on2 HN.out (by go_grown) | go_grown)) (fun hHeld => ?_)
        refine wpAnyH_take (i := 0) (v := ?vc0) rfl (by kernel_rfl) (by kernel_rfl) (by kernel_rfl) (fun _ _ _ h => h) (Or.inl ⟨by rfl, ?yc0⟩) (by assumption) ?rc0
        case yc0 => intro w' hSw; (try dsimp only at hSw); go_simp; try (with_reducible rfl)
        go_simp
        refine wpAnyH_take (i := 1) (v := ?vc1) rfl (by kernel_rfl) (by kernel_rfl) (by kernel_rfl) (fun _ _ _ h => h) (Or.inl ⟨by rfl, ?yc1⟩) (by assumption) ?rc1
        case yc1 => intro w' hSw; (try dsimp only at hSw); go_simp; try (with_reducible rfl)
        go_simp
        refine wpAnyH_take (i := 2) (v := ?vc2) rfl (by kernel_rfl) (by kernel_rfl) (by kernel_rfl) (fun _ _ _ h => h) (Or.inl ⟨by rfl, ?yc2⟩) (by assumption) ?rc2
        case yc2 => intro w' hSw; (try dsimp only at hSw); go_simp; try (with_reducible rfl)
        go_simp
        refine wpAnyH_take (i := 3) (v := ?vc3) rfl (by kernel_rfl) (by kernel_rfl) (by kernel_rfl) (fun _ _ _ h => h) (Or.inl ⟨by rfl, ?yc3⟩) (by assumption) ?rc3
        case yc3 => intro w' hSw; (try dsimp only at hSw); go_simp; try (with_reducible rfl)
        go_simp
        refine wpAnyH_take (i := 4) (v := ?vc4) rfl (by kernel_rfl) (by kernel_rfl) (by kernel_rfl) (fun _ _ _ h => h) (Or.inl ⟨by first | rfl | (go_simp; done), ?yc4⟩) (by assumption) ?rc4
        case yc4 => intro w' hSw; (try dsimp only at hSw); go_simp; try (with_reducible rfl)
        go_simp
        refine wpAnyH_take (i := 5) (v := ?vc5) rfl (by kernel_rfl) (by kernel_rfl) (by kernel_rfl) (fun _ _ _ h => h) (Or.inl ⟨by first | rfl | (go_simp; done), ?yc5⟩) (by assumption) ?rc5
        case yc5 => intro w' hSw; (try dsimp only at hSw); go_simp; try (with_reducible rfl)
        go_simp
        refine wpAnyH_take (i := 6) (v := ?vc6) rfl (by kernel_rfl) (by kernel_rfl) (by kernel_rfl) (fun _ _ _ h => h) (Or.inl ⟨by first | rfl | (go_simp; done), ?yc6⟩) (by assumption) ?rc6
        case yc6 => intro w' hSw; (try dsimp only at hSw); go_simp; try (with_reducible rfl)
        go_simp
        refine wpAnyH_take (i := 7) (v := ?vc7) rfl (by kernel_rfl) (by kernel_rfl) (by kernel_rfl) (fun _ _ _ h => h) (Or.inl ⟨by rfl, ?yc7⟩) (by assumption) ?rc7
        case yc7 => intro w' hSw; (try dsimp only at hSw); go_simp; try (with_reducible rfl)
        go_simp
        refine wpAnyH_take (i := 8) (v := ?vc8) rfl (by kernel_rfl) (by kernel_rfl) (by kernel_rfl) (fun _ _ _ h => h) (Or.inl ⟨by rfl, ?yc8⟩) (by assumption) ?rc8
        case yc8 => intro w' hSw; (try dsimp only at hSw); go_simp; try (with_reducible rfl)
        go_simp
        refine wpAnyH_take (i := 9) (v := ?vc9) rfl (by kernel_rfl) (by kernel_rfl) (by kernel_rfl) (fun _ _ _ h => h) (Or.inl ⟨by first | rfl | (go_simp; done), ?yc9⟩) (by assumption) ?rc9
        case yc9 => intro w' hSw; (try dsimp only at hSw); go_simp; try (with_reducible rfl)
        go_simp
        refine wpAnyH_take (i := 10) (v := ?vc10) rfl (by kernel_rfl) (by kernel_rfl) (by kernel_rfl) (fun _ _ _ h => h) (Or.inl ⟨by first | rfl | (go_simp; done), ?yc10⟩) (by assumption) ?rc10
        case yc10 => intro w' hSw; (try dsimp only at hSw); go_simp; try (with_reducible rfl)
        go_simp
        refine wpAnyH_take (i := 11) (v := ?vc11) rfl (by kernel_rfl) (by kernel_rfl) (by kernel_rfl) (fun _ _ _ h => h) (Or.inl ⟨by first | rfl | (go_simp; done), ?yc11⟩) (by assumption) ?rc11
        case yc11 => intro w' hSw; (try dsimp only at hSw); go_simp; try (with_reducible rfl)
        go_simp
        refine wpAnyH_take (i := 12) (v := ?vc12) rfl (by kernel_rfl) (by kernel_rfl) (by kernel_rfl) (fun _ _ _ h => h) (Or.inl ⟨by rfl, ?yc12⟩) (by assumption) ?rc12
        case yc12 => intro w' hSw; (try dsimp only at hSw); go_simp; try (with_reducible rfl)
        go_simp
        refine wpAnyH_take (i := 13) (v := ?vc13) rfl (by kernel_rfl) (by kernel_rfl) (by kernel_rfl) (fun _ _ _ h => h) (Or.inl ⟨by rfl, ?yc13⟩) (by assumption) ?rc13
        case yc13 => intro w' hSw; (try dsimp only at hSw); go_simp; try (with_reducible rfl)
        go_simp
        refine wpAnyH_take (i := 14) (v := undef) rfl (by kernel_rfl) (by kernel_rfl) (by kernel_rfl) (fun _ _ _ h => h) (Or.inr ⟨by go_simp, rfl⟩) (by assumption) ?_
        go_simp
        refine wpAnyH_take (i := 15) (v := undef) rfl (by kernel_rfl) (by kernel_rfl) (by kernel_rfl) (fun _ _ _ h => h) (Or.inr ⟨by go_simp, rfl⟩) (by assumption) ?_
        go_simp
        refine wpAnyH_take (i := 16) (v := undef) rfl (by kernel_rfl) (by kernel_rfl) (by kernel_rfl) (fun _ _ _ h => h) (Or.inr ⟨by go_simp, rfl⟩) (by assumption) ?_
        go_simp
        refine wpAnyH_take (i := 17) (v := ?vc17) rfl (by kernel_rfl) (by kernel_rfl) (by kernel_rfl) (fun _ _ _ h => h) (Or.inl ⟨by rfl, ?yc17⟩) (by assumption) ?rc17
        case yc17 => intro w' hSw; (try dsimp only at hSw); go_simp; try (with_reducible rfl)
        go_simp
        refine wpAnyH_take (i := 18) (v := ?vc18) rfl (by kernel_rfl) (by kernel_rfl) (by kernel_rfl) (fun _ _ _ h => h) (Or.inl ⟨by rfl, ?yc18⟩) (by assumption) ?rc18
        case yc18 => intro w' hSw; (try dsimp only at hSw); go_simp; try (with_reducible rfl)
        go_simp
        refine wpAnyH_take (i := 19) (v := undef) rfl (by kernel_rfl) (by kernel_rfl) (by kernel_rfl) (fun _ _ _ h => h) (Or.inr ⟨by go_simp, rfl⟩) (by assumption) ?_
        go_simp
        refine wpAnyH_take (i := 20) (v := undef) rfl (by kernel_rfl) (by kernel_rfl) (by kernel_rfl) (fun _ _ _ h => h) (Or.inr ⟨by go_simp, rfl⟩) (by assumption) ?_
        go_simp
        refine wpAnyH_take (i := 21) (v := undef) rfl (by kernel_rfl) (by kernel_rfl) (by kernel_rfl) (fun _ _ _ h => h) (Or.inr ⟨by go_simp, rfl⟩) (by assumption) ?_
        go_simp
        refine wpAnyH_take (i := 22) (v := undef) rfl (by kernel_rfl) (by kernel_rfl) (by kernel_rfl) (fun _ _ _ h => h) (Or.inr ⟨by go_simp, rfl⟩) (by assumption) ?_
        go_simp
        refine wpAnyH_take (i := 23) (v := undef) rfl (by kernel_rfl) (by kernel_rfl) (by kernel_rfl) (fun _ _ _ h => h) (Or.inr ⟨by go_simp, rfl⟩) (by assumption) ?_
        go_simp
        refine wpAnyH_take (i := 24) (v := undef) rfl (by kernel_rfl) (by kernel_rfl) (by kernel_rfl) (fun _ _ _ h => h) (Or.inr ⟨by go_simp, rfl⟩) (by assumption) ?_
        go_simp
        refine wpAnyH_take (i := 25) (v := undef) rfl (by kernel_rfl) (by kernel_rfl) (by kernel_rfl) (fun _ _ _ h => h) (Or.inr ⟨by go_simp, rfl⟩) (by assumption) ?_
        go_simp
        refine wpAnyH_take (i := 26) (v := undef) rfl (by kernel_rfl) (by kernel_rfl) (by kernel_rfl) (fun _ _ _ h => h) (Or.inr ⟨by go_simp, rfl⟩) (by assumption) ?_
        go_simp
        refine wpAnyH_take (i := 27) (v := undef) rfl (by kernel_rfl) (by kernel_rfl) (by kernel_rfl) (fun _ _ _ h => h) (Or.inr ⟨by go_simp, rfl⟩) (by assumption) ?_
        go_simp
        refine wpAnyH_take (i := 28) (v := undef) rfl (by kernel_rfl) (by kernel_rfl) (by kernel_rfl) (fun _ _ _ h => h) (Or.inr ⟨by go_simp, rfl⟩) (by assumption) ?_
        go_simp
        refine wpAnyH_take (i := 29) (v := undef) rfl (by kernel_rfl) (by kernel_rfl) (by kernel_rfl) (fun _ _ _ h => h) (Or.inr ⟨by go_simp, rfl⟩) (by assumption) ?_
        go_simp
        refine wpAnyH_take (i := 30) (v := undef) rfl (by kernel_rfl) (by kernel_rfl) (by kernel_rfl) (fun _ _ _ h => h) (Or.inr ⟨by go_simp, rfl⟩) (by assumption) ?_
        go_simp
        refine wpAnyH_take (i := 31) (v := ?vc31) rfl (by kernel_rfl) (by kernel_rfl) (by kernel_rfl) (fun _ _ _ h => h) (Or.inl ⟨by rfl, ?yc31⟩) (by assumption) ?rc31
        case yc31 => intro w' hSw; (try dsimp only at hSw); go_simp; try (with_reducible rfl)
        go_simp
        refine wpAnyH_done (by kernel_rfl) ?_ _
        go_wp2
        go_ret
        exact ⟨ret_bool HF.out.symm, below_on HB.out HN.out (by go_grown)⟩
      have hd2 : decide (y.y < -2) = false := by simpa using hs2
      by_cases hs3 : 2 < y.y
      · have HF : Hid (hoodOk l = false) := hfalse.out (decide_eq_false (by unfold radius; omega))
        have hd3 : decide (2 < y.y) = true := by simpa using hs3
        clear RA
        refine wp_region_held_drew (S := fun w' => w'.cell? ⟨wr.heap.size, 0, none⟩ = some (.int .i64 y.x) ∧ w'.cell? ⟨wr.heap.size, 1, none⟩ = some (.int .i64 y.y)) (by kernel_rfl) (by (try dsimp only); exact HS _ (by first | exact below_on2 HN.out (by go_grown) | go_grown)) (fun hHeld => ?_)
        refine wpAnyH_take (i := 0) (v := ?vd0) rfl (by kernel_rfl) (by kernel_rfl) (by kernel_rfl) (fun _ _ _ h => h) (Or.inl ⟨by rfl, ?yd0⟩) (by assumption) ?rd0
        case yd0 => intro w' hSw; (try dsimp only at hSw); go_simp; try (with_reducible rfl)
        go_simp
        refine wpAnyH_take (i := 1) (v := ?vd1) rfl (by kernel_rfl) (by kernel_rfl) (by kernel_rfl) (fun _ _ _ h => h) (Or.inl ⟨by rfl, ?yd1⟩) (by assumption) ?rd1
        case yd1 => intro w' hSw; (try dsimp only at hSw); go_simp; try (with_reducible rfl)
        go_simp
        refine wpAnyH_take (i := 2) (v := ?vd2) rfl (by kernel_rfl) (by kernel_rfl) (by kernel_rfl) (fun _ _ _ h => h) (Or.inl ⟨by rfl, ?yd2⟩) (by assumption) ?rd2
        case yd2 => intro w' hSw; (try dsimp only at hSw); go_simp; try (with_reducible rfl)
        go_simp
        refine wpAnyH_take (i := 3) (v := ?vd3) rfl (by kernel_rfl) (by kernel_rfl) (by kernel_rfl) (fun _ _ _ h => h) (Or.inl ⟨by rfl, ?yd3⟩) (by assumption) ?rd3
        case yd3 => intro w' hSw; (try dsimp only at hSw); go_simp; try (with_reducible rfl)
        go_simp
        refine wpAnyH_take (i := 4) (v := ?vd4) rfl (by kernel_rfl) (by kernel_rfl) (by kernel_rfl) (fun _ _ _ h => h) (Or.inl ⟨by first | rfl | (go_simp; done), ?yd4⟩) (by assumption) ?rd4
        case yd4 => intro w' hSw; (try dsimp only at hSw); go_simp; try (with_reducible rfl)
        go_simp
        refine wpAnyH_take (i := 5) (v := ?vd5) rfl (by kernel_rfl) (by kernel_rfl) (by kernel_rfl) (fun _ _ _ h => h) (Or.inl ⟨by first | rfl | (go_simp; done), ?yd5⟩) (by assumption) ?rd5
        case yd5 => intro w' hSw; (try dsimp only at hSw); go_simp; try (with_reducible rfl)
        go_simp
        refine wpAnyH_take (i := 6) (v := ?vd6) rfl (by kernel_rfl) (by kernel_rfl) (by kernel_rfl) (fun _ _ _ h => h) (Or.inl ⟨by first | rfl | (go_simp; done), ?yd6⟩) (by assumption) ?rd6
        case yd6 => intro w' hSw; (try dsimp only at hSw); go_simp; try (with_reducible rfl)
        go_simp
        refine wpAnyH_take (i := 7) (v := ?vd7) rfl (by kernel_rfl) (by kernel_rfl) (by kernel_rfl) (fun _ _ _ h => h) (Or.inl ⟨by rfl, ?yd7⟩) (by assumption) ?rd7
        case yd7 => intro w' hSw; (try dsimp only at hSw); go_simp; try (with_reducible rfl)
        go_simp
        refine wpAnyH_take (i := 8) (v := ?vd8) rfl (by kernel_rfl) (by kernel_rfl) (by kernel_rfl) (fun _ _ _ h => h) (Or.inl ⟨by rfl, ?yd8⟩) (by assumption) ?rd8
        case yd8 => intro w' hSw; (try dsimp only at hSw); go_simp; try (with_reducible rfl)
        go_simp
        refine wpAnyH_take (i := 9) (v := ?vd9) rfl (by kernel_rfl) (by kernel_rfl) (by kernel_rfl) (fun _ _ _ h => h) (Or.inl ⟨by first | rfl | (go_simp; done), ?yd9⟩) (by assumption) ?rd9
        case yd9 => intro w' hSw; (try dsimp only at hSw); go_simp; try (with_reducible rfl)
        go_simp
        refine wpAnyH_take (i := 10) (v := ?vd10) rfl (by kernel_rfl) (by kernel_rfl) (by kernel_rfl) (fun _ _ _ h => h) (Or.inl ⟨by first | rfl | (go_simp; done), ?yd10⟩) (by assumption) ?rd10
        case yd10 => intro w' hSw; (try dsimp only at hSw); go_simp; try (with_reducible rfl)
        go_simp
        refine wpAnyH_take (i := 11) (v := ?vd11) rfl (by kernel_rfl) (by kernel_rfl) (by kernel_rfl) (fun _ _ _ h => h) (Or.inl ⟨by first | rfl | (go_simp; done), ?yd11⟩) (by assumption) ?rd11
        case yd11 => intro w' hSw; (try dsimp only at hSw); go_simp; try (with_reducible rfl)
        go_simp
        refine wpAnyH_take (i := 12) (v := ?vd12) rfl (by kernel_rfl) (by kernel_rfl) (by kernel_rfl) (fun _ _ _ h => h) (Or.inl ⟨by rfl, ?yd12⟩) (by assumption) ?rd12
        case yd12 => intro w' hSw; (try dsimp only at hSw); go_simp; try (with_reducible rfl)
        go_simp
        refine wpAnyH_take (i := 13) (v := ?vd13) rfl (by kernel_rfl) (by kernel_rfl) (by kernel_rfl) (fun _ _ _ h => h) (Or.inl ⟨by rfl, ?yd13⟩) (by assumption) ?rd13
        case yd13 => intro w' hSw; (try dsimp only at hSw); go_simp; try (with_reducible rfl)
        go_simp
        refine wpAnyH_take (i := 14) (v := ?vd14) rfl (by kernel_rfl) (by kernel_rfl) (by kernel_rfl) (fun _ _ _ h => h) (Or.inl ⟨by first | rfl | (go_simp; done), ?yd14⟩) (by assumption) ?rd14
        case yd14 => intro w' hSw; (try dsimp only at hSw); go_simp; try (with_reducible rfl)
        go_simp
        refine wpAnyH_take (i := 15) (v := ?vd15) rfl (by kernel_rfl) (by kernel_rfl) (by kernel_rfl) (fun _ _ _ h => h) (Or.inl ⟨by first | rfl | (go_simp; done), ?yd15⟩) (by assumption) ?rd15
        case yd15 => intro w' hSw; (try dsimp only at hSw); go_simp; try (with_reducible rfl)
        go_simp
        refine wpAnyH_take (i := 16) (v := ?vd16) rfl (by kernel_rfl) (by kernel_rfl) (by kernel_rfl) (fun _ _ _ h => h) (Or.inl ⟨by first | rfl | (go_simp; done), ?yd16⟩) (by assumption) ?rd16
        case yd16 => intro w' hSw; (try dsimp only at hSw); go_simp; try (with_reducible rfl)
        go_simp
        refine wpAnyH_take (i := 17) (v := ?vd17) rfl (by kernel_rfl) (by kernel_rfl) (by kernel_rfl) (fun _ _ _ h => h) (Or.inl ⟨by rfl, ?yd17⟩) (by assumption) ?rd17
        case yd17 => intro w' hSw; (try dsimp only at hSw); go_simp; try (with_reducible rfl)
        go_simp
        refine wpAnyH_take (i := 18) (v := ?vd18) rfl (by kernel_rfl) (by kernel_rfl) (by kernel_rfl) (fun _ _ _ h => h) (Or.inl ⟨by rfl, ?yd18⟩) (by assumption) ?rd18
        case yd18 => intro w' hSw; (try dsimp only at hSw); go_simp; try (with_reducible rfl)
        go_simp
        refine wpAnyH_take (i := 19) (v := undef) rfl (by kernel_rfl) (by kernel_rfl) (by kernel_rfl) (fun _ _ _ h => h) (Or.inr ⟨by go_simp, rfl⟩) (by assumption) ?_
        go_simp
        refine wpAnyH_take (i := 20) (v := undef) rfl (by kernel_rfl) (by kernel_rfl) (by kernel_rfl) (fun _ _ _ h => h) (Or.inr ⟨by go_simp, rfl⟩) (by assumption) ?_
        go_simp
        refine wpAnyH_take (i := 21) (v := undef) rfl (by kernel_rfl) (by kernel_rfl) (by kernel_rfl) (fun _ _ _ h => h) (Or.inr ⟨by go_simp, rfl⟩) (by assumption) ?_
        go_simp
        refine wpAnyH_take (i := 22) (v := undef) rfl (by kernel_rfl) (by kernel_rfl) (by kernel_rfl) (fun _ _ _ h => h) (Or.inr ⟨by go_simp, rfl⟩) (by assumption) ?_
        go_simp
        refine wpAnyH_take (i := 23) (v := undef) rfl (by kernel_rfl) (by kernel_rfl) (by kernel_rfl) (fun _ _ _ h => h) (Or.inr ⟨by go_simp, rfl⟩) (by assumption) ?_
        go_simp
        refine wpAnyH_take (i := 24) (v := undef) rfl (by kernel_rfl) (by kernel_rfl) (by kernel_rfl) (fun _ _ _ h => h) (Or.inr ⟨by go_simp, rfl⟩) (by assumption) ?_
        go_simp
        refine wpAnyH_take (i := 25) (v := undef) rfl (by kernel_rfl) (by kernel_rfl) (by kernel_rfl) (fun _ _ _ h => h) (Or.inr ⟨by go_simp, rfl⟩) (by assumption) ?_
        go_simp
        refine wpAnyH_take (i := 26) (v := undef) rfl (by kernel_rfl) (by kernel_rfl) (by kernel_rfl) (fun _ _ _ h => h) (Or.inr ⟨by go_simp, rfl⟩) (by assumption) ?_
        go_simp
        refine wpAnyH_take (i := 27) (v := undef) rfl (by kernel_rfl) (by kernel_rfl) (by kernel_rfl) (fun _ _ _ h => h) (Or.inr ⟨by go_simp, rfl⟩) (by assumption) ?_
        go_simp
        refine wpAnyH_take (i := 28) (v := undef) rfl (by kernel_rfl) (by kernel_rfl) (by kernel_rfl) (fun _ _ _ h => h) (Or.inr ⟨by go_simp, rfl⟩) (by assumption) ?_
        go_simp
        refine wpAnyH_take (i := 29) (v := undef) rfl (by kernel_rfl) (by kernel_rfl) (by kernel_rfl) (fun _ _ _ h => h) (Or.inr ⟨by go_simp, rfl⟩) (by assumption) ?_
        go_simp
        refine wpAnyH_take (i := 30) (v := undef) rfl (by kernel_rfl) (by kernel_rfl) (by kernel_rfl) (fun _ _ _ h => h) (Or.inr ⟨by go_simp, rfl⟩) (by assumption) ?_
        go_simp
        refine wpAnyH_take (i := 31) (v := ?vd31) rfl (by kernel_rfl) (by kernel_rfl) (by kernel_rfl) (fun _ _ _ h => h) (Or.inl ⟨by rfl, ?yd31⟩) (by assumption) ?rd31
        case yd31 => intro w' hSw; (try dsimp only at hSw); go_simp; try (with_reducible rfl)
        go_simp
        refine wpAnyH_done (by kernel_rfl) ?_ _
        go_wp2
        go_ret
        exact ⟨ret_bool HF.out.symm, below_on HB.out HN.out (by go_grown)⟩
      have hd3 : decide (2 < y.y) = false := by simpa using hs3
      have HC : Hid (ptOk y = true) := decide_eq_true (by unfold radius; omega)
      by_cases hk0 : kk = 0
      · subst hk0
        have HG : Hid (ptOk y = true ∧ (0 = 0 ∨ beforeP (l.getD (0 - 1) default) y = true)) := ⟨HC.out, .inl rfl⟩
        clear RA
        refine wp_region_held_drew (S := fun w' => w'.cell? ⟨wr.heap.size, 0, none⟩ = some (.int .i64 y.x) ∧ w'.cell? ⟨wr.heap.size, 1, none⟩ = some (.int .i64 y.y)) (by kernel_rfl) (by (try dsimp only); exact HS _ (by first | exact below_on2 HN.out (by go_grown) | go_grown)) (fun hHeld => ?_)
        refine wpAnyH_take (i := 0) (v := ?ve0) rfl (by kernel_rfl) (by kernel_rfl) (by kernel_rfl) (fun _ _ _ h => h) (Or.inl ⟨by rfl, ?ye0⟩) (by assumption) ?re0
        case ye0 => intro w' hSw; (try dsimp only at hSw); go_simp; try (with_reducible rfl)
        go_simp
        refine wpAnyH_take (i := 1) (v := ?ve1) rfl (by kernel_rfl) (by kernel_rfl) (by kernel_rfl) (fun _ _ _ h => h) (Or.inl ⟨by rfl, ?ye1⟩) (by assumption) ?re1
        case ye1 => intro w' hSw; (try dsimp only at hSw); go_simp; try (with_reducible rfl)
        go_simp
        refine wpAnyH_take (i := 2) (v := ?ve2) rfl (by kernel_rfl) (by kernel_rfl) (by kernel_rfl) (fun _ _ _ h => h) (Or.inl ⟨by rfl, ?ye2⟩) (by assumption) ?re2
        case ye2 => intro w' hSw; (try dsimp only at hSw); go_simp; try (with_reducible rfl)
        go_simp
        refine wpAnyH_take (i := 3) (v := ?ve3) rfl (by kernel_rfl) (by kernel_rfl) (by kernel_rfl) (fun _ _ _ h => h) (Or.inl ⟨by rfl, ?ye3⟩) (by assumption) ?re3
        case ye3 => intro w' hSw; (try dsimp only at hSw); go_simp; try (with_reducible rfl)
        go_simp
        refine wpAnyH_take (i := 4) (v := ?ve4) rfl (by kernel_rfl) (by kernel_rfl) (by kernel_rfl) (fun _ _ _ h => h) (Or.inl ⟨by first | rfl | (go_simp; done), ?ye4⟩) (by assumption) ?re4
        case ye4 => intro w' hSw; (try dsimp only at hSw); go_simp; try (with_reducible rfl)
        go_simp
        refine wpAnyH_take (i := 5) (v := ?ve5) rfl (by kernel_rfl) (by kernel_rfl) (by kernel_rfl) (fun _ _ _ h => h) (Or.inl ⟨by first | rfl | (go_simp; done), ?ye5⟩) (by assumption) ?re5
        case ye5 => intro w' hSw; (try dsimp only at hSw); go_simp; try (with_reducible rfl)
        go_simp
        refine wpAnyH_take (i := 6) (v := ?ve6) rfl (by kernel_rfl) (by kernel_rfl) (by kernel_rfl) (fun _ _ _ h => h) (Or.inl ⟨by first | rfl | (go_simp; done), ?ye6⟩) (by assumption) ?re6
        case ye6 => intro w' hSw; (try dsimp only at hSw); go_simp; try (with_reducible rfl)
        go_simp
        refine wpAnyH_take (i := 7) (v := ?ve7) rfl (by kernel_rfl) (by kernel_rfl) (by kernel_rfl) (fun _ _ _ h => h) (Or.inl ⟨by rfl, ?ye7⟩) (by assumption) ?re7
        case ye7 => intro w' hSw; (try dsimp only at hSw); go_simp; try (with_reducible rfl)
        go_simp
        refine wpAnyH_take (i := 8) (v := ?ve8) rfl (by kernel_rfl) (by kernel_rfl) (by kernel_rfl) (fun _ _ _ h => h) (Or.inl ⟨by rfl, ?ye8⟩) (by assumption) ?re8
        case ye8 => intro w' hSw; (try dsimp only at hSw); go_simp; try (with_reducible rfl)
        go_simp
        refine wpAnyH_take (i := 9) (v := ?ve9) rfl (by kernel_rfl) (by kernel_rfl) (by kernel_rfl) (fun _ _ _ h => h) (Or.inl ⟨by first | rfl | (go_simp; done), ?ye9⟩) (by assumption) ?re9
        case ye9 => intro w' hSw; (try dsimp only at hSw); go_simp; try (with_reducible rfl)
        go_simp
        refine wpAnyH_take (i := 10) (v := ?ve10) rfl (by kernel_rfl) (by kernel_rfl) (by kernel_rfl) (fun _ _ _ h => h) (Or.inl ⟨by first | rfl | (go_simp; done), ?ye10⟩) (by assumption) ?re10
        case ye10 => intro w' hSw; (try dsimp only at hSw); go_simp; try (with_reducible rfl)
        go_simp
        refine wpAnyH_take (i := 11) (v := ?ve11) rfl (by kernel_rfl) (by kernel_rfl) (by kernel_rfl) (fun _ _ _ h => h) (Or.inl ⟨by first | rfl | (go_simp; done), ?ye11⟩) (by assumption) ?re11
        case ye11 => intro w' hSw; (try dsimp only at hSw); go_simp; try (with_reducible rfl)
        go_simp
        refine wpAnyH_take (i := 12) (v := ?ve12) rfl (by kernel_rfl) (by kernel_rfl) (by kernel_rfl) (fun _ _ _ h => h) (Or.inl ⟨by rfl, ?ye12⟩) (by assumption) ?re12
        case ye12 => intro w' hSw; (try dsimp only at hSw); go_simp; try (with_reducible rfl)
        go_simp
        refine wpAnyH_take (i := 13) (v := ?ve13) rfl (by kernel_rfl) (by kernel_rfl) (by kernel_rfl) (fun _ _ _ h => h) (Or.inl ⟨by rfl, ?ye13⟩) (by assumption) ?re13
        case ye13 => intro w' hSw; (try dsimp only at hSw); go_simp; try (with_reducible rfl)
        go_simp
        refine wpAnyH_take (i := 14) (v := ?ve14) rfl (by kernel_rfl) (by kernel_rfl) (by kernel_rfl) (fun _ _ _ h => h) (Or.inl ⟨by first | rfl | (go_simp; done), ?ye14⟩) (by assumption) ?re14
        case ye14 => intro w' hSw; (try dsimp only at hSw); go_simp; try (with_reducible rfl)
        go_simp
        refine wpAnyH_take (i := 15) (v := ?ve15) rfl (by kernel_rfl) (by kernel_rfl) (by kernel_rfl) (fun _ _ _ h => h) (Or.inl ⟨by first | rfl | (go_simp; done), ?ye15⟩) (by assumption) ?re15
        case ye15 => intro w' hSw; (try dsimp only at hSw); go_simp; try (with_reducible rfl)
        go_simp
        refine wpAnyH_take (i := 16) (v := ?ve16) rfl (by kernel_rfl) (by kernel_rfl) (by kernel_rfl) (fun _ _ _ h => h) (Or.inl ⟨by first | rfl | (go_simp; done), ?ye16⟩) (by assumption) ?re16
        case ye16 => intro w' hSw; (try dsimp only at hSw); go_simp; try (with_reducible rfl)
        go_simp
        refine wpAnyH_take (i := 17) (v := ?ve17) rfl (by kernel_rfl) (by kernel_rfl) (by kernel_rfl) (fun _ _ _ h => h) (Or.inl ⟨by rfl, ?ye17⟩) (by assumption) ?re17
        case ye17 => intro w' hSw; (try dsimp only at hSw); go_simp; try (with_reducible rfl)
        go_simp
        refine wpAnyH_take (i := 18) (v := ?ve18) rfl (by kernel_rfl) (by kernel_rfl) (by kernel_rfl) (fun _ _ _ h => h) (Or.inl ⟨by rfl, ?ye18⟩) (by assumption) ?re18
        case ye18 => intro w' hSw; (try dsimp only at hSw); go_simp; try (with_reducible rfl)
        go_simp
        refine wpAnyH_take (i := 19) (v := ?ve19) rfl (by kernel_rfl) (by kernel_rfl) (by kernel_rfl) (fun _ _ _ h => h) (Or.inl ⟨by first | rfl | (go_simp; done), ?ye19⟩) (by assumption) ?re19
        case ye19 => intro w' hSw; (try dsimp only at hSw); go_simp; try (with_reducible rfl)
        go_simp
        refine wpAnyH_take (i := 20) (v := ?ve20) rfl (by kernel_rfl) (by kernel_rfl) (by kernel_rfl) (fun _ _ _ h => h) (Or.inl ⟨by first | rfl | (go_simp; done), ?ye20⟩) (by assumption) ?re20
        case ye20 => intro w' hSw; (try dsimp only at hSw); go_simp; try (with_reducible rfl)
        go_simp
        refine wpAnyH_take (i := 21) (v := ?ve21) rfl (by kernel_rfl) (by kernel_rfl) (by kernel_rfl) (fun _ _ _ h => h) (Or.inl ⟨by first | rfl | (go_simp; done), ?ye21⟩) (by assumption) ?re21
        case ye21 => intro w' hSw; (try dsimp only at hSw); go_simp; try (with_reducible rfl)
        go_simp
        refine wpAnyH_take (i := 22) (v := undef) rfl (by kernel_rfl) (by kernel_rfl) (by kernel_rfl) (fun _ _ _ h => h) (Or.inr ⟨by go_simp, rfl⟩) (by assumption) ?_
        go_simp
        refine wpAnyH_take (i := 23) (v := undef) rfl (by kernel_rfl) (by kernel_rfl) (by kernel_rfl) (fun _ _ _ h => h) (Or.inr ⟨by go_simp, rfl⟩) (by assumption) ?_
        go_simp
        refine wpAnyH_take (i := 24) (v := undef) rfl (by kernel_rfl) (by kernel_rfl) (by kernel_rfl) (fun _ _ _ h => h) (Or.inr ⟨by go_simp, rfl⟩) (by assumption) ?_
        go_simp
        refine wpAnyH_take (i := 25) (v := undef) rfl (by kernel_rfl) (by kernel_rfl) (by kernel_rfl) (fun _ _ _ h => h) (Or.inr ⟨by go_simp, rfl⟩) (by assumption) ?_
        go_simp
        refine wpAnyH_take (i := 26) (v := undef) rfl (by kernel_rfl) (by kernel_rfl) (by kernel_rfl) (fun _ _ _ h => h) (Or.inr ⟨by go_simp, rfl⟩) (by assumption) ?_
        go_simp
        refine wpAnyH_take (i := 27) (v := undef) rfl (by kernel_rfl) (by kernel_rfl) (by kernel_rfl) (fun _ _ _ h => h) (Or.inr ⟨by go_simp, rfl⟩) (by assumption) ?_
        go_simp
        refine wpAnyH_take (i := 28) (v := undef) rfl (by kernel_rfl) (by kernel_rfl) (by kernel_rfl) (fun _ _ _ h => h) (Or.inr ⟨by go_simp, rfl⟩) (by assumption) ?_
        go_simp
        refine wpAnyH_take (i := 29) (v := undef) rfl (by kernel_rfl) (by kernel_rfl) (by kernel_rfl) (fun _ _ _ h => h) (Or.inr ⟨by go_simp, rfl⟩) (by assumption) ?_
        go_simp
        refine wpAnyH_take (i := 30) (v := ?ve30) rfl (by kernel_rfl) (by kernel_rfl) (by kernel_rfl) (fun _ _ _ h => h) (Or.inl ⟨by first | rfl | (go_simp; done), ?ye30⟩) (by assumption) ?re30
        case ye30 => intro w' hSw; (try dsimp only at hSw); go_simp; try (with_reducible rfl)
        go_simp
        refine wpAnyH_take (i := 31) (v := ?ve31) rfl (by kernel_rfl) (by kernel_rfl) (by kernel_rfl) (fun _ _ _ h => h) (Or.inl ⟨by rfl, ?ye31⟩) (by assumption) ?re31
        case ye31 => intro w' hSw; (try dsimp only at hSw); go_simp; try (with_reducible rfl)
        go_simp
        refine wpAnyH_done (by kernel_rfl) ?_ _
        go_wp2
        go_roundg (n - (0 + 1))
        case measure => omega
        case rel =>
          refine ⟨0 + 1, by omega, by omega, by go_num, (show Below _ _ _ from below_on HB.out HN.out (by go_grown)), (show Aside _ from fun i hi => ?_)⟩
          by_cases e : i = 0
          · subst e
            exact ⟨by rw [HY.out]; exact HC.out, .inl rfl⟩
          · exact AA.out i (by omega)
      · obtain ⟨j, rfl⟩ : ∃ j, kk = j + 1 := ⟨kk - 1, by omega⟩
        obtain ⟨ad', e', hb2, g0, g1⟩ := hood_row (H.out.up BW.out) (show j < n by omega)
        cases e'
        generalize hq : l.getD j default = q at g0 g1
        have HQ : Hid (l.getD j default = q) := hq
        clear hq
        have hbw : Below wr.heap.size wr w1 := HW.out
        have HS : ∀ w', Below w1.heap.size w1 w' → w'.cell? ⟨wr.heap.size, 0, none⟩ = some (.int .i64 y.x) ∧ w'.cell? ⟨wr.heap.size, 1, none⟩ = some (.int .i64 y.y) ∧ w'.cell? (ad.add (j * 2)) = some (.int .i64 q.x) ∧ w'.cell? ⟨(ad.add (j * 2)).block, (ad.add (j * 2)).off + 1, none⟩ = some (.int .i64 q.y) := fun w' hw => ⟨(rowCells RA.out hw).cell 0, (rowCells RA.out hw).cell 1, ((hbw.trans (hw.mono hbw.size)).cell (by rw [add_block]; exact hb)).trans g0, ((hbw.trans (hw.mono hbw.size)).cell (p := ⟨(ad.add (j * 2)).block, (ad.add (j * 2)).off + 1, none⟩) (by show (ad.add (j * 2)).block < _; rw [add_block]; exact hb)).trans g1⟩
        have hj0 : (0 : Int) < (j : Int) + 1 := by omega
        have hjn : (j : Int) < (n : Int) := by omega
        have hj1 : (0 : Int) ≤ (j : Int) := by omega
        have hwj : IntKind.i64.wrap (j : Int) = (j : Int) := IntWalk.i64_in _ (by omega)
        cases hbe : beforeP q y
        · have HF : Hid (hoodOk l = false) := hood_false_at l (j + 1) (by rw [HL.out]; exact hlt) (.inr ⟨by omega, by rw [HY.out, Nat.add_sub_cancel, HQ.out]; exact hbe⟩)
          have hd3 : decide (0 ≤ orderP q y) = true := by rw [orderP_lt, hbe]; rfl
          generalize ho : orderP q y = o at hd3
          have HO : Hid (orderP q y = o) := ho
          clear ho RA g0 g1
          refine wp_region_held_drew (S := fun w' => w'.cell? ⟨wr.heap.size, 0, none⟩ = some (.int .i64 y.x) ∧ w'.cell? ⟨wr.heap.size, 1, none⟩ = some (.int .i64 y.y) ∧ w'.cell? (ad.add (j * 2)) = some (.int .i64 q.x) ∧ w'.cell? ⟨(ad.add (j * 2)).block, (ad.add (j * 2)).off + 1, none⟩ = some (.int .i64 q.y)) (by kernel_rfl) (by (try dsimp only); exact HS _ (by first | exact below_on2 HN.out (by go_grown) | go_grown)) (fun hHeld => ?_)
          refine wpAnyH_take (i := 0) (v := ?vf0) rfl (by kernel_rfl) (by kernel_rfl) (by kernel_rfl) (fun _ _ _ h => h) (Or.inl ⟨by rfl, ?yf0⟩) (by assumption) ?rf0
          case yf0 => intro w' hSw; (try dsimp only at hSw); go_simp; try (with_reducible rfl)
          go_simp
          refine wpAnyH_take (i := 1) (v := ?vf1) rfl (by kernel_rfl) (by kernel_rfl) (by kernel_rfl) (fun _ _ _ h => h) (Or.inl ⟨by rfl, ?yf1⟩) (by assumption) ?rf1
          case yf1 => intro w' hSw; (try dsimp only at hSw); go_simp; try (with_reducible rfl)
          go_simp
          refine wpAnyH_take (i := 2) (v := ?vf2) rfl (by kernel_rfl) (by kernel_rfl) (by kernel_rfl) (fun _ _ _ h => h) (Or.inl ⟨by rfl, ?yf2⟩) (by assumption) ?rf2
          case yf2 => intro w' hSw; (try dsimp only at hSw); go_simp; try (with_reducible rfl)
          go_simp
          refine wpAnyH_take (i := 3) (v := ?vf3) rfl (by kernel_rfl) (by kernel_rfl) (by kernel_rfl) (fun _ _ _ h => h) (Or.inl ⟨by rfl, ?yf3⟩) (by assumption) ?rf3
          case yf3 => intro w' hSw; (try dsimp only at hSw); go_simp; try (with_reducible rfl)
          go_simp
          refine wpAnyH_take (i := 4) (v := ?vf4) rfl (by kernel_rfl) (by kernel_rfl) (by kernel_rfl) (fun _ _ _ h => h) (Or.inl ⟨by first | rfl | (go_simp; done), ?yf4⟩) (by assumption) ?rf4
          case yf4 => intro w' hSw; (try dsimp only at hSw); go_simp; try (with_reducible rfl)
          go_simp
          refine wpAnyH_take (i := 5) (v := ?vf5) rfl (by kernel_rfl) (by kernel_rfl) (by kernel_rfl) (fun _ _ _ h => h) (Or.inl ⟨by first | rfl | (go_simp; done), ?yf5⟩) (by assumption) ?rf5
          case yf5 => intro w' hSw; (try dsimp only at hSw); go_simp; try (with_reducible rfl)
          go_simp
          refine wpAnyH_take (i := 6) (v := ?vf6) rfl (by kernel_rfl) (by kernel_rfl) (by kernel_rfl) (fun _ _ _ h => h) (Or.inl ⟨by first | rfl | (go_simp; done), ?yf6⟩) (by assumption) ?rf6
          case yf6 => intro w' hSw; (try dsimp only at hSw); go_simp; try (with_reducible rfl)
          go_simp
          refine wpAnyH_take (i := 7) (v := ?vf7) rfl (by kernel_rfl) (by kernel_rfl) (by kernel_rfl) (fun _ _ _ h => h) (Or.inl ⟨by rfl, ?yf7⟩) (by assumption) ?rf7
          case yf7 => intro w' hSw; (try dsimp only at hSw); go_simp; try (with_reducible rfl)
          go_simp
          refine wpAnyH_take (i := 8) (v := ?vf8) rfl (by kernel_rfl) (by kernel_rfl) (by kernel_rfl) (fun _ _ _ h => h) (Or.inl ⟨by rfl, ?yf8⟩) (by assumption) ?rf8
          case yf8 => intro w' hSw; (try dsimp only at hSw); go_simp; try (with_reducible rfl)
          go_simp
          refine wpAnyH_take (i := 9) (v := ?vf9) rfl (by kernel_rfl) (by kernel_rfl) (by kernel_rfl) (fun _ _ _ h => h) (Or.inl ⟨by first | rfl | (go_simp; done), ?yf9⟩) (by assumption) ?rf9
          case yf9 => intro w' hSw; (try dsimp only at hSw); go_simp; try (with_reducible rfl)
          go_simp
          refine wpAnyH_take (i := 10) (v := ?vf10) rfl (by kernel_rfl) (by kernel_rfl) (by kernel_rfl) (fun _ _ _ h => h) (Or.inl ⟨by first | rfl | (go_simp; done), ?yf10⟩) (by assumption) ?rf10
          case yf10 => intro w' hSw; (try dsimp only at hSw); go_simp; try (with_reducible rfl)
          go_simp
          refine wpAnyH_take (i := 11) (v := ?vf11) rfl (by kernel_rfl) (by kernel_rfl) (by kernel_rfl) (fun _ _ _ h => h) (Or.inl ⟨by first | rfl | (go_simp; done), ?yf11⟩) (by assumption) ?rf11
          case yf11 => intro w' hSw; (try dsimp only at hSw); go_simp; try (with_reducible rfl)
          go_simp
          refine wpAnyH_take (i := 12) (v := ?vf12) rfl (by kernel_rfl) (by kernel_rfl) (by kernel_rfl) (fun _ _ _ h => h) (Or.inl ⟨by rfl, ?yf12⟩) (by assumption) ?rf12
          case yf12 => intro w' hSw; (try dsimp only at hSw); go_simp; try (with_reducible rfl)
          go_simp
          refine wpAnyH_take (i := 13) (v := ?vf13) rfl (by kernel_rfl) (by kernel_rfl) (by kernel_rfl) (fun _ _ _ h => h) (Or.inl ⟨by rfl, ?yf13⟩) (by assumption) ?rf13
          case yf13 => intro w' hSw; (try dsimp only at hSw); go_simp; try (with_reducible rfl)
          go_simp
          refine wpAnyH_take (i := 14) (v := ?vf14) rfl (by kernel_rfl) (by kernel_rfl) (by kernel_rfl) (fun _ _ _ h => h) (Or.inl ⟨by first | rfl | (go_simp; done), ?yf14⟩) (by assumption) ?rf14
          case yf14 => intro w' hSw; (try dsimp only at hSw); go_simp; try (with_reducible rfl)
          go_simp
          refine wpAnyH_take (i := 15) (v := ?vf15) rfl (by kernel_rfl) (by kernel_rfl) (by kernel_rfl) (fun _ _ _ h => h) (Or.inl ⟨by first | rfl | (go_simp; done), ?yf15⟩) (by assumption) ?rf15
          case yf15 => intro w' hSw; (try dsimp only at hSw); go_simp; try (with_reducible rfl)
          go_simp
          refine wpAnyH_take (i := 16) (v := ?vf16) rfl (by kernel_rfl) (by kernel_rfl) (by kernel_rfl) (fun _ _ _ h => h) (Or.inl ⟨by first | rfl | (go_simp; done), ?yf16⟩) (by assumption) ?rf16
          case yf16 => intro w' hSw; (try dsimp only at hSw); go_simp; try (with_reducible rfl)
          go_simp
          refine wpAnyH_take (i := 17) (v := ?vf17) rfl (by kernel_rfl) (by kernel_rfl) (by kernel_rfl) (fun _ _ _ h => h) (Or.inl ⟨by rfl, ?yf17⟩) (by assumption) ?rf17
          case yf17 => intro w' hSw; (try dsimp only at hSw); go_simp; try (with_reducible rfl)
          go_simp
          refine wpAnyH_take (i := 18) (v := ?vf18) rfl (by kernel_rfl) (by kernel_rfl) (by kernel_rfl) (fun _ _ _ h => h) (Or.inl ⟨by rfl, ?yf18⟩) (by assumption) ?rf18
          case yf18 => intro w' hSw; (try dsimp only at hSw); go_simp; try (with_reducible rfl)
          go_simp
          refine wpAnyH_take (i := 19) (v := ?vf19) rfl (by kernel_rfl) (by kernel_rfl) (by kernel_rfl) (fun _ _ _ h => h) (Or.inl ⟨by first | rfl | (go_simp; done), ?yf19⟩) (by assumption) ?rf19
          case yf19 => intro w' hSw; (try dsimp only at hSw); go_simp; try (with_reducible rfl)
          go_simp
          refine wpAnyH_take (i := 20) (v := ?vf20) rfl (by kernel_rfl) (by kernel_rfl) (by kernel_rfl) (fun _ _ _ h => h) (Or.inl ⟨by first | rfl | (go_simp; done), ?yf20⟩) (by assumption) ?rf20
          case yf20 => intro w' hSw; (try dsimp only at hSw); go_simp; try (with_reducible rfl)
          go_simp
          refine wpAnyH_take (i := 21) (v := ?vf21) rfl (by kernel_rfl) (by kernel_rfl) (by kernel_rfl) (fun _ _ _ h => h) (Or.inl ⟨by first | rfl | (go_simp; done), ?yf21⟩) (by assumption) ?rf21
          case yf21 => intro w' hSw; (try dsimp only at hSw); go_simp; try (with_reducible rfl)
          go_simp
          refine wpAnyH_take (i := 22) (v := ?vf22) rfl (by kernel_rfl) (by kernel_rfl) (by kernel_rfl) (fun _ _ _ h => h) (Or.inl ⟨by first | rfl | (go_simp; done), ?yf22⟩) (by assumption) ?rf22
          case yf22 => intro w' hSw; (try dsimp only at hSw); go_simp; try (with_reducible rfl)
          go_simp
          refine wpAnyH_take (i := 23) (v := ?vf23) rfl (by kernel_rfl) (by kernel_rfl) (by kernel_rfl) (fun _ _ _ h => h) (Or.inl ⟨by first | rfl | (go_simp; done), ?yf23⟩) (by assumption) ?rf23
          case yf23 => intro w' hSw; (try dsimp only at hSw); go_simp; try (with_reducible rfl)
          go_simp
          refine wpAnyH_take (i := 24) (v := ?vf24) rfl (by kernel_rfl) (by kernel_rfl) (by kernel_rfl) (fun _ _ _ h => h) (Or.inl ⟨by first | rfl | (go_simp; done), ?yf24⟩) (by assumption) ?rf24
          case yf24 => intro w' hSw; (try dsimp only at hSw); go_simp; try (with_reducible rfl)
          go_simp
          refine wpAnyH_take (i := 25) (v := ?vf25) rfl (by kernel_rfl) (by kernel_rfl) (by kernel_rfl) (fun _ _ _ h => h) (Or.inl ⟨by first | rfl | (go_simp; done), ?yf25⟩) (by assumption) ?rf25
          case yf25 => intro w' hSw; (try dsimp only at hSw); go_simp; try (with_reducible rfl)
          go_simp
          refine wpAnyH_take (i := 26) (v := ?vf26) rfl (by kernel_rfl) (by kernel_rfl) (by kernel_rfl) (fun _ _ _ h => h) (Or.inl ⟨by first | rfl | (go_simp; done), ?yf26⟩) (by assumption) ?rf26
          case yf26 => intro w' hSw; (try dsimp only at hSw); go_simp; try (with_reducible rfl)
          go_simp
          refine wpAnyH_take (i := 27) (v := ?vf27) rfl (by kernel_rfl) (by kernel_rfl) (by kernel_rfl) (fun _ _ _ h => h) (Or.inl ⟨by first | rfl | (go_simp; done), ?yf27⟩) (by assumption) ?rf27
          case yf27 => intro w' hSw; (try dsimp only at hSw); go_simp; try (with_reducible rfl)
          go_simp
          refine wpAnyH_ready (rs := [28]) (by kernel_rfl) (by simp) ?_
          refine AllReadyH.cons rfl (fun K hK => ?_) AllReadyH.nil
          go_simp
          go_at_call 38
          refine (pointCompare_any q.x q.y y.x y.y _).mono ?_
          rw [show (if cmpI q.y y.y ≠ 0 then cmpI q.y y.y else cmpI q.x y.x) = o from HO.out]
          rintro e w7 ⟨rfl, hb⟩
          have HN := (show Hid (Below w1.heap.size w1 w7) from below_on HN.out (by go_grown) hb)
          clear hb
          refine hK.out _ _ ?_ (fun hHeld => ?_)
          · (try dsimp only); exact HS _ (by first | exact below_on2 HN.out (by go_grown) | go_grown)
          clear hK K
          try go_simp
          refine wpAnyH_take (i := 29) (v := ?vf29) rfl (by kernel_rfl) (by kernel_rfl) (by kernel_rfl) (fun _ _ _ h => h) (Or.inl ⟨by first | rfl | (go_simp; done), ?yf29⟩) (by assumption) ?rf29
          case yf29 => intro w' hSw; (try dsimp only at hSw); go_simp; try (with_reducible rfl)
          go_simp
          refine wpAnyH_take (i := 30) (v := ?vf30) rfl (by kernel_rfl) (by kernel_rfl) (by kernel_rfl) (fun _ _ _ h => h) (Or.inl ⟨by first | rfl | (go_simp; done), ?yf30⟩) (by assumption) ?rf30
          case yf30 => intro w' hSw; (try dsimp only at hSw); go_simp; try (with_reducible rfl)
          go_simp
          refine wpAnyH_take (i := 31) (v := ?vf31) rfl (by kernel_rfl) (by kernel_rfl) (by kernel_rfl) (fun _ _ _ h => h) (Or.inl ⟨by rfl, ?yf31⟩) (by assumption) ?rf31
          case yf31 => intro w' hSw; (try dsimp only at hSw); go_simp; try (with_reducible rfl)
          go_simp
          refine wpAnyH_done (by kernel_rfl) ?_ _
          go_wp2
          go_ret
          exact ⟨ret_bool HF.out.symm, below_on HB.out HN.out (by go_grown)⟩
        · have HG : Hid (ptOk y = true ∧ (j + 1 = 0 ∨ beforeP (l.getD (j + 1 - 1) default) y = true)) := ⟨HC.out, .inr (by rw [Nat.add_sub_cancel, HQ.out]; exact hbe)⟩
          have hd3 : decide (0 ≤ orderP q y) = false := by rw [orderP_lt, hbe]; rfl
          generalize ho : orderP q y = o at hd3
          have HO : Hid (orderP q y = o) := ho
          clear ho RA g0 g1
          refine wp_region_held_drew (S := fun w' => w'.cell? ⟨wr.heap.size, 0, none⟩ = some (.int .i64 y.x) ∧ w'.cell? ⟨wr.heap.size, 1, none⟩ = some (.int .i64 y.y) ∧ w'.cell? (ad.add (j * 2)) = some (.int .i64 q.x) ∧ w'.cell? ⟨(ad.add (j * 2)).block, (ad.add (j * 2)).off + 1, none⟩ = some (.int .i64 q.y)) (by kernel_rfl) (by (try dsimp only); exact HS _ (by first | exact below_on2 HN.out (by go_grown) | go_grown)) (fun hHeld => ?_)
          refine wpAnyH_take (i := 0) (v := ?vg0) rfl (by kernel_rfl) (by kernel_rfl) (by kernel_rfl) (fun _ _ _ h => h) (Or.inl ⟨by rfl, ?yg0⟩) (by assumption) ?rg0
          case yg0 => intro w' hSw; (try dsimp only at hSw); go_simp; try (with_reducible rfl)
          go_simp
          refine wpAnyH_take (i := 1) (v := ?vg1) rfl (by kernel_rfl) (by kernel_rfl) (by kernel_rfl) (fun _ _ _ h => h) (Or.inl ⟨by rfl, ?yg1⟩) (by assumption) ?rg1
          case yg1 => intro w' hSw; (try dsimp only at hSw); go_simp; try (with_reducible rfl)
          go_simp
          refine wpAnyH_take (i := 2) (v := ?vg2) rfl (by kernel_rfl) (by kernel_rfl) (by kernel_rfl) (fun _ _ _ h => h) (Or.inl ⟨by rfl, ?yg2⟩) (by assumption) ?rg2
          case yg2 => intro w' hSw; (try dsimp only at hSw); go_simp; try (with_reducible rfl)
          go_simp
          refine wpAnyH_take (i := 3) (v := ?vg3) rfl (by kernel_rfl) (by kernel_rfl) (by kernel_rfl) (fun _ _ _ h => h) (Or.inl ⟨by rfl, ?yg3⟩) (by assumption) ?rg3
          case yg3 => intro w' hSw; (try dsimp only at hSw); go_simp; try (with_reducible rfl)
          go_simp
          refine wpAnyH_take (i := 4) (v := ?vg4) rfl (by kernel_rfl) (by kernel_rfl) (by kernel_rfl) (fun _ _ _ h => h) (Or.inl ⟨by first | rfl | (go_simp; done), ?yg4⟩) (by assumption) ?rg4
          case yg4 => intro w' hSw; (try dsimp only at hSw); go_simp; try (with_reducible rfl)
          go_simp
          refine wpAnyH_take (i := 5) (v := ?vg5) rfl (by kernel_rfl) (by kernel_rfl) (by kernel_rfl) (fun _ _ _ h => h) (Or.inl ⟨by first | rfl | (go_simp; done), ?yg5⟩) (by assumption) ?rg5
          case yg5 => intro w' hSw; (try dsimp only at hSw); go_simp; try (with_reducible rfl)
          go_simp
          refine wpAnyH_take (i := 6) (v := ?vg6) rfl (by kernel_rfl) (by kernel_rfl) (by kernel_rfl) (fun _ _ _ h => h) (Or.inl ⟨by first | rfl | (go_simp; done), ?yg6⟩) (by assumption) ?rg6
          case yg6 => intro w' hSw; (try dsimp only at hSw); go_simp; try (with_reducible rfl)
          go_simp
          refine wpAnyH_take (i := 7) (v := ?vg7) rfl (by kernel_rfl) (by kernel_rfl) (by kernel_rfl) (fun _ _ _ h => h) (Or.inl ⟨by rfl, ?yg7⟩) (by assumption) ?rg7
          case yg7 => intro w' hSw; (try dsimp only at hSw); go_simp; try (with_reducible rfl)
          go_simp
          refine wpAnyH_take (i := 8) (v := ?vg8) rfl (by kernel_rfl) (by kernel_rfl) (by kernel_rfl) (fun _ _ _ h => h) (Or.inl ⟨by rfl, ?yg8⟩) (by assumption) ?rg8
          case yg8 => intro w' hSw; (try dsimp only at hSw); go_simp; try (with_reducible rfl)
          go_simp
          refine wpAnyH_take (i := 9) (v := ?vg9) rfl (by kernel_rfl) (by kernel_rfl) (by kernel_rfl) (fun _ _ _ h => h) (Or.inl ⟨by first | rfl | (go_simp; done), ?yg9⟩) (by assumption) ?rg9
          case yg9 => intro w' hSw; (try dsimp only at hSw); go_simp; try (with_reducible rfl)
          go_simp
          refine wpAnyH_take (i := 10) (v := ?vg10) rfl (by kernel_rfl) (by kernel_rfl) (by kernel_rfl) (fun _ _ _ h => h) (Or.inl ⟨by first | rfl | (go_simp; done), ?yg10⟩) (by assumption) ?rg10
          case yg10 => intro w' hSw; (try dsimp only at hSw); go_simp; try (with_reducible rfl)
          go_simp
          refine wpAnyH_take (i := 11) (v := ?vg11) rfl (by kernel_rfl) (by kernel_rfl) (by kernel_rfl) (fun _ _ _ h => h) (Or.inl ⟨by first | rfl | (go_simp; done), ?yg11⟩) (by assumption) ?rg11
          case yg11 => intro w' hSw; (try dsimp only at hSw); go_simp; try (with_reducible rfl)
          go_simp
          refine wpAnyH_take (i := 12) (v := ?vg12) rfl (by kernel_rfl) (by kernel_rfl) (by kernel_rfl) (fun _ _ _ h => h) (Or.inl ⟨by rfl, ?yg12⟩) (by assumption) ?rg12
          case yg12 => intro w' hSw; (try dsimp only at hSw); go_simp; try (with_reducible rfl)
          go_simp
          refine wpAnyH_take (i := 13) (v := ?vg13) rfl (by kernel_rfl) (by kernel_rfl) (by kernel_rfl) (fun _ _ _ h => h) (Or.inl ⟨by rfl, ?yg13⟩) (by assumption) ?rg13
          case yg13 => intro w' hSw; (try dsimp only at hSw); go_simp; try (with_reducible rfl)
          go_simp
          refine wpAnyH_take (i := 14) (v := ?vg14) rfl (by kernel_rfl) (by kernel_rfl) (by kernel_rfl) (fun _ _ _ h => h) (Or.inl ⟨by first | rfl | (go_simp; done), ?yg14⟩) (by assumption) ?rg14
          case yg14 => intro w' hSw; (try dsimp only at hSw); go_simp; try (with_reducible rfl)
          go_simp
          refine wpAnyH_take (i := 15) (v := ?vg15) rfl (by kernel_rfl) (by kernel_rfl) (by kernel_rfl) (fun _ _ _ h => h) (Or.inl ⟨by first | rfl | (go_simp; done), ?yg15⟩) (by assumption) ?rg15
          case yg15 => intro w' hSw; (try dsimp only at hSw); go_simp; try (with_reducible rfl)
          go_simp
          refine wpAnyH_take (i := 16) (v := ?vg16) rfl (by kernel_rfl) (by kernel_rfl) (by kernel_rfl) (fun _ _ _ h => h) (Or.inl ⟨by first | rfl | (go_simp; done), ?yg16⟩) (by assumption) ?rg16
          case yg16 => intro w' hSw; (try dsimp only at hSw); go_simp; try (with_reducible rfl)
          go_simp
          refine wpAnyH_take (i := 17) (v := ?vg17) rfl (by kernel_rfl) (by kernel_rfl) (by kernel_rfl) (fun _ _ _ h => h) (Or.inl ⟨by rfl, ?yg17⟩) (by assumption) ?rg17
          case yg17 => intro w' hSw; (try dsimp only at hSw); go_simp; try (with_reducible rfl)
          go_simp
          refine wpAnyH_take (i := 18) (v := ?vg18) rfl (by kernel_rfl) (by kernel_rfl) (by kernel_rfl) (fun _ _ _ h => h) (Or.inl ⟨by rfl, ?yg18⟩) (by assumption) ?rg18
          case yg18 => intro w' hSw; (try dsimp only at hSw); go_simp; try (with_reducible rfl)
          go_simp
          refine wpAnyH_take (i := 19) (v := ?vg19) rfl (by kernel_rfl) (by kernel_rfl) (by kernel_rfl) (fun _ _ _ h => h) (Or.inl ⟨by first | rfl | (go_simp; done), ?yg19⟩) (by assumption) ?rg19
          case yg19 => intro w' hSw; (try dsimp only at hSw); go_simp; try (with_reducible rfl)
          go_simp
          refine wpAnyH_take (i := 20) (v := ?vg20) rfl (by kernel_rfl) (by kernel_rfl) (by kernel_rfl) (fun _ _ _ h => h) (Or.inl ⟨by first | rfl | (go_simp; done), ?yg20⟩) (by assumption) ?rg20
          case yg20 => intro w' hSw; (try dsimp only at hSw); go_simp; try (with_reducible rfl)
          go_simp
          refine wpAnyH_take (i := 21) (v := ?vg21) rfl (by kernel_rfl) (by kernel_rfl) (by kernel_rfl) (fun _ _ _ h => h) (Or.inl ⟨by first | rfl | (go_simp; done), ?yg21⟩) (by assumption) ?rg21
          case yg21 => intro w' hSw; (try dsimp only at hSw); go_simp; try (with_reducible rfl)
          go_simp
          refine wpAnyH_take (i := 22) (v := ?vg22) rfl (by kernel_rfl) (by kernel_rfl) (by kernel_rfl) (fun _ _ _ h => h) (Or.inl ⟨by first | rfl | (go_simp; done), ?yg22⟩) (by assumption) ?rg22
          case yg22 => intro w' hSw; (try dsimp only at hSw); go_simp; try (with_reducible rfl)
          go_simp
          refine wpAnyH_take (i := 23) (v := ?vg23) rfl (by kernel_rfl) (by kernel_rfl) (by kernel_rfl) (fun _ _ _ h => h) (Or.inl ⟨by first | rfl | (go_simp; done), ?yg23⟩) (by assumption) ?rg23
          case yg23 => intro w' hSw; (try dsimp only at hSw); go_simp; try (with_reducible rfl)
          go_simp
          refine wpAnyH_take (i := 24) (v := ?vg24) rfl (by kernel_rfl) (by kernel_rfl) (by kernel_rfl) (fun _ _ _ h => h) (Or.inl ⟨by first | rfl | (go_simp; done), ?yg24⟩) (by assumption) ?rg24
          case yg24 => intro w' hSw; (try dsimp only at hSw); go_simp; try (with_reducible rfl)
          go_simp
          refine wpAnyH_take (i := 25) (v := ?vg25) rfl (by kernel_rfl) (by kernel_rfl) (by kernel_rfl) (fun _ _ _ h => h) (Or.inl ⟨by first | rfl | (go_simp; done), ?yg25⟩) (by assumption) ?rg25
          case yg25 => intro w' hSw; (try dsimp only at hSw); go_simp; try (with_reducible rfl)
          go_simp
          refine wpAnyH_take (i := 26) (v := ?vg26) rfl (by kernel_rfl) (by kernel_rfl) (by kernel_rfl) (fun _ _ _ h => h) (Or.inl ⟨by first | rfl | (go_simp; done), ?yg26⟩) (by assumption) ?rg26
          case yg26 => intro w' hSw; (try dsimp only at hSw); go_simp; try (with_reducible rfl)
          go_simp
          refine wpAnyH_take (i := 27) (v := ?vg27) rfl (by kernel_rfl) (by kernel_rfl) (by kernel_rfl) (fun _ _ _ h => h) (Or.inl ⟨by first | rfl | (go_simp; done), ?yg27⟩) (by assumption) ?rg27
          case yg27 => intro w' hSw; (try dsimp only at hSw); go_simp; try (with_reducible rfl)
          go_simp
          refine wpAnyH_ready (rs := [28]) (by kernel_rfl) (by simp) ?_
          refine AllReadyH.cons rfl (fun K hK => ?_) AllReadyH.nil
          go_simp
          go_at_call 38
          refine (pointCompare_any q.x q.y y.x y.y _).mono ?_
          rw [show (if cmpI q.y y.y ≠ 0 then cmpI q.y y.y else cmpI q.x y.x) = o from HO.out]
          rintro e w7 ⟨rfl, hb⟩
          have HN := (show Hid (Below w1.heap.size w1 w7) from below_on HN.out (by go_grown) hb)
          clear hb
          refine hK.out _ _ ?_ (fun hHeld => ?_)
          · (try dsimp only); exact HS _ (by first | exact below_on2 HN.out (by go_grown) | go_grown)
          clear hK K
          try go_simp
          refine wpAnyH_take (i := 29) (v := ?vg29) rfl (by kernel_rfl) (by kernel_rfl) (by kernel_rfl) (fun _ _ _ h => h) (Or.inl ⟨by first | rfl | (go_simp; done), ?yg29⟩) (by assumption) ?rg29
          case yg29 => intro w' hSw; (try dsimp only at hSw); go_simp; try (with_reducible rfl)
          go_simp
          refine wpAnyH_take (i := 30) (v := ?vg30) rfl (by kernel_rfl) (by kernel_rfl) (by kernel_rfl) (fun _ _ _ h => h) (Or.inl ⟨by first | rfl | (go_simp; done), ?yg30⟩) (by assumption) ?rg30
          case yg30 => intro w' hSw; (try dsimp only at hSw); go_simp; try (with_reducible rfl)
          go_simp
          refine wpAnyH_take (i := 31) (v := ?vg31) rfl (by kernel_rfl) (by kernel_rfl) (by kernel_rfl) (fun _ _ _ h => h) (Or.inl ⟨by rfl, ?yg31⟩) (by assumption) ?rg31
          case yg31 => intro w' hSw; (try dsimp only at hSw); go_simp; try (with_reducible rfl)
          go_simp
          refine wpAnyH_done (by kernel_rfl) ?_ _
          go_wp2
          go_roundg (n - (j + 1 + 1))
          case measure => omega
          case rel =>
            refine ⟨j + 1 + 1, by omega, by omega, by go_num, (show Below _ _ _ from below_on HB.out HN.out (by go_grown)), (show Aside _ from fun i hi => ?_)⟩
            by_cases e : i = j + 1
            · subst e
              rw [HY.out]
              exact HG.out
            · exact AA.out i (by omega)
    · have hltz : ¬ (kk : Int) < (n : Int) := by omega
      obtain rfl : kk = n := by omega
      go_wp2
      go_ret
      refine ⟨ret_bool ?_, BW.out⟩
      rw [hood_true_all l (by rw [HL.out]; exact HN25.out) (fun k hk => AA.out k (by rw [HL.out] at hk; exact hk))]

end Go.Proofs.YtlmdjkmcplobnaaDoor

