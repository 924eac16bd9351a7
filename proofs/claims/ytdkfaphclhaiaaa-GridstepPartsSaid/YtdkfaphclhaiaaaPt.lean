/-
  Comparing integers and points: cmp.Compare, cmp.Or, point.Compare, walked.
-/
import Derived.Test.YtdkfaphclhaiaaaProg
import Derived.Test.YtdkfaphclhaiaaaWalk
import Derived.Deep.QuietTactic
import Derived.BigQuiet
import Derived.Deep.Light
import Derived.Deep.RegionHeld3
namespace Go.Proofs.Ytdkfaphclhaiaaa
open Go.RowKit
set_option linter.unusedSimpArgs false
set_option linter.unusedVariables false

/-- -1, 0 or 1. -/
def cmpI (a b : Int) : Int := if a < b then -1 else if b < a then 1 else 0
theorem cmpI_zero (a b : Int) : cmpI a b = 0 ↔ a = b := by unfold cmpI; split <;> (try split) <;> omega
theorem cmpI_cases (a b : Int) : cmpI a b = -1 ∧ a < b ∨ cmpI a b = 1 ∧ b < a ∨ cmpI a b = 0 ∧ a = b := by unfold cmpI; split <;> (try split) <;> omega
set_option maxHeartbeats 400000 in
theorem isNaN_any (x : Int) (w : World) : Calls Try.prog 57 #[.int .i64 x] w fun e w' => e = .returned (.bool false) ∧ w = w' := by
  go_enter Try.func57, Try.ntmps57
  go_wp2
  go_ret
  exact ⟨ret_bool (by simp), rfl⟩

set_option maxHeartbeats 400000 in
theorem cmpCompare_any (a b : Int) (w : World) : Calls Try.prog 56 #[.int .i64 a, .int .i64 b] w fun e w' => e = .returned (.int .i64 (cmpI a b)) ∧ w = w' := by
  go_enter Try.func56, Try.ntmps56
  go_wp2_with fail
  refine (isNaN_any a _).mono ?_
  rintro e w1 ⟨rfl, rfl⟩
  go_wp2_with fail
  refine (isNaN_any b _).mono ?_
  rintro e w1 ⟨rfl, rfl⟩
  go_wp2
  all_goals go_ret
  all_goals refine ⟨ret_i64 ?_, rfl⟩
  all_goals (unfold cmpI; split <;> (try split) <;> omega)

set_option maxHeartbeats 400000 in
theorem cmpOr_any (A : Option Addr) (c : Nat) (a b : Int) (w : World) (h : Rd w w.heap.size 1 A 2 (ints [a, b])) : Calls Try.prog 55 #[.slice A 2 c] w fun e w' => e = .returned (.int .i64 (if a ≠ 0 then a else b)) ∧ w = w' := by
  obtain ⟨ad, rfl, hb, h0⟩ := h.int (k := 0) (by omega)
  obtain ⟨ad', e', hb', h1⟩ := h.int (k := 1) (by omega)
  cases e'
  simp only [List.getD_cons_zero, List.getD_cons_succ] at h0 h1
  have H0 : Hid (w.cell? (ad.add 0) = some (.int .i64 a)) := h0
  have H1 : Hid (w.cell? (ad.add 1) = some (.int .i64 b)) := h1
  clear h0 h1 h
  go_enter Try.func55, Try.ntmps55
  go_wp2
  go_loopg [5, 8] 2 (fun gg _ s8 wr => ∃ kk : Nat, kk ≤ 2 ∧ 2 - kk ≤ gg ∧ s8 = .int .i64 kk ∧ wr = w ∧ Aside (0 < kk → a = 0) ∧ Aside (1 < kk → b = 0))
  case atStart => exact ⟨0, by omega, by omega, rfl, rfl, fun h => absurd h (by omega), fun h => absurd h (by omega)⟩
  case round =>
    obtain ⟨kk, hkk, hg, rfl, rfl, A0, A1⟩ := hrel
    have hc : kk = 0 ∨ kk = 1 ∨ kk = 2 := by omega
    rcases hc with rfl | rfl | rfl
    · have h0 : wr.cell? ad = some (.int .i64 a) := H0.out
      by_cases hz : a = 0
      · subst hz
        go_wp2
        go_roundg 1
        case measure => omega
        case rel => exact ⟨1, by omega, by omega, by go_num, rfl, (by first | exact trivial | exact fun _ => trivial | exact fun _ => rfl), (show Aside _ from fun h => absurd h (by omega))⟩
      · have hz' : (a != 0) = true := by simpa using hz
        go_wp2
        go_ret
        exact ⟨ret_i64 (by simp [hz]), rfl⟩
    · have h1 : wr.cell? ⟨ad.block, ad.off + 1, none⟩ = some (.int .i64 b) := H1.out
      have ha := A0.out (by omega)
      by_cases hz : b = 0
      · subst hz
        go_wp2
        go_roundg 0
        case measure => omega
        case rel => exact ⟨2, by omega, by omega, by go_num, rfl, (show Aside _ from fun _ => ha), (by first | exact trivial | exact fun _ => trivial | exact fun _ => rfl)⟩
      · have hz' : (b != 0) = true := by simpa using hz
        have HA : Hid (a = 0) := ha
        clear ha
        go_wp2
        go_ret
        exact ⟨ret_i64 (by have h1 := HA.out; simp [h1]), rfl⟩
    · have HA : Hid (a = 0) := A0.out (by omega)
      have HB : Hid (b = 0) := A1.out (by omega)
      go_wp2
      go_ret
      exact ⟨ret_i64 (by have h1 := HA.out; have h2 := HB.out; simp [h1, h2]), rfl⟩

set_option maxRecDepth 100000 in
set_option maxHeartbeats 1000000 in
theorem pointCompare_any (a b c d : Int) (w : World) : Calls Try.prog 54 #[.agg #[.int .i64 a, .int .i64 b], .agg #[.int .i64 c, .int .i64 d]] w fun e w' => e = .returned (.int .i64 (if cmpI b d ≠ 0 then cmpI b d else cmpI a c)) ∧ Below w.heap.size w w' := by
  generalize hp : cmpI b d = p
  generalize hq : cmpI a c = q
  have HP : Hid (cmpI b d = p) := hp
  have HQ : Hid (cmpI a c = q) := hq
  clear hp hq
  generalize hr : (if p ≠ 0 then p else q) = r
  have HR : Hid ((if p ≠ 0 then p else q) = r) := hr
  clear hr
  go_enter Try.func54, Try.ntmps54
  go_wp2_with fail
  have RA : Hid (Row (World.alloc (World.alloc w _) _) w.heap.size 65 [.int .i64 a, .int .i64 b]) := (Row.new w 65 [.int .i64 a, .int .i64 b]).alloc (.cells #[.int .i64 c, .int .i64 d] 65)
  have RB : Hid (Row (World.alloc (World.alloc w (.cells #[.int .i64 a, .int .i64 b] 65)) _) (w.heap.size + 1) 65 [.int .i64 c, .int .i64 d]) := rowNew1 w _ 65 [.int .i64 c, .int .i64 d]
  have HB : Hid (Below w.heap.size w (World.alloc (World.alloc w (.cells #[.int .i64 a, .int .i64 b] 65)) (.cells #[.int .i64 c, .int .i64 d] 65))) := by show Below _ _ _; go_grown
  revert RA RB HB
  generalize World.alloc (World.alloc w (.cells #[.int .i64 a, .int .i64 b] 65)) (.cells #[.int .i64 c, .int .i64 d] 65) = w1
  intro RA RB HB
  have HS : ∀ w', Below w1.heap.size w1 w' → w'.cell? ⟨w.heap.size, 0, none⟩ = some (.int .i64 a) ∧ w'.cell? ⟨w.heap.size, 1, none⟩ = some (.int .i64 b) ∧ w'.cell? ⟨w.heap.size + 1, 0, none⟩ = some (.int .i64 c) ∧ w'.cell? ⟨w.heap.size + 1, 1, none⟩ = some (.int .i64 d) := fun w' hw => ⟨(rowCells RA.out hw).cell 0, (rowCells RA.out hw).cell 1, (rowCells RB.out hw).cell 0, (rowCells RB.out hw).cell 1⟩
  have HN : Hid (Below w1.heap.size w1 w1) := Below.refl _ _
  clear RA RB
  go_region_held3 (fun w' => w'.cell? ⟨w.heap.size, 0, none⟩ = some (.int .i64 a) ∧ w'.cell? ⟨w.heap.size, 1, none⟩ = some (.int .i64 b) ∧ w'.cell? ⟨w.heap.size + 1, 0, none⟩ = some (.int .i64 c) ∧ w'.cell? ⟨w.heap.size + 1, 1, none⟩ = some (.int .i64 d)) (exact HS _ (by first | exact below_on2 HN.out (by go_grown) | go_grown)) (first
    | (go_at_call_of 56 (Value.int .i64 b)
       refine (cmpCompare_any b d _).mono ?_
       rw [HP.out]
       rintro e w7 ⟨rfl, rfl⟩)
    | (go_at_call 56
       refine (cmpCompare_any a c _).mono ?_
       rw [HQ.out]
       rintro e w7 ⟨rfl, rfl⟩)
    | (go_at_call 55
       refine (cmpOr_any _ _ p q _ (by first | exact ((Row.new w1 3 (ints [p, q])).drew).rd rfl | exact (Row.new w1 3 (ints [p, q])).rd rfl | exact ((Row.new w1 3 (ints [p, q])).drewN _).rd rfl)).mono ?_
       rw [HR.out]
       rintro e w7 ⟨rfl, rfl⟩))
  all_goals
    go_wp2
    go_ret
    exact ⟨rfl, below_on2 HB.out (by go_grown)⟩
end Go.Proofs.Ytdkfaphclhaiaaa
