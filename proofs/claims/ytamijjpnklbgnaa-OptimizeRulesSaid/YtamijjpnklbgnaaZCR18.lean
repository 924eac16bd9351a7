/-
  The examples of the chapter on making circuits smaller: the law's awake and few, walked.
-/
import Derived.Test.YtamijjpnklbgnaaZCR17
namespace Go.Proofs.Ytamijjpnklbgnaa
open Go.RowKit
set_option linter.unusedSimpArgs false
set_option linter.unusedVariables false
def fewB (c : Circ) (gn on : Nat) : Bool := decide (gn ≤ 200) && (decide (c.inputs ≤ 100) && decide (on ≤ 100))
theorem fewZ_any (c : Circ) (GA OA : Option Addr) (gn gc on oc : Nat) (w : World) (hg : gn ≤ maxLen) (ho : on ≤ maxLen) :
    Calls Try.prog 9 #[.agg #[.int .i64 c.inputs, .slice GA gn gc, .slice OA on oc]] w fun e w' => e = .returned (.bool (fewB c gn on)) ∧ Below w.heap.size w w' := by
  unfold maxLen at hg ho
  by_cases h1 : gn ≤ 200
  · have d1 : decide ((gn : Int) ≤ 200) = true := decide_eq_true (by omega)
    by_cases h2 : c.inputs ≤ 100
    · have d2 : decide (c.inputs ≤ 100) = true := decide_eq_true h2
      have HV : Hid (∀ _ : Unit, fewB c gn on = decide (on ≤ 100)) := fun _ => by unfold fewB; rw [decide_eq_true h1, decide_eq_true h2, Bool.true_and, Bool.true_and]
      go_enter Try.func9, Try.ntmps9
      go_wp2
      go_ret
      exact ⟨ret_bool (by rw [HV.out ()]; first | rfl | (rw [Bool.eq_iff_iff]; simp; done) | (rw [Bool.eq_iff_iff]; simp; omega)), by go_grown⟩
    · have d2 : decide (c.inputs ≤ 100) = false := decide_eq_false h2
      have HV : Hid (∀ _ : Unit, fewB c gn on = false) := fun _ => by unfold fewB; rw [decide_eq_false h2, Bool.false_and, Bool.and_false]
      go_enter Try.func9, Try.ntmps9
      go_wp2
      go_ret
      exact ⟨ret_bool (by rw [HV.out ()]), by go_grown⟩
  · have d1 : decide ((gn : Int) ≤ 200) = false := decide_eq_false (by omega)
    have HV : Hid (∀ _ : Unit, fewB c gn on = false) := fun _ => by unfold fewB; rw [decide_eq_false h1, Bool.false_and]
    go_enter Try.func9, Try.ntmps9
    go_wp2
    go_ret
    exact ⟨ret_bool (by rw [HV.out ()]), by go_grown⟩
def exA : Circ := ⟨1, [⟨1, 0, 0⟩, ⟨3, 0, 1⟩], [2]⟩
def exB : Circ := ⟨2, [⟨3, 0, 1⟩, ⟨3, 1, 0⟩, ⟨5, 2, 3⟩], [4]⟩
def exF : Circ := ⟨1, [⟨1, 0, 0⟩, ⟨3, 0, 1⟩], [0]⟩
def exT : Circ := ⟨1, [], [0]⟩
def exS : Circ := ⟨2, [⟨3, 0, 1⟩, ⟨3, 0, 1⟩, ⟨5, 2, 2⟩], [4]⟩
def exL : Circ := ⟨2, [⟨0, 0, 0⟩], [2]⟩
theorem ex1 : foldC exA = exF := by kernel_rfl
theorem ex2 : trimC exF = exT := by kernel_rfl
theorem ex3 : shareC exB = exS := by kernel_rfl
theorem ex4 : allC exB = exL := by kernel_rfl
set_option maxRecDepth 100000 in
set_option maxHeartbeats 8000000 in
theorem awake_any (w : World) : Calls Try.prog 10 #[] w fun e w' => e = .returned (.bool true) ∧ Below w.heap.size w w' := by
  go_enter Try.func10, Try.ntmps10
  go_wp2_with fail
  have GA : Hid (Row (World.alloc (World.alloc (World.alloc (World.alloc (World.alloc (World.alloc (World.alloc (World.alloc (World.alloc (World.alloc (World.alloc (World.alloc (World.alloc (World.alloc w (.cells #[.int .i64 1, .int .i64 0, .int .i64 0, .int .i64 3, .int .i64 0, .int .i64 1] 32)) (.cells #[.int .i64 2] 3)) (.cells #[.int .i64 1, .slice (some ⟨w.heap.size, 0, none⟩) 2 2, .slice (some ⟨w.heap.size + 1, 0, none⟩) 1 1] 25)) (.cells #[.int .i64 3, .int .i64 0, .int .i64 1, .int .i64 3, .int .i64 1, .int .i64 0, .int .i64 5, .int .i64 2, .int .i64 3] 32)) (.cells #[.int .i64 4] 3)) (.cells #[.int .i64 2, .slice (some ⟨w.heap.size + 1 + 1 + 1, 0, none⟩) 3 3, .slice (some ⟨w.heap.size + 1 + 1 + 1 + 1, 0, none⟩) 1 1] 25)) (.cells #[.int .i64 0] 3)) (.cells #[.int .i64 1, .slice (some ⟨w.heap.size, 0, none⟩) 2 2, .slice (some ⟨w.heap.size + 1 + 1 + 1 + 1 + 1 + 1, 0, none⟩) 1 1] 25)) (.cells #[.int .i64 3, .int .i64 0, .int .i64 1, .int .i64 3, .int .i64 0, .int .i64 1, .int .i64 5, .int .i64 2, .int .i64 2] 32)) (.cells #[.int .i64 4] 3)) (.cells #[.int .i64 2, .slice (some ⟨w.heap.size + 1 + 1 + 1 + 1 + 1 + 1 + 1 + 1, 0, none⟩) 3 3, .slice (some ⟨w.heap.size + 1 + 1 + 1 + 1 + 1 + 1 + 1 + 1 + 1, 0, none⟩) 1 1] 25)) (.cells #[.int .i64 0, .int .i64 0, .int .i64 0] 32)) (.cells #[.int .i64 2] 3)) (.cells #[.int .i64 2, .slice (some ⟨w.heap.size + 1 + 1 + 1 + 1 + 1 + 1 + 1 + 1 + 1 + 1 + 1, 0, none⟩) 1 1, .slice (some ⟨w.heap.size + 1 + 1 + 1 + 1 + 1 + 1 + 1 + 1 + 1 + 1 + 1 + 1, 0, none⟩) 1 1] 25)) (w.heap.size) 32 [.int .i64 1, .int .i64 0, .int .i64 0, .int .i64 3, .int .i64 0, .int .i64 1]) := by
    have h0 := Row.new w 32 [.int .i64 1, .int .i64 0, .int .i64 0, .int .i64 3, .int .i64 0, .int .i64 1]
    try simp only [World.size_alloc] at h0
    exact (((((((((((((h0.alloc _).alloc _).alloc _).alloc _).alloc _).alloc _).alloc _).alloc _).alloc _).alloc _).alloc _).alloc _).alloc _)
  have OA : Hid (Row (World.alloc (World.alloc (World.alloc (World.alloc (World.alloc (World.alloc (World.alloc (World.alloc (World.alloc (World.alloc (World.alloc (World.alloc (World.alloc (World.alloc w (.cells #[.int .i64 1, .int .i64 0, .int .i64 0, .int .i64 3, .int .i64 0, .int .i64 1] 32)) (.cells #[.int .i64 2] 3)) (.cells #[.int .i64 1, .slice (some ⟨w.heap.size, 0, none⟩) 2 2, .slice (some ⟨w.heap.size + 1, 0, none⟩) 1 1] 25)) (.cells #[.int .i64 3, .int .i64 0, .int .i64 1, .int .i64 3, .int .i64 1, .int .i64 0, .int .i64 5, .int .i64 2, .int .i64 3] 32)) (.cells #[.int .i64 4] 3)) (.cells #[.int .i64 2, .slice (some ⟨w.heap.size + 1 + 1 + 1, 0, none⟩) 3 3, .slice (some ⟨w.heap.size + 1 + 1 + 1 + 1, 0, none⟩) 1 1] 25)) (.cells #[.int .i64 0] 3)) (.cells #[.int .i64 1, .slice (some ⟨w.heap.size, 0, none⟩) 2 2, .slice (some ⟨w.heap.size + 1 + 1 + 1 + 1 + 1 + 1, 0, none⟩) 1 1] 25)) (.cells #[.int .i64 3, .int .i64 0, .int .i64 1, .int .i64 3, .int .i64 0, .int .i64 1, .int .i64 5, .int .i64 2, .int .i64 2] 32)) (.cells #[.int .i64 4] 3)) (.cells #[.int .i64 2, .slice (some ⟨w.heap.size + 1 + 1 + 1 + 1 + 1 + 1 + 1 + 1, 0, none⟩) 3 3, .slice (some ⟨w.heap.size + 1 + 1 + 1 + 1 + 1 + 1 + 1 + 1 + 1, 0, none⟩) 1 1] 25)) (.cells #[.int .i64 0, .int .i64 0, .int .i64 0] 32)) (.cells #[.int .i64 2] 3)) (.cells #[.int .i64 2, .slice (some ⟨w.heap.size + 1 + 1 + 1 + 1 + 1 + 1 + 1 + 1 + 1 + 1 + 1, 0, none⟩) 1 1, .slice (some ⟨w.heap.size + 1 + 1 + 1 + 1 + 1 + 1 + 1 + 1 + 1 + 1 + 1 + 1, 0, none⟩) 1 1] 25)) (w.heap.size + 1) 3 [.int .i64 2]) := by
    have h0 := Row.new (World.alloc w (.cells #[.int .i64 1, .int .i64 0, .int .i64 0, .int .i64 3, .int .i64 0, .int .i64 1] 32)) 3 [.int .i64 2]
    try simp only [World.size_alloc] at h0
    exact ((((((((((((h0.alloc _).alloc _).alloc _).alloc _).alloc _).alloc _).alloc _).alloc _).alloc _).alloc _).alloc _).alloc _)
  have CA : Hid (Row (World.alloc (World.alloc (World.alloc (World.alloc (World.alloc (World.alloc (World.alloc (World.alloc (World.alloc (World.alloc (World.alloc (World.alloc (World.alloc (World.alloc w (.cells #[.int .i64 1, .int .i64 0, .int .i64 0, .int .i64 3, .int .i64 0, .int .i64 1] 32)) (.cells #[.int .i64 2] 3)) (.cells #[.int .i64 1, .slice (some ⟨w.heap.size, 0, none⟩) 2 2, .slice (some ⟨w.heap.size + 1, 0, none⟩) 1 1] 25)) (.cells #[.int .i64 3, .int .i64 0, .int .i64 1, .int .i64 3, .int .i64 1, .int .i64 0, .int .i64 5, .int .i64 2, .int .i64 3] 32)) (.cells #[.int .i64 4] 3)) (.cells #[.int .i64 2, .slice (some ⟨w.heap.size + 1 + 1 + 1, 0, none⟩) 3 3, .slice (some ⟨w.heap.size + 1 + 1 + 1 + 1, 0, none⟩) 1 1] 25)) (.cells #[.int .i64 0] 3)) (.cells #[.int .i64 1, .slice (some ⟨w.heap.size, 0, none⟩) 2 2, .slice (some ⟨w.heap.size + 1 + 1 + 1 + 1 + 1 + 1, 0, none⟩) 1 1] 25)) (.cells #[.int .i64 3, .int .i64 0, .int .i64 1, .int .i64 3, .int .i64 0, .int .i64 1, .int .i64 5, .int .i64 2, .int .i64 2] 32)) (.cells #[.int .i64 4] 3)) (.cells #[.int .i64 2, .slice (some ⟨w.heap.size + 1 + 1 + 1 + 1 + 1 + 1 + 1 + 1, 0, none⟩) 3 3, .slice (some ⟨w.heap.size + 1 + 1 + 1 + 1 + 1 + 1 + 1 + 1 + 1, 0, none⟩) 1 1] 25)) (.cells #[.int .i64 0, .int .i64 0, .int .i64 0] 32)) (.cells #[.int .i64 2] 3)) (.cells #[.int .i64 2, .slice (some ⟨w.heap.size + 1 + 1 + 1 + 1 + 1 + 1 + 1 + 1 + 1 + 1 + 1, 0, none⟩) 1 1, .slice (some ⟨w.heap.size + 1 + 1 + 1 + 1 + 1 + 1 + 1 + 1 + 1 + 1 + 1 + 1, 0, none⟩) 1 1] 25)) (w.heap.size + 1 + 1) 25 [.int .i64 1, .slice (some ⟨w.heap.size, 0, none⟩) 2 2, .slice (some ⟨w.heap.size + 1, 0, none⟩) 1 1]) := by
    have h0 := Row.new (World.alloc (World.alloc w (.cells #[.int .i64 1, .int .i64 0, .int .i64 0, .int .i64 3, .int .i64 0, .int .i64 1] 32)) (.cells #[.int .i64 2] 3)) 25 [.int .i64 1, .slice (some ⟨w.heap.size, 0, none⟩) 2 2, .slice (some ⟨w.heap.size + 1, 0, none⟩) 1 1]
    try simp only [World.size_alloc] at h0
    exact (((((((((((h0.alloc _).alloc _).alloc _).alloc _).alloc _).alloc _).alloc _).alloc _).alloc _).alloc _).alloc _)
  have GB : Hid (Row (World.alloc (World.alloc (World.alloc (World.alloc (World.alloc (World.alloc (World.alloc (World.alloc (World.alloc (World.alloc (World.alloc (World.alloc (World.alloc (World.alloc w (.cells #[.int .i64 1, .int .i64 0, .int .i64 0, .int .i64 3, .int .i64 0, .int .i64 1] 32)) (.cells #[.int .i64 2] 3)) (.cells #[.int .i64 1, .slice (some ⟨w.heap.size, 0, none⟩) 2 2, .slice (some ⟨w.heap.size + 1, 0, none⟩) 1 1] 25)) (.cells #[.int .i64 3, .int .i64 0, .int .i64 1, .int .i64 3, .int .i64 1, .int .i64 0, .int .i64 5, .int .i64 2, .int .i64 3] 32)) (.cells #[.int .i64 4] 3)) (.cells #[.int .i64 2, .slice (some ⟨w.heap.size + 1 + 1 + 1, 0, none⟩) 3 3, .slice (some ⟨w.heap.size + 1 + 1 + 1 + 1, 0, none⟩) 1 1] 25)) (.cells #[.int .i64 0] 3)) (.cells #[.int .i64 1, .slice (some ⟨w.heap.size, 0, none⟩) 2 2, .slice (some ⟨w.heap.size + 1 + 1 + 1 + 1 + 1 + 1, 0, none⟩) 1 1] 25)) (.cells #[.int .i64 3, .int .i64 0, .int .i64 1, .int .i64 3, .int .i64 0, .int .i64 1, .int .i64 5, .int .i64 2, .int .i64 2] 32)) (.cells #[.int .i64 4] 3)) (.cells #[.int .i64 2, .slice (some ⟨w.heap.size + 1 + 1 + 1 + 1 + 1 + 1 + 1 + 1, 0, none⟩) 3 3, .slice (some ⟨w.heap.size + 1 + 1 + 1 + 1 + 1 + 1 + 1 + 1 + 1, 0, none⟩) 1 1] 25)) (.cells #[.int .i64 0, .int .i64 0, .int .i64 0] 32)) (.cells #[.int .i64 2] 3)) (.cells #[.int .i64 2, .slice (some ⟨w.heap.size + 1 + 1 + 1 + 1 + 1 + 1 + 1 + 1 + 1 + 1 + 1, 0, none⟩) 1 1, .slice (some ⟨w.heap.size + 1 + 1 + 1 + 1 + 1 + 1 + 1 + 1 + 1 + 1 + 1 + 1, 0, none⟩) 1 1] 25)) (w.heap.size + 1 + 1 + 1) 32 [.int .i64 3, .int .i64 0, .int .i64 1, .int .i64 3, .int .i64 1, .int .i64 0, .int .i64 5, .int .i64 2, .int .i64 3]) := by
    have h0 := Row.new (World.alloc (World.alloc (World.alloc w (.cells #[.int .i64 1, .int .i64 0, .int .i64 0, .int .i64 3, .int .i64 0, .int .i64 1] 32)) (.cells #[.int .i64 2] 3)) (.cells #[.int .i64 1, .slice (some ⟨w.heap.size, 0, none⟩) 2 2, .slice (some ⟨w.heap.size + 1, 0, none⟩) 1 1] 25)) 32 [.int .i64 3, .int .i64 0, .int .i64 1, .int .i64 3, .int .i64 1, .int .i64 0, .int .i64 5, .int .i64 2, .int .i64 3]
    try simp only [World.size_alloc] at h0
    exact ((((((((((h0.alloc _).alloc _).alloc _).alloc _).alloc _).alloc _).alloc _).alloc _).alloc _).alloc _)
  have OB : Hid (Row (World.alloc (World.alloc (World.alloc (World.alloc (World.alloc (World.alloc (World.alloc (World.alloc (World.alloc (World.alloc (World.alloc (World.alloc (World.alloc (World.alloc w (.cells #[.int .i64 1, .int .i64 0, .int .i64 0, .int .i64 3, .int .i64 0, .int .i64 1] 32)) (.cells #[.int .i64 2] 3)) (.cells #[.int .i64 1, .slice (some ⟨w.heap.size, 0, none⟩) 2 2, .slice (some ⟨w.heap.size + 1, 0, none⟩) 1 1] 25)) (.cells #[.int .i64 3, .int .i64 0, .int .i64 1, .int .i64 3, .int .i64 1, .int .i64 0, .int .i64 5, .int .i64 2, .int .i64 3] 32)) (.cells #[.int .i64 4] 3)) (.cells #[.int .i64 2, .slice (some ⟨w.heap.size + 1 + 1 + 1, 0, none⟩) 3 3, .slice (some ⟨w.heap.size + 1 + 1 + 1 + 1, 0, none⟩) 1 1] 25)) (.cells #[.int .i64 0] 3)) (.cells #[.int .i64 1, .slice (some ⟨w.heap.size, 0, none⟩) 2 2, .slice (some ⟨w.heap.size + 1 + 1 + 1 + 1 + 1 + 1, 0, none⟩) 1 1] 25)) (.cells #[.int .i64 3, .int .i64 0, .int .i64 1, .int .i64 3, .int .i64 0, .int .i64 1, .int .i64 5, .int .i64 2, .int .i64 2] 32)) (.cells #[.int .i64 4] 3)) (.cells #[.int .i64 2, .slice (some ⟨w.heap.size + 1 + 1 + 1 + 1 + 1 + 1 + 1 + 1, 0, none⟩) 3 3, .slice (some ⟨w.heap.size + 1 + 1 + 1 + 1 + 1 + 1 + 1 + 1 + 1, 0, none⟩) 1 1] 25)) (.cells #[.int .i64 0, .int .i64 0, .int .i64 0] 32)) (.cells #[.int .i64 2] 3)) (.cells #[.int .i64 2, .slice (some ⟨w.heap.size + 1 + 1 + 1 + 1 + 1 + 1 + 1 + 1 + 1 + 1 + 1, 0, none⟩) 1 1, .slice (some ⟨w.heap.size + 1 + 1 + 1 + 1 + 1 + 1 + 1 + 1 + 1 + 1 + 1 + 1, 0, none⟩) 1 1] 25)) (w.heap.size + 1 + 1 + 1 + 1) 3 [.int .i64 4]) := by
    have h0 := Row.new (World.alloc (World.alloc (World.alloc (World.alloc w (.cells #[.int .i64 1, .int .i64 0, .int .i64 0, .int .i64 3, .int .i64 0, .int .i64 1] 32)) (.cells #[.int .i64 2] 3)) (.cells #[.int .i64 1, .slice (some ⟨w.heap.size, 0, none⟩) 2 2, .slice (some ⟨w.heap.size + 1, 0, none⟩) 1 1] 25)) (.cells #[.int .i64 3, .int .i64 0, .int .i64 1, .int .i64 3, .int .i64 1, .int .i64 0, .int .i64 5, .int .i64 2, .int .i64 3] 32)) 3 [.int .i64 4]
    try simp only [World.size_alloc] at h0
    exact (((((((((h0.alloc _).alloc _).alloc _).alloc _).alloc _).alloc _).alloc _).alloc _).alloc _)
  have CB : Hid (Row (World.alloc (World.alloc (World.alloc (World.alloc (World.alloc (World.alloc (World.alloc (World.alloc (World.alloc (World.alloc (World.alloc (World.alloc (World.alloc (World.alloc w (.cells #[.int .i64 1, .int .i64 0, .int .i64 0, .int .i64 3, .int .i64 0, .int .i64 1] 32)) (.cells #[.int .i64 2] 3)) (.cells #[.int .i64 1, .slice (some ⟨w.heap.size, 0, none⟩) 2 2, .slice (some ⟨w.heap.size + 1, 0, none⟩) 1 1] 25)) (.cells #[.int .i64 3, .int .i64 0, .int .i64 1, .int .i64 3, .int .i64 1, .int .i64 0, .int .i64 5, .int .i64 2, .int .i64 3] 32)) (.cells #[.int .i64 4] 3)) (.cells #[.int .i64 2, .slice (some ⟨w.heap.size + 1 + 1 + 1, 0, none⟩) 3 3, .slice (some ⟨w.heap.size + 1 + 1 + 1 + 1, 0, none⟩) 1 1] 25)) (.cells #[.int .i64 0] 3)) (.cells #[.int .i64 1, .slice (some ⟨w.heap.size, 0, none⟩) 2 2, .slice (some ⟨w.heap.size + 1 + 1 + 1 + 1 + 1 + 1, 0, none⟩) 1 1] 25)) (.cells #[.int .i64 3, .int .i64 0, .int .i64 1, .int .i64 3, .int .i64 0, .int .i64 1, .int .i64 5, .int .i64 2, .int .i64 2] 32)) (.cells #[.int .i64 4] 3)) (.cells #[.int .i64 2, .slice (some ⟨w.heap.size + 1 + 1 + 1 + 1 + 1 + 1 + 1 + 1, 0, none⟩) 3 3, .slice (some ⟨w.heap.size + 1 + 1 + 1 + 1 + 1 + 1 + 1 + 1 + 1, 0, none⟩) 1 1] 25)) (.cells #[.int .i64 0, .int .i64 0, .int .i64 0] 32)) (.cells #[.int .i64 2] 3)) (.cells #[.int .i64 2, .slice (some ⟨w.heap.size + 1 + 1 + 1 + 1 + 1 + 1 + 1 + 1 + 1 + 1 + 1, 0, none⟩) 1 1, .slice (some ⟨w.heap.size + 1 + 1 + 1 + 1 + 1 + 1 + 1 + 1 + 1 + 1 + 1 + 1, 0, none⟩) 1 1] 25)) (w.heap.size + 1 + 1 + 1 + 1 + 1) 25 [.int .i64 2, .slice (some ⟨w.heap.size + 1 + 1 + 1, 0, none⟩) 3 3, .slice (some ⟨w.heap.size + 1 + 1 + 1 + 1, 0, none⟩) 1 1]) := by
    have h0 := Row.new (World.alloc (World.alloc (World.alloc (World.alloc (World.alloc w (.cells #[.int .i64 1, .int .i64 0, .int .i64 0, .int .i64 3, .int .i64 0, .int .i64 1] 32)) (.cells #[.int .i64 2] 3)) (.cells #[.int .i64 1, .slice (some ⟨w.heap.size, 0, none⟩) 2 2, .slice (some ⟨w.heap.size + 1, 0, none⟩) 1 1] 25)) (.cells #[.int .i64 3, .int .i64 0, .int .i64 1, .int .i64 3, .int .i64 1, .int .i64 0, .int .i64 5, .int .i64 2, .int .i64 3] 32)) (.cells #[.int .i64 4] 3)) 25 [.int .i64 2, .slice (some ⟨w.heap.size + 1 + 1 + 1, 0, none⟩) 3 3, .slice (some ⟨w.heap.size + 1 + 1 + 1 + 1, 0, none⟩) 1 1]
    try simp only [World.size_alloc] at h0
    exact ((((((((h0.alloc _).alloc _).alloc _).alloc _).alloc _).alloc _).alloc _).alloc _)
  have OF : Hid (Row (World.alloc (World.alloc (World.alloc (World.alloc (World.alloc (World.alloc (World.alloc (World.alloc (World.alloc (World.alloc (World.alloc (World.alloc (World.alloc (World.alloc w (.cells #[.int .i64 1, .int .i64 0, .int .i64 0, .int .i64 3, .int .i64 0, .int .i64 1] 32)) (.cells #[.int .i64 2] 3)) (.cells #[.int .i64 1, .slice (some ⟨w.heap.size, 0, none⟩) 2 2, .slice (some ⟨w.heap.size + 1, 0, none⟩) 1 1] 25)) (.cells #[.int .i64 3, .int .i64 0, .int .i64 1, .int .i64 3, .int .i64 1, .int .i64 0, .int .i64 5, .int .i64 2, .int .i64 3] 32)) (.cells #[.int .i64 4] 3)) (.cells #[.int .i64 2, .slice (some ⟨w.heap.size + 1 + 1 + 1, 0, none⟩) 3 3, .slice (some ⟨w.heap.size + 1 + 1 + 1 + 1, 0, none⟩) 1 1] 25)) (.cells #[.int .i64 0] 3)) (.cells #[.int .i64 1, .slice (some ⟨w.heap.size, 0, none⟩) 2 2, .slice (some ⟨w.heap.size + 1 + 1 + 1 + 1 + 1 + 1, 0, none⟩) 1 1] 25)) (.cells #[.int .i64 3, .int .i64 0, .int .i64 1, .int .i64 3, .int .i64 0, .int .i64 1, .int .i64 5, .int .i64 2, .int .i64 2] 32)) (.cells #[.int .i64 4] 3)) (.cells #[.int .i64 2, .slice (some ⟨w.heap.size + 1 + 1 + 1 + 1 + 1 + 1 + 1 + 1, 0, none⟩) 3 3, .slice (some ⟨w.heap.size + 1 + 1 + 1 + 1 + 1 + 1 + 1 + 1 + 1, 0, none⟩) 1 1] 25)) (.cells #[.int .i64 0, .int .i64 0, .int .i64 0] 32)) (.cells #[.int .i64 2] 3)) (.cells #[.int .i64 2, .slice (some ⟨w.heap.size + 1 + 1 + 1 + 1 + 1 + 1 + 1 + 1 + 1 + 1 + 1, 0, none⟩) 1 1, .slice (some ⟨w.heap.size + 1 + 1 + 1 + 1 + 1 + 1 + 1 + 1 + 1 + 1 + 1 + 1, 0, none⟩) 1 1] 25)) (w.heap.size + 1 + 1 + 1 + 1 + 1 + 1) 3 [.int .i64 0]) := by
    have h0 := Row.new (World.alloc (World.alloc (World.alloc (World.alloc (World.alloc (World.alloc w (.cells #[.int .i64 1, .int .i64 0, .int .i64 0, .int .i64 3, .int .i64 0, .int .i64 1] 32)) (.cells #[.int .i64 2] 3)) (.cells #[.int .i64 1, .slice (some ⟨w.heap.size, 0, none⟩) 2 2, .slice (some ⟨w.heap.size + 1, 0, none⟩) 1 1] 25)) (.cells #[.int .i64 3, .int .i64 0, .int .i64 1, .int .i64 3, .int .i64 1, .int .i64 0, .int .i64 5, .int .i64 2, .int .i64 3] 32)) (.cells #[.int .i64 4] 3)) (.cells #[.int .i64 2, .slice (some ⟨w.heap.size + 1 + 1 + 1, 0, none⟩) 3 3, .slice (some ⟨w.heap.size + 1 + 1 + 1 + 1, 0, none⟩) 1 1] 25)) 3 [.int .i64 0]
    try simp only [World.size_alloc] at h0
    exact (((((((h0.alloc _).alloc _).alloc _).alloc _).alloc _).alloc _).alloc _)
  have CF : Hid (Row (World.alloc (World.alloc (World.alloc (World.alloc (World.alloc (World.alloc (World.alloc (World.alloc (World.alloc (World.alloc (World.alloc (World.alloc (World.alloc (World.alloc w (.cells #[.int .i64 1, .int .i64 0, .int .i64 0, .int .i64 3, .int .i64 0, .int .i64 1] 32)) (.cells #[.int .i64 2] 3)) (.cells #[.int .i64 1, .slice (some ⟨w.heap.size, 0, none⟩) 2 2, .slice (some ⟨w.heap.size + 1, 0, none⟩) 1 1] 25)) (.cells #[.int .i64 3, .int .i64 0, .int .i64 1, .int .i64 3, .int .i64 1, .int .i64 0, .int .i64 5, .int .i64 2, .int .i64 3] 32)) (.cells #[.int .i64 4] 3)) (.cells #[.int .i64 2, .slice (some ⟨w.heap.size + 1 + 1 + 1, 0, none⟩) 3 3, .slice (some ⟨w.heap.size + 1 + 1 + 1 + 1, 0, none⟩) 1 1] 25)) (.cells #[.int .i64 0] 3)) (.cells #[.int .i64 1, .slice (some ⟨w.heap.size, 0, none⟩) 2 2, .slice (some ⟨w.heap.size + 1 + 1 + 1 + 1 + 1 + 1, 0, none⟩) 1 1] 25)) (.cells #[.int .i64 3, .int .i64 0, .int .i64 1, .int .i64 3, .int .i64 0, .int .i64 1, .int .i64 5, .int .i64 2, .int .i64 2] 32)) (.cells #[.int .i64 4] 3)) (.cells #[.int .i64 2, .slice (some ⟨w.heap.size + 1 + 1 + 1 + 1 + 1 + 1 + 1 + 1, 0, none⟩) 3 3, .slice (some ⟨w.heap.size + 1 + 1 + 1 + 1 + 1 + 1 + 1 + 1 + 1, 0, none⟩) 1 1] 25)) (.cells #[.int .i64 0, .int .i64 0, .int .i64 0] 32)) (.cells #[.int .i64 2] 3)) (.cells #[.int .i64 2, .slice (some ⟨w.heap.size + 1 + 1 + 1 + 1 + 1 + 1 + 1 + 1 + 1 + 1 + 1, 0, none⟩) 1 1, .slice (some ⟨w.heap.size + 1 + 1 + 1 + 1 + 1 + 1 + 1 + 1 + 1 + 1 + 1 + 1, 0, none⟩) 1 1] 25)) (w.heap.size + 1 + 1 + 1 + 1 + 1 + 1 + 1) 25 [.int .i64 1, .slice (some ⟨w.heap.size, 0, none⟩) 2 2, .slice (some ⟨w.heap.size + 1 + 1 + 1 + 1 + 1 + 1, 0, none⟩) 1 1]) := by
    have h0 := Row.new (World.alloc (World.alloc (World.alloc (World.alloc (World.alloc (World.alloc (World.alloc w (.cells #[.int .i64 1, .int .i64 0, .int .i64 0, .int .i64 3, .int .i64 0, .int .i64 1] 32)) (.cells #[.int .i64 2] 3)) (.cells #[.int .i64 1, .slice (some ⟨w.heap.size, 0, none⟩) 2 2, .slice (some ⟨w.heap.size + 1, 0, none⟩) 1 1] 25)) (.cells #[.int .i64 3, .int .i64 0, .int .i64 1, .int .i64 3, .int .i64 1, .int .i64 0, .int .i64 5, .int .i64 2, .int .i64 3] 32)) (.cells #[.int .i64 4] 3)) (.cells #[.int .i64 2, .slice (some ⟨w.heap.size + 1 + 1 + 1, 0, none⟩) 3 3, .slice (some ⟨w.heap.size + 1 + 1 + 1 + 1, 0, none⟩) 1 1] 25)) (.cells #[.int .i64 0] 3)) 25 [.int .i64 1, .slice (some ⟨w.heap.size, 0, none⟩) 2 2, .slice (some ⟨w.heap.size + 1 + 1 + 1 + 1 + 1 + 1, 0, none⟩) 1 1]
    try simp only [World.size_alloc] at h0
    exact ((((((h0.alloc _).alloc _).alloc _).alloc _).alloc _).alloc _)
  have GS : Hid (Row (World.alloc (World.alloc (World.alloc (World.alloc (World.alloc (World.alloc (World.alloc (World.alloc (World.alloc (World.alloc (World.alloc (World.alloc (World.alloc (World.alloc w (.cells #[.int .i64 1, .int .i64 0, .int .i64 0, .int .i64 3, .int .i64 0, .int .i64 1] 32)) (.cells #[.int .i64 2] 3)) (.cells #[.int .i64 1, .slice (some ⟨w.heap.size, 0, none⟩) 2 2, .slice (some ⟨w.heap.size + 1, 0, none⟩) 1 1] 25)) (.cells #[.int .i64 3, .int .i64 0, .int .i64 1, .int .i64 3, .int .i64 1, .int .i64 0, .int .i64 5, .int .i64 2, .int .i64 3] 32)) (.cells #[.int .i64 4] 3)) (.cells #[.int .i64 2, .slice (some ⟨w.heap.size + 1 + 1 + 1, 0, none⟩) 3 3, .slice (some ⟨w.heap.size + 1 + 1 + 1 + 1, 0, none⟩) 1 1] 25)) (.cells #[.int .i64 0] 3)) (.cells #[.int .i64 1, .slice (some ⟨w.heap.size, 0, none⟩) 2 2, .slice (some ⟨w.heap.size + 1 + 1 + 1 + 1 + 1 + 1, 0, none⟩) 1 1] 25)) (.cells #[.int .i64 3, .int .i64 0, .int .i64 1, .int .i64 3, .int .i64 0, .int .i64 1, .int .i64 5, .int .i64 2, .int .i64 2] 32)) (.cells #[.int .i64 4] 3)) (.cells #[.int .i64 2, .slice (some ⟨w.heap.size + 1 + 1 + 1 + 1 + 1 + 1 + 1 + 1, 0, none⟩) 3 3, .slice (some ⟨w.heap.size + 1 + 1 + 1 + 1 + 1 + 1 + 1 + 1 + 1, 0, none⟩) 1 1] 25)) (.cells #[.int .i64 0, .int .i64 0, .int .i64 0] 32)) (.cells #[.int .i64 2] 3)) (.cells #[.int .i64 2, .slice (some ⟨w.heap.size + 1 + 1 + 1 + 1 + 1 + 1 + 1 + 1 + 1 + 1 + 1, 0, none⟩) 1 1, .slice (some ⟨w.heap.size + 1 + 1 + 1 + 1 + 1 + 1 + 1 + 1 + 1 + 1 + 1 + 1, 0, none⟩) 1 1] 25)) (w.heap.size + 1 + 1 + 1 + 1 + 1 + 1 + 1 + 1) 32 [.int .i64 3, .int .i64 0, .int .i64 1, .int .i64 3, .int .i64 0, .int .i64 1, .int .i64 5, .int .i64 2, .int .i64 2]) := by
    have h0 := Row.new (World.alloc (World.alloc (World.alloc (World.alloc (World.alloc (World.alloc (World.alloc (World.alloc w (.cells #[.int .i64 1, .int .i64 0, .int .i64 0, .int .i64 3, .int .i64 0, .int .i64 1] 32)) (.cells #[.int .i64 2] 3)) (.cells #[.int .i64 1, .slice (some ⟨w.heap.size, 0, none⟩) 2 2, .slice (some ⟨w.heap.size + 1, 0, none⟩) 1 1] 25)) (.cells #[.int .i64 3, .int .i64 0, .int .i64 1, .int .i64 3, .int .i64 1, .int .i64 0, .int .i64 5, .int .i64 2, .int .i64 3] 32)) (.cells #[.int .i64 4] 3)) (.cells #[.int .i64 2, .slice (some ⟨w.heap.size + 1 + 1 + 1, 0, none⟩) 3 3, .slice (some ⟨w.heap.size + 1 + 1 + 1 + 1, 0, none⟩) 1 1] 25)) (.cells #[.int .i64 0] 3)) (.cells #[.int .i64 1, .slice (some ⟨w.heap.size, 0, none⟩) 2 2, .slice (some ⟨w.heap.size + 1 + 1 + 1 + 1 + 1 + 1, 0, none⟩) 1 1] 25)) 32 [.int .i64 3, .int .i64 0, .int .i64 1, .int .i64 3, .int .i64 0, .int .i64 1, .int .i64 5, .int .i64 2, .int .i64 2]
    try simp only [World.size_alloc] at h0
    exact (((((h0.alloc _).alloc _).alloc _).alloc _).alloc _)
  have OS : Hid (Row (World.alloc (World.alloc (World.alloc (World.alloc (World.alloc (World.alloc (World.alloc (World.alloc (World.alloc (World.alloc (World.alloc (World.alloc (World.alloc (World.alloc w (.cells #[.int .i64 1, .int .i64 0, .int .i64 0, .int .i64 3, .int .i64 0, .int .i64 1] 32)) (.cells #[.int .i64 2] 3)) (.cells #[.int .i64 1, .slice (some ⟨w.heap.size, 0, none⟩) 2 2, .slice (some ⟨w.heap.size + 1, 0, none⟩) 1 1] 25)) (.cells #[.int .i64 3, .int .i64 0, .int .i64 1, .int .i64 3, .int .i64 1, .int .i64 0, .int .i64 5, .int .i64 2, .int .i64 3] 32)) (.cells #[.int .i64 4] 3)) (.cells #[.int .i64 2, .slice (some ⟨w.heap.size + 1 + 1 + 1, 0, none⟩) 3 3, .slice (some ⟨w.heap.size + 1 + 1 + 1 + 1, 0, none⟩) 1 1] 25)) (.cells #[.int .i64 0] 3)) (.cells #[.int .i64 1, .slice (some ⟨w.heap.size, 0, none⟩) 2 2, .slice (some ⟨w.heap.size + 1 + 1 + 1 + 1 + 1 + 1, 0, none⟩) 1 1] 25)) (.cells #[.int .i64 3, .int .i64 0, .int .i64 1, .int .i64 3, .int .i64 0, .int .i64 1, .int .i64 5, .int .i64 2, .int .i64 2] 32)) (.cells #[.int .i64 4] 3)) (.cells #[.int .i64 2, .slice (some ⟨w.heap.size + 1 + 1 + 1 + 1 + 1 + 1 + 1 + 1, 0, none⟩) 3 3, .slice (some ⟨w.heap.size + 1 + 1 + 1 + 1 + 1 + 1 + 1 + 1 + 1, 0, none⟩) 1 1] 25)) (.cells #[.int .i64 0, .int .i64 0, .int .i64 0] 32)) (.cells #[.int .i64 2] 3)) (.cells #[.int .i64 2, .slice (some ⟨w.heap.size + 1 + 1 + 1 + 1 + 1 + 1 + 1 + 1 + 1 + 1 + 1, 0, none⟩) 1 1, .slice (some ⟨w.heap.size + 1 + 1 + 1 + 1 + 1 + 1 + 1 + 1 + 1 + 1 + 1 + 1, 0, none⟩) 1 1] 25)) (w.heap.size + 1 + 1 + 1 + 1 + 1 + 1 + 1 + 1 + 1) 3 [.int .i64 4]) := by
    have h0 := Row.new (World.alloc (World.alloc (World.alloc (World.alloc (World.alloc (World.alloc (World.alloc (World.alloc (World.alloc w (.cells #[.int .i64 1, .int .i64 0, .int .i64 0, .int .i64 3, .int .i64 0, .int .i64 1] 32)) (.cells #[.int .i64 2] 3)) (.cells #[.int .i64 1, .slice (some ⟨w.heap.size, 0, none⟩) 2 2, .slice (some ⟨w.heap.size + 1, 0, none⟩) 1 1] 25)) (.cells #[.int .i64 3, .int .i64 0, .int .i64 1, .int .i64 3, .int .i64 1, .int .i64 0, .int .i64 5, .int .i64 2, .int .i64 3] 32)) (.cells #[.int .i64 4] 3)) (.cells #[.int .i64 2, .slice (some ⟨w.heap.size + 1 + 1 + 1, 0, none⟩) 3 3, .slice (some ⟨w.heap.size + 1 + 1 + 1 + 1, 0, none⟩) 1 1] 25)) (.cells #[.int .i64 0] 3)) (.cells #[.int .i64 1, .slice (some ⟨w.heap.size, 0, none⟩) 2 2, .slice (some ⟨w.heap.size + 1 + 1 + 1 + 1 + 1 + 1, 0, none⟩) 1 1] 25)) (.cells #[.int .i64 3, .int .i64 0, .int .i64 1, .int .i64 3, .int .i64 0, .int .i64 1, .int .i64 5, .int .i64 2, .int .i64 2] 32)) 3 [.int .i64 4]
    try simp only [World.size_alloc] at h0
    exact ((((h0.alloc _).alloc _).alloc _).alloc _)
  have CS : Hid (Row (World.alloc (World.alloc (World.alloc (World.alloc (World.alloc (World.alloc (World.alloc (World.alloc (World.alloc (World.alloc (World.alloc (World.alloc (World.alloc (World.alloc w (.cells #[.int .i64 1, .int .i64 0, .int .i64 0, .int .i64 3, .int .i64 0, .int .i64 1] 32)) (.cells #[.int .i64 2] 3)) (.cells #[.int .i64 1, .slice (some ⟨w.heap.size, 0, none⟩) 2 2, .slice (some ⟨w.heap.size + 1, 0, none⟩) 1 1] 25)) (.cells #[.int .i64 3, .int .i64 0, .int .i64 1, .int .i64 3, .int .i64 1, .int .i64 0, .int .i64 5, .int .i64 2, .int .i64 3] 32)) (.cells #[.int .i64 4] 3)) (.cells #[.int .i64 2, .slice (some ⟨w.heap.size + 1 + 1 + 1, 0, none⟩) 3 3, .slice (some ⟨w.heap.size + 1 + 1 + 1 + 1, 0, none⟩) 1 1] 25)) (.cells #[.int .i64 0] 3)) (.cells #[.int .i64 1, .slice (some ⟨w.heap.size, 0, none⟩) 2 2, .slice (some ⟨w.heap.size + 1 + 1 + 1 + 1 + 1 + 1, 0, none⟩) 1 1] 25)) (.cells #[.int .i64 3, .int .i64 0, .int .i64 1, .int .i64 3, .int .i64 0, .int .i64 1, .int .i64 5, .int .i64 2, .int .i64 2] 32)) (.cells #[.int .i64 4] 3)) (.cells #[.int .i64 2, .slice (some ⟨w.heap.size + 1 + 1 + 1 + 1 + 1 + 1 + 1 + 1, 0, none⟩) 3 3, .slice (some ⟨w.heap.size + 1 + 1 + 1 + 1 + 1 + 1 + 1 + 1 + 1, 0, none⟩) 1 1] 25)) (.cells #[.int .i64 0, .int .i64 0, .int .i64 0] 32)) (.cells #[.int .i64 2] 3)) (.cells #[.int .i64 2, .slice (some ⟨w.heap.size + 1 + 1 + 1 + 1 + 1 + 1 + 1 + 1 + 1 + 1 + 1, 0, none⟩) 1 1, .slice (some ⟨w.heap.size + 1 + 1 + 1 + 1 + 1 + 1 + 1 + 1 + 1 + 1 + 1 + 1, 0, none⟩) 1 1] 25)) (w.heap.size + 1 + 1 + 1 + 1 + 1 + 1 + 1 + 1 + 1 + 1) 25 [.int .i64 2, .slice (some ⟨w.heap.size + 1 + 1 + 1 + 1 + 1 + 1 + 1 + 1, 0, none⟩) 3 3, .slice (some ⟨w.heap.size + 1 + 1 + 1 + 1 + 1 + 1 + 1 + 1 + 1, 0, none⟩) 1 1]) := by
    have h0 := Row.new (World.alloc (World.alloc (World.alloc (World.alloc (World.alloc (World.alloc (World.alloc (World.alloc (World.alloc (World.alloc w (.cells #[.int .i64 1, .int .i64 0, .int .i64 0, .int .i64 3, .int .i64 0, .int .i64 1] 32)) (.cells #[.int .i64 2] 3)) (.cells #[.int .i64 1, .slice (some ⟨w.heap.size, 0, none⟩) 2 2, .slice (some ⟨w.heap.size + 1, 0, none⟩) 1 1] 25)) (.cells #[.int .i64 3, .int .i64 0, .int .i64 1, .int .i64 3, .int .i64 1, .int .i64 0, .int .i64 5, .int .i64 2, .int .i64 3] 32)) (.cells #[.int .i64 4] 3)) (.cells #[.int .i64 2, .slice (some ⟨w.heap.size + 1 + 1 + 1, 0, none⟩) 3 3, .slice (some ⟨w.heap.size + 1 + 1 + 1 + 1, 0, none⟩) 1 1] 25)) (.cells #[.int .i64 0] 3)) (.cells #[.int .i64 1, .slice (some ⟨w.heap.size, 0, none⟩) 2 2, .slice (some ⟨w.heap.size + 1 + 1 + 1 + 1 + 1 + 1, 0, none⟩) 1 1] 25)) (.cells #[.int .i64 3, .int .i64 0, .int .i64 1, .int .i64 3, .int .i64 0, .int .i64 1, .int .i64 5, .int .i64 2, .int .i64 2] 32)) (.cells #[.int .i64 4] 3)) 25 [.int .i64 2, .slice (some ⟨w.heap.size + 1 + 1 + 1 + 1 + 1 + 1 + 1 + 1, 0, none⟩) 3 3, .slice (some ⟨w.heap.size + 1 + 1 + 1 + 1 + 1 + 1 + 1 + 1 + 1, 0, none⟩) 1 1]
    try simp only [World.size_alloc] at h0
    exact (((h0.alloc _).alloc _).alloc _)
  have GL : Hid (Row (World.alloc (World.alloc (World.alloc (World.alloc (World.alloc (World.alloc (World.alloc (World.alloc (World.alloc (World.alloc (World.alloc (World.alloc (World.alloc (World.alloc w (.cells #[.int .i64 1, .int .i64 0, .int .i64 0, .int .i64 3, .int .i64 0, .int .i64 1] 32)) (.cells #[.int .i64 2] 3)) (.cells #[.int .i64 1, .slice (some ⟨w.heap.size, 0, none⟩) 2 2, .slice (some ⟨w.heap.size + 1, 0, none⟩) 1 1] 25)) (.cells #[.int .i64 3, .int .i64 0, .int .i64 1, .int .i64 3, .int .i64 1, .int .i64 0, .int .i64 5, .int .i64 2, .int .i64 3] 32)) (.cells #[.int .i64 4] 3)) (.cells #[.int .i64 2, .slice (some ⟨w.heap.size + 1 + 1 + 1, 0, none⟩) 3 3, .slice (some ⟨w.heap.size + 1 + 1 + 1 + 1, 0, none⟩) 1 1] 25)) (.cells #[.int .i64 0] 3)) (.cells #[.int .i64 1, .slice (some ⟨w.heap.size, 0, none⟩) 2 2, .slice (some ⟨w.heap.size + 1 + 1 + 1 + 1 + 1 + 1, 0, none⟩) 1 1] 25)) (.cells #[.int .i64 3, .int .i64 0, .int .i64 1, .int .i64 3, .int .i64 0, .int .i64 1, .int .i64 5, .int .i64 2, .int .i64 2] 32)) (.cells #[.int .i64 4] 3)) (.cells #[.int .i64 2, .slice (some ⟨w.heap.size + 1 + 1 + 1 + 1 + 1 + 1 + 1 + 1, 0, none⟩) 3 3, .slice (some ⟨w.heap.size + 1 + 1 + 1 + 1 + 1 + 1 + 1 + 1 + 1, 0, none⟩) 1 1] 25)) (.cells #[.int .i64 0, .int .i64 0, .int .i64 0] 32)) (.cells #[.int .i64 2] 3)) (.cells #[.int .i64 2, .slice (some ⟨w.heap.size + 1 + 1 + 1 + 1 + 1 + 1 + 1 + 1 + 1 + 1 + 1, 0, none⟩) 1 1, .slice (some ⟨w.heap.size + 1 + 1 + 1 + 1 + 1 + 1 + 1 + 1 + 1 + 1 + 1 + 1, 0, none⟩) 1 1] 25)) (w.heap.size + 1 + 1 + 1 + 1 + 1 + 1 + 1 + 1 + 1 + 1 + 1) 32 [.int .i64 0, .int .i64 0, .int .i64 0]) := by
    have h0 := Row.new (World.alloc (World.alloc (World.alloc (World.alloc (World.alloc (World.alloc (World.alloc (World.alloc (World.alloc (World.alloc (World.alloc w (.cells #[.int .i64 1, .int .i64 0, .int .i64 0, .int .i64 3, .int .i64 0, .int .i64 1] 32)) (.cells #[.int .i64 2] 3)) (.cells #[.int .i64 1, .slice (some ⟨w.heap.size, 0, none⟩) 2 2, .slice (some ⟨w.heap.size + 1, 0, none⟩) 1 1] 25)) (.cells #[.int .i64 3, .int .i64 0, .int .i64 1, .int .i64 3, .int .i64 1, .int .i64 0, .int .i64 5, .int .i64 2, .int .i64 3] 32)) (.cells #[.int .i64 4] 3)) (.cells #[.int .i64 2, .slice (some ⟨w.heap.size + 1 + 1 + 1, 0, none⟩) 3 3, .slice (some ⟨w.heap.size + 1 + 1 + 1 + 1, 0, none⟩) 1 1] 25)) (.cells #[.int .i64 0] 3)) (.cells #[.int .i64 1, .slice (some ⟨w.heap.size, 0, none⟩) 2 2, .slice (some ⟨w.heap.size + 1 + 1 + 1 + 1 + 1 + 1, 0, none⟩) 1 1] 25)) (.cells #[.int .i64 3, .int .i64 0, .int .i64 1, .int .i64 3, .int .i64 0, .int .i64 1, .int .i64 5, .int .i64 2, .int .i64 2] 32)) (.cells #[.int .i64 4] 3)) (.cells #[.int .i64 2, .slice (some ⟨w.heap.size + 1 + 1 + 1 + 1 + 1 + 1 + 1 + 1, 0, none⟩) 3 3, .slice (some ⟨w.heap.size + 1 + 1 + 1 + 1 + 1 + 1 + 1 + 1 + 1, 0, none⟩) 1 1] 25)) 32 [.int .i64 0, .int .i64 0, .int .i64 0]
    try simp only [World.size_alloc] at h0
    exact ((h0.alloc _).alloc _)
  have OL : Hid (Row (World.alloc (World.alloc (World.alloc (World.alloc (World.alloc (World.alloc (World.alloc (World.alloc (World.alloc (World.alloc (World.alloc (World.alloc (World.alloc (World.alloc w (.cells #[.int .i64 1, .int .i64 0, .int .i64 0, .int .i64 3, .int .i64 0, .int .i64 1] 32)) (.cells #[.int .i64 2] 3)) (.cells #[.int .i64 1, .slice (some ⟨w.heap.size, 0, none⟩) 2 2, .slice (some ⟨w.heap.size + 1, 0, none⟩) 1 1] 25)) (.cells #[.int .i64 3, .int .i64 0, .int .i64 1, .int .i64 3, .int .i64 1, .int .i64 0, .int .i64 5, .int .i64 2, .int .i64 3] 32)) (.cells #[.int .i64 4] 3)) (.cells #[.int .i64 2, .slice (some ⟨w.heap.size + 1 + 1 + 1, 0, none⟩) 3 3, .slice (some ⟨w.heap.size + 1 + 1 + 1 + 1, 0, none⟩) 1 1] 25)) (.cells #[.int .i64 0] 3)) (.cells #[.int .i64 1, .slice (some ⟨w.heap.size, 0, none⟩) 2 2, .slice (some ⟨w.heap.size + 1 + 1 + 1 + 1 + 1 + 1, 0, none⟩) 1 1] 25)) (.cells #[.int .i64 3, .int .i64 0, .int .i64 1, .int .i64 3, .int .i64 0, .int .i64 1, .int .i64 5, .int .i64 2, .int .i64 2] 32)) (.cells #[.int .i64 4] 3)) (.cells #[.int .i64 2, .slice (some ⟨w.heap.size + 1 + 1 + 1 + 1 + 1 + 1 + 1 + 1, 0, none⟩) 3 3, .slice (some ⟨w.heap.size + 1 + 1 + 1 + 1 + 1 + 1 + 1 + 1 + 1, 0, none⟩) 1 1] 25)) (.cells #[.int .i64 0, .int .i64 0, .int .i64 0] 32)) (.cells #[.int .i64 2] 3)) (.cells #[.int .i64 2, .slice (some ⟨w.heap.size + 1 + 1 + 1 + 1 + 1 + 1 + 1 + 1 + 1 + 1 + 1, 0, none⟩) 1 1, .slice (some ⟨w.heap.size + 1 + 1 + 1 + 1 + 1 + 1 + 1 + 1 + 1 + 1 + 1 + 1, 0, none⟩) 1 1] 25)) (w.heap.size + 1 + 1 + 1 + 1 + 1 + 1 + 1 + 1 + 1 + 1 + 1 + 1) 3 [.int .i64 2]) := by
    have h0 := Row.new (World.alloc (World.alloc (World.alloc (World.alloc (World.alloc (World.alloc (World.alloc (World.alloc (World.alloc (World.alloc (World.alloc (World.alloc w (.cells #[.int .i64 1, .int .i64 0, .int .i64 0, .int .i64 3, .int .i64 0, .int .i64 1] 32)) (.cells #[.int .i64 2] 3)) (.cells #[.int .i64 1, .slice (some ⟨w.heap.size, 0, none⟩) 2 2, .slice (some ⟨w.heap.size + 1, 0, none⟩) 1 1] 25)) (.cells #[.int .i64 3, .int .i64 0, .int .i64 1, .int .i64 3, .int .i64 1, .int .i64 0, .int .i64 5, .int .i64 2, .int .i64 3] 32)) (.cells #[.int .i64 4] 3)) (.cells #[.int .i64 2, .slice (some ⟨w.heap.size + 1 + 1 + 1, 0, none⟩) 3 3, .slice (some ⟨w.heap.size + 1 + 1 + 1 + 1, 0, none⟩) 1 1] 25)) (.cells #[.int .i64 0] 3)) (.cells #[.int .i64 1, .slice (some ⟨w.heap.size, 0, none⟩) 2 2, .slice (some ⟨w.heap.size + 1 + 1 + 1 + 1 + 1 + 1, 0, none⟩) 1 1] 25)) (.cells #[.int .i64 3, .int .i64 0, .int .i64 1, .int .i64 3, .int .i64 0, .int .i64 1, .int .i64 5, .int .i64 2, .int .i64 2] 32)) (.cells #[.int .i64 4] 3)) (.cells #[.int .i64 2, .slice (some ⟨w.heap.size + 1 + 1 + 1 + 1 + 1 + 1 + 1 + 1, 0, none⟩) 3 3, .slice (some ⟨w.heap.size + 1 + 1 + 1 + 1 + 1 + 1 + 1 + 1 + 1, 0, none⟩) 1 1] 25)) (.cells #[.int .i64 0, .int .i64 0, .int .i64 0] 32)) 3 [.int .i64 2]
    try simp only [World.size_alloc] at h0
    exact (h0.alloc _)
  have CL : Hid (Row (World.alloc (World.alloc (World.alloc (World.alloc (World.alloc (World.alloc (World.alloc (World.alloc (World.alloc (World.alloc (World.alloc (World.alloc (World.alloc (World.alloc w (.cells #[.int .i64 1, .int .i64 0, .int .i64 0, .int .i64 3, .int .i64 0, .int .i64 1] 32)) (.cells #[.int .i64 2] 3)) (.cells #[.int .i64 1, .slice (some ⟨w.heap.size, 0, none⟩) 2 2, .slice (some ⟨w.heap.size + 1, 0, none⟩) 1 1] 25)) (.cells #[.int .i64 3, .int .i64 0, .int .i64 1, .int .i64 3, .int .i64 1, .int .i64 0, .int .i64 5, .int .i64 2, .int .i64 3] 32)) (.cells #[.int .i64 4] 3)) (.cells #[.int .i64 2, .slice (some ⟨w.heap.size + 1 + 1 + 1, 0, none⟩) 3 3, .slice (some ⟨w.heap.size + 1 + 1 + 1 + 1, 0, none⟩) 1 1] 25)) (.cells #[.int .i64 0] 3)) (.cells #[.int .i64 1, .slice (some ⟨w.heap.size, 0, none⟩) 2 2, .slice (some ⟨w.heap.size + 1 + 1 + 1 + 1 + 1 + 1, 0, none⟩) 1 1] 25)) (.cells #[.int .i64 3, .int .i64 0, .int .i64 1, .int .i64 3, .int .i64 0, .int .i64 1, .int .i64 5, .int .i64 2, .int .i64 2] 32)) (.cells #[.int .i64 4] 3)) (.cells #[.int .i64 2, .slice (some ⟨w.heap.size + 1 + 1 + 1 + 1 + 1 + 1 + 1 + 1, 0, none⟩) 3 3, .slice (some ⟨w.heap.size + 1 + 1 + 1 + 1 + 1 + 1 + 1 + 1 + 1, 0, none⟩) 1 1] 25)) (.cells #[.int .i64 0, .int .i64 0, .int .i64 0] 32)) (.cells #[.int .i64 2] 3)) (.cells #[.int .i64 2, .slice (some ⟨w.heap.size + 1 + 1 + 1 + 1 + 1 + 1 + 1 + 1 + 1 + 1 + 1, 0, none⟩) 1 1, .slice (some ⟨w.heap.size + 1 + 1 + 1 + 1 + 1 + 1 + 1 + 1 + 1 + 1 + 1 + 1, 0, none⟩) 1 1] 25)) (w.heap.size + 1 + 1 + 1 + 1 + 1 + 1 + 1 + 1 + 1 + 1 + 1 + 1 + 1) 25 [.int .i64 2, .slice (some ⟨w.heap.size + 1 + 1 + 1 + 1 + 1 + 1 + 1 + 1 + 1 + 1 + 1, 0, none⟩) 1 1, .slice (some ⟨w.heap.size + 1 + 1 + 1 + 1 + 1 + 1 + 1 + 1 + 1 + 1 + 1 + 1, 0, none⟩) 1 1]) := by
    have h0 := Row.new (World.alloc (World.alloc (World.alloc (World.alloc (World.alloc (World.alloc (World.alloc (World.alloc (World.alloc (World.alloc (World.alloc (World.alloc (World.alloc w (.cells #[.int .i64 1, .int .i64 0, .int .i64 0, .int .i64 3, .int .i64 0, .int .i64 1] 32)) (.cells #[.int .i64 2] 3)) (.cells #[.int .i64 1, .slice (some ⟨w.heap.size, 0, none⟩) 2 2, .slice (some ⟨w.heap.size + 1, 0, none⟩) 1 1] 25)) (.cells #[.int .i64 3, .int .i64 0, .int .i64 1, .int .i64 3, .int .i64 1, .int .i64 0, .int .i64 5, .int .i64 2, .int .i64 3] 32)) (.cells #[.int .i64 4] 3)) (.cells #[.int .i64 2, .slice (some ⟨w.heap.size + 1 + 1 + 1, 0, none⟩) 3 3, .slice (some ⟨w.heap.size + 1 + 1 + 1 + 1, 0, none⟩) 1 1] 25)) (.cells #[.int .i64 0] 3)) (.cells #[.int .i64 1, .slice (some ⟨w.heap.size, 0, none⟩) 2 2, .slice (some ⟨w.heap.size + 1 + 1 + 1 + 1 + 1 + 1, 0, none⟩) 1 1] 25)) (.cells #[.int .i64 3, .int .i64 0, .int .i64 1, .int .i64 3, .int .i64 0, .int .i64 1, .int .i64 5, .int .i64 2, .int .i64 2] 32)) (.cells #[.int .i64 4] 3)) (.cells #[.int .i64 2, .slice (some ⟨w.heap.size + 1 + 1 + 1 + 1 + 1 + 1 + 1 + 1, 0, none⟩) 3 3, .slice (some ⟨w.heap.size + 1 + 1 + 1 + 1 + 1 + 1 + 1 + 1 + 1, 0, none⟩) 1 1] 25)) (.cells #[.int .i64 0, .int .i64 0, .int .i64 0] 32)) (.cells #[.int .i64 2] 3)) 25 [.int .i64 2, .slice (some ⟨w.heap.size + 1 + 1 + 1 + 1 + 1 + 1 + 1 + 1 + 1 + 1 + 1, 0, none⟩) 1 1, .slice (some ⟨w.heap.size + 1 + 1 + 1 + 1 + 1 + 1 + 1 + 1 + 1 + 1 + 1 + 1, 0, none⟩) 1 1]
    try simp only [World.size_alloc] at h0
    exact h0
  have hgr9 : Below w.heap.size w (World.alloc (World.alloc (World.alloc (World.alloc (World.alloc (World.alloc (World.alloc (World.alloc (World.alloc (World.alloc (World.alloc (World.alloc (World.alloc (World.alloc w (.cells #[.int .i64 1, .int .i64 0, .int .i64 0, .int .i64 3, .int .i64 0, .int .i64 1] 32)) (.cells #[.int .i64 2] 3)) (.cells #[.int .i64 1, .slice (some ⟨w.heap.size, 0, none⟩) 2 2, .slice (some ⟨w.heap.size + 1, 0, none⟩) 1 1] 25)) (.cells #[.int .i64 3, .int .i64 0, .int .i64 1, .int .i64 3, .int .i64 1, .int .i64 0, .int .i64 5, .int .i64 2, .int .i64 3] 32)) (.cells #[.int .i64 4] 3)) (.cells #[.int .i64 2, .slice (some ⟨w.heap.size + 1 + 1 + 1, 0, none⟩) 3 3, .slice (some ⟨w.heap.size + 1 + 1 + 1 + 1, 0, none⟩) 1 1] 25)) (.cells #[.int .i64 0] 3)) (.cells #[.int .i64 1, .slice (some ⟨w.heap.size, 0, none⟩) 2 2, .slice (some ⟨w.heap.size + 1 + 1 + 1 + 1 + 1 + 1, 0, none⟩) 1 1] 25)) (.cells #[.int .i64 3, .int .i64 0, .int .i64 1, .int .i64 3, .int .i64 0, .int .i64 1, .int .i64 5, .int .i64 2, .int .i64 2] 32)) (.cells #[.int .i64 4] 3)) (.cells #[.int .i64 2, .slice (some ⟨w.heap.size + 1 + 1 + 1 + 1 + 1 + 1 + 1 + 1, 0, none⟩) 3 3, .slice (some ⟨w.heap.size + 1 + 1 + 1 + 1 + 1 + 1 + 1 + 1 + 1, 0, none⟩) 1 1] 25)) (.cells #[.int .i64 0, .int .i64 0, .int .i64 0] 32)) (.cells #[.int .i64 2] 3)) (.cells #[.int .i64 2, .slice (some ⟨w.heap.size + 1 + 1 + 1 + 1 + 1 + 1 + 1 + 1 + 1 + 1 + 1, 0, none⟩) 1 1, .slice (some ⟨w.heap.size + 1 + 1 + 1 + 1 + 1 + 1 + 1 + 1 + 1 + 1 + 1 + 1, 0, none⟩) 1 1] 25)) := by go_grown
  have B_w : Hid (Below w.heap.size w (World.alloc (World.alloc (World.alloc (World.alloc (World.alloc (World.alloc (World.alloc (World.alloc (World.alloc (World.alloc (World.alloc (World.alloc (World.alloc (World.alloc w (.cells #[.int .i64 1, .int .i64 0, .int .i64 0, .int .i64 3, .int .i64 0, .int .i64 1] 32)) (.cells #[.int .i64 2] 3)) (.cells #[.int .i64 1, .slice (some ⟨w.heap.size, 0, none⟩) 2 2, .slice (some ⟨w.heap.size + 1, 0, none⟩) 1 1] 25)) (.cells #[.int .i64 3, .int .i64 0, .int .i64 1, .int .i64 3, .int .i64 1, .int .i64 0, .int .i64 5, .int .i64 2, .int .i64 3] 32)) (.cells #[.int .i64 4] 3)) (.cells #[.int .i64 2, .slice (some ⟨w.heap.size + 1 + 1 + 1, 0, none⟩) 3 3, .slice (some ⟨w.heap.size + 1 + 1 + 1 + 1, 0, none⟩) 1 1] 25)) (.cells #[.int .i64 0] 3)) (.cells #[.int .i64 1, .slice (some ⟨w.heap.size, 0, none⟩) 2 2, .slice (some ⟨w.heap.size + 1 + 1 + 1 + 1 + 1 + 1, 0, none⟩) 1 1] 25)) (.cells #[.int .i64 3, .int .i64 0, .int .i64 1, .int .i64 3, .int .i64 0, .int .i64 1, .int .i64 5, .int .i64 2, .int .i64 2] 32)) (.cells #[.int .i64 4] 3)) (.cells #[.int .i64 2, .slice (some ⟨w.heap.size + 1 + 1 + 1 + 1 + 1 + 1 + 1 + 1, 0, none⟩) 3 3, .slice (some ⟨w.heap.size + 1 + 1 + 1 + 1 + 1 + 1 + 1 + 1 + 1, 0, none⟩) 1 1] 25)) (.cells #[.int .i64 0, .int .i64 0, .int .i64 0] 32)) (.cells #[.int .i64 2] 3)) (.cells #[.int .i64 2, .slice (some ⟨w.heap.size + 1 + 1 + 1 + 1 + 1 + 1 + 1 + 1 + 1 + 1 + 1, 0, none⟩) 1 1, .slice (some ⟨w.heap.size + 1 + 1 + 1 + 1 + 1 + 1 + 1 + 1 + 1 + 1 + 1 + 1, 0, none⟩) 1 1] 25))) := hgr9
  clear hgr9
  revert GA OA CA GB OB CB OF CF GS OS CS GL OL CL B_w
  generalize (World.alloc (World.alloc (World.alloc (World.alloc (World.alloc (World.alloc (World.alloc (World.alloc (World.alloc (World.alloc (World.alloc (World.alloc (World.alloc (World.alloc w (.cells #[.int .i64 1, .int .i64 0, .int .i64 0, .int .i64 3, .int .i64 0, .int .i64 1] 32)) (.cells #[.int .i64 2] 3)) (.cells #[.int .i64 1, .slice (some ⟨w.heap.size, 0, none⟩) 2 2, .slice (some ⟨w.heap.size + 1, 0, none⟩) 1 1] 25)) (.cells #[.int .i64 3, .int .i64 0, .int .i64 1, .int .i64 3, .int .i64 1, .int .i64 0, .int .i64 5, .int .i64 2, .int .i64 3] 32)) (.cells #[.int .i64 4] 3)) (.cells #[.int .i64 2, .slice (some ⟨w.heap.size + 1 + 1 + 1, 0, none⟩) 3 3, .slice (some ⟨w.heap.size + 1 + 1 + 1 + 1, 0, none⟩) 1 1] 25)) (.cells #[.int .i64 0] 3)) (.cells #[.int .i64 1, .slice (some ⟨w.heap.size, 0, none⟩) 2 2, .slice (some ⟨w.heap.size + 1 + 1 + 1 + 1 + 1 + 1, 0, none⟩) 1 1] 25)) (.cells #[.int .i64 3, .int .i64 0, .int .i64 1, .int .i64 3, .int .i64 0, .int .i64 1, .int .i64 5, .int .i64 2, .int .i64 2] 32)) (.cells #[.int .i64 4] 3)) (.cells #[.int .i64 2, .slice (some ⟨w.heap.size + 1 + 1 + 1 + 1 + 1 + 1 + 1 + 1, 0, none⟩) 3 3, .slice (some ⟨w.heap.size + 1 + 1 + 1 + 1 + 1 + 1 + 1 + 1 + 1, 0, none⟩) 1 1] 25)) (.cells #[.int .i64 0, .int .i64 0, .int .i64 0] 32)) (.cells #[.int .i64 2] 3)) (.cells #[.int .i64 2, .slice (some ⟨w.heap.size + 1 + 1 + 1 + 1 + 1 + 1 + 1 + 1 + 1 + 1 + 1, 0, none⟩) 1 1, .slice (some ⟨w.heap.size + 1 + 1 + 1 + 1 + 1 + 1 + 1 + 1 + 1 + 1 + 1 + 1, 0, none⟩) 1 1] 25)) = wa
  intro GA OA CA GB OB CB OF CF GS OS CS GL OL CL B_w
  have HA : Hid (CAt wa exA (some ⟨w.heap.size, 0, none⟩) (some ⟨w.heap.size + 1, 0, none⟩) 2 1) := ⟨GA.out.rd rfl, OA.out.rd rfl, by unfold maxLen; omega, by unfold maxLen; omega⟩
  have HB : Hid (CAt wa exB (some ⟨w.heap.size + 1 + 1 + 1, 0, none⟩) (some ⟨w.heap.size + 1 + 1 + 1 + 1, 0, none⟩) 3 1) := ⟨GB.out.rd rfl, OB.out.rd rfl, by unfold maxLen; omega, by unfold maxLen; omega⟩
  have HF : Hid (CAt wa exF (some ⟨w.heap.size, 0, none⟩) (some ⟨w.heap.size + 1 + 1 + 1 + 1 + 1 + 1, 0, none⟩) 2 1) := ⟨GA.out.rd rfl, OF.out.rd rfl, by unfold maxLen; omega, by unfold maxLen; omega⟩
  have HS : Hid (CAt wa exS (some ⟨w.heap.size + 1 + 1 + 1 + 1 + 1 + 1 + 1 + 1, 0, none⟩) (some ⟨w.heap.size + 1 + 1 + 1 + 1 + 1 + 1 + 1 + 1 + 1, 0, none⟩) 3 1) := ⟨GS.out.rd rfl, OS.out.rd rfl, by unfold maxLen; omega, by unfold maxLen; omega⟩
  have HL : Hid (CAt wa exL (some ⟨w.heap.size + 1 + 1 + 1 + 1 + 1 + 1 + 1 + 1 + 1 + 1 + 1, 0, none⟩) (some ⟨w.heap.size + 1 + 1 + 1 + 1 + 1 + 1 + 1 + 1 + 1 + 1 + 1 + 1, 0, none⟩) 1 1) := ⟨GL.out.rd rfl, OL.out.rd rfl, by unfold maxLen; omega, by unfold maxLen; omega⟩
  have hu : undef = Value.tuple #[] := rfl
  refine wp_region_L (fun w' => Row w' (w.heap.size + 1 + 1) 25 [.int .i64 1, .slice (some ⟨w.heap.size, 0, none⟩) 2 2, .slice (some ⟨w.heap.size + 1, 0, none⟩) 1 1] ∧ Row w' (w.heap.size + 1 + 1 + 1 + 1 + 1) 25 [.int .i64 2, .slice (some ⟨w.heap.size + 1 + 1 + 1, 0, none⟩) 3 3, .slice (some ⟨w.heap.size + 1 + 1 + 1 + 1, 0, none⟩) 1 1] ∧ Row w' (w.heap.size + 1 + 1 + 1 + 1 + 1 + 1 + 1) 25 [.int .i64 1, .slice (some ⟨w.heap.size, 0, none⟩) 2 2, .slice (some ⟨w.heap.size + 1 + 1 + 1 + 1 + 1 + 1, 0, none⟩) 1 1] ∧ Row w' (w.heap.size + 1 + 1 + 1 + 1 + 1 + 1 + 1 + 1 + 1 + 1) 25 [.int .i64 2, .slice (some ⟨w.heap.size + 1 + 1 + 1 + 1 + 1 + 1 + 1 + 1, 0, none⟩) 3 3, .slice (some ⟨w.heap.size + 1 + 1 + 1 + 1 + 1 + 1 + 1 + 1 + 1, 0, none⟩) 1 1] ∧ Row w' (w.heap.size + 1 + 1 + 1 + 1 + 1 + 1 + 1 + 1 + 1 + 1 + 1 + 1 + 1) 25 [.int .i64 2, .slice (some ⟨w.heap.size + 1 + 1 + 1 + 1 + 1 + 1 + 1 + 1 + 1 + 1 + 1, 0, none⟩) 1 1, .slice (some ⟨w.heap.size + 1 + 1 + 1 + 1 + 1 + 1 + 1 + 1 + 1 + 1 + 1 + 1, 0, none⟩) 1 1]) [] (by kernel_rfl) (by exact ⟨Row.drew CA.out, Row.drew CB.out, Row.drew CF.out, Row.drew CS.out, Row.drew CL.out⟩) (fun hHeld => ?_)
  have B_wq0 : Hid (Below w.heap.size w (World.drew wa)) := B_w.out.drew
  have B_wq1 : Hid (Below wa.heap.size wa (World.drew wa)) := (Below.refl _ _).drew
  clear B_w
  revert hHeld B_wq0 B_wq1
  generalize World.drew wa = wq
  intro hHeld B_w B_wa
  refine restL_take (i := 0) (v := ?va1) [] rfl (by kernel_rfl) (by kernel_rfl) (by kernel_rfl) (by kernel_rfl) (fun _ _ _ h => h) (Or.inl ⟨by rfl, ?ya1⟩) hHeld ?ra1
  case ya1 =>
    intro w' hSw
    obtain ⟨s0, s1, s2, s3, s4⟩ := hSw
    have hT0 : Hid (Row w' (w.heap.size + 1 + 1) 25 [.int .i64 1, .slice (some ⟨w.heap.size, 0, none⟩) 2 2, .slice (some ⟨w.heap.size + 1, 0, none⟩) 1 1]) := s0
    have z0_0 := hT0.out.cell 0
    have z0_1 := hT0.out.cell 1
    have z0_2 := hT0.out.cell 2
    have z0_l := hT0.out.lt
    simp only [List.getElem?_cons_zero, List.getElem?_cons_succ] at z0_0 z0_1 z0_2
    have hT1 : Hid (Row w' (w.heap.size + 1 + 1 + 1 + 1 + 1) 25 [.int .i64 2, .slice (some ⟨w.heap.size + 1 + 1 + 1, 0, none⟩) 3 3, .slice (some ⟨w.heap.size + 1 + 1 + 1 + 1, 0, none⟩) 1 1]) := s1
    have z1_0 := hT1.out.cell 0
    have z1_1 := hT1.out.cell 1
    have z1_2 := hT1.out.cell 2
    have z1_l := hT1.out.lt
    simp only [List.getElem?_cons_zero, List.getElem?_cons_succ] at z1_0 z1_1 z1_2
    have hT2 : Hid (Row w' (w.heap.size + 1 + 1 + 1 + 1 + 1 + 1 + 1) 25 [.int .i64 1, .slice (some ⟨w.heap.size, 0, none⟩) 2 2, .slice (some ⟨w.heap.size + 1 + 1 + 1 + 1 + 1 + 1, 0, none⟩) 1 1]) := s2
    have z2_0 := hT2.out.cell 0
    have z2_1 := hT2.out.cell 1
    have z2_2 := hT2.out.cell 2
    have z2_l := hT2.out.lt
    simp only [List.getElem?_cons_zero, List.getElem?_cons_succ] at z2_0 z2_1 z2_2
    have hT3 : Hid (Row w' (w.heap.size + 1 + 1 + 1 + 1 + 1 + 1 + 1 + 1 + 1 + 1) 25 [.int .i64 2, .slice (some ⟨w.heap.size + 1 + 1 + 1 + 1 + 1 + 1 + 1 + 1, 0, none⟩) 3 3, .slice (some ⟨w.heap.size + 1 + 1 + 1 + 1 + 1 + 1 + 1 + 1 + 1, 0, none⟩) 1 1]) := s3
    have z3_0 := hT3.out.cell 0
    have z3_1 := hT3.out.cell 1
    have z3_2 := hT3.out.cell 2
    have z3_l := hT3.out.lt
    simp only [List.getElem?_cons_zero, List.getElem?_cons_succ] at z3_0 z3_1 z3_2
    have hT4 : Hid (Row w' (w.heap.size + 1 + 1 + 1 + 1 + 1 + 1 + 1 + 1 + 1 + 1 + 1 + 1 + 1) 25 [.int .i64 2, .slice (some ⟨w.heap.size + 1 + 1 + 1 + 1 + 1 + 1 + 1 + 1 + 1 + 1 + 1, 0, none⟩) 1 1, .slice (some ⟨w.heap.size + 1 + 1 + 1 + 1 + 1 + 1 + 1 + 1 + 1 + 1 + 1 + 1, 0, none⟩) 1 1]) := s4
    have z4_0 := hT4.out.cell 0
    have z4_1 := hT4.out.cell 1
    have z4_2 := hT4.out.cell 2
    have z4_l := hT4.out.lt
    simp only [List.getElem?_cons_zero, List.getElem?_cons_succ] at z4_0 z4_1 z4_2
    clear s0 s1 s2 s3 s4
    go_simp
    try (with_reducible rfl)
  go_simp
  refine restL_take (i := 2) (v := ?va2) [] rfl (by kernel_rfl) (by kernel_rfl) (by kernel_rfl) (by kernel_rfl) (fun _ _ _ h => h) (Or.inl ⟨by rfl, ?ya2⟩) hHeld ?ra2
  case ya2 =>
    intro w' hSw
    obtain ⟨s0, s1, s2, s3, s4⟩ := hSw
    have hT0 : Hid (Row w' (w.heap.size + 1 + 1) 25 [.int .i64 1, .slice (some ⟨w.heap.size, 0, none⟩) 2 2, .slice (some ⟨w.heap.size + 1, 0, none⟩) 1 1]) := s0
    have z0_0 := hT0.out.cell 0
    have z0_1 := hT0.out.cell 1
    have z0_2 := hT0.out.cell 2
    have z0_l := hT0.out.lt
    simp only [List.getElem?_cons_zero, List.getElem?_cons_succ] at z0_0 z0_1 z0_2
    have hT1 : Hid (Row w' (w.heap.size + 1 + 1 + 1 + 1 + 1) 25 [.int .i64 2, .slice (some ⟨w.heap.size + 1 + 1 + 1, 0, none⟩) 3 3, .slice (some ⟨w.heap.size + 1 + 1 + 1 + 1, 0, none⟩) 1 1]) := s1
    have z1_0 := hT1.out.cell 0
    have z1_1 := hT1.out.cell 1
    have z1_2 := hT1.out.cell 2
    have z1_l := hT1.out.lt
    simp only [List.getElem?_cons_zero, List.getElem?_cons_succ] at z1_0 z1_1 z1_2
    have hT2 : Hid (Row w' (w.heap.size + 1 + 1 + 1 + 1 + 1 + 1 + 1) 25 [.int .i64 1, .slice (some ⟨w.heap.size, 0, none⟩) 2 2, .slice (some ⟨w.heap.size + 1 + 1 + 1 + 1 + 1 + 1, 0, none⟩) 1 1]) := s2
    have z2_0 := hT2.out.cell 0
    have z2_1 := hT2.out.cell 1
    have z2_2 := hT2.out.cell 2
    have z2_l := hT2.out.lt
    simp only [List.getElem?_cons_zero, List.getElem?_cons_succ] at z2_0 z2_1 z2_2
    have hT3 : Hid (Row w' (w.heap.size + 1 + 1 + 1 + 1 + 1 + 1 + 1 + 1 + 1 + 1) 25 [.int .i64 2, .slice (some ⟨w.heap.size + 1 + 1 + 1 + 1 + 1 + 1 + 1 + 1, 0, none⟩) 3 3, .slice (some ⟨w.heap.size + 1 + 1 + 1 + 1 + 1 + 1 + 1 + 1 + 1, 0, none⟩) 1 1]) := s3
    have z3_0 := hT3.out.cell 0
    have z3_1 := hT3.out.cell 1
    have z3_2 := hT3.out.cell 2
    have z3_l := hT3.out.lt
    simp only [List.getElem?_cons_zero, List.getElem?_cons_succ] at z3_0 z3_1 z3_2
    have hT4 : Hid (Row w' (w.heap.size + 1 + 1 + 1 + 1 + 1 + 1 + 1 + 1 + 1 + 1 + 1 + 1 + 1) 25 [.int .i64 2, .slice (some ⟨w.heap.size + 1 + 1 + 1 + 1 + 1 + 1 + 1 + 1 + 1 + 1 + 1, 0, none⟩) 1 1, .slice (some ⟨w.heap.size + 1 + 1 + 1 + 1 + 1 + 1 + 1 + 1 + 1 + 1 + 1 + 1, 0, none⟩) 1 1]) := s4
    have z4_0 := hT4.out.cell 0
    have z4_1 := hT4.out.cell 1
    have z4_2 := hT4.out.cell 2
    have z4_l := hT4.out.lt
    simp only [List.getElem?_cons_zero, List.getElem?_cons_succ] at z4_0 z4_1 z4_2
    clear s0 s1 s2 s3 s4
    go_simp
    try (with_reducible rfl)
  go_simp
  refine restL_one (i := 1) (by kernel_rfl) rfl (fun K hK => ?_)
  go_simp
  go_at_call 12
  have HC := fold_any exA (some ⟨w.heap.size, 0, none⟩) (some ⟨w.heap.size + 1, 0, none⟩) 2 2 1 1 wq (HA.out.up B_wa.out)
  rw [ex1] at HC
  refine HC.mono ?_
  clear HC
  rintro e y1 ⟨F1A, F1B, F1n, F1c, F1m, F1d, he, hca, -, -, hb⟩
  have he2 : e = .returned (.agg #[.int .i64 1, .slice F1A F1n F1c, .slice F1B F1m F1d]) := he
  subst he2
  have HF1 : Hid (CAt y1 exF F1A F1B F1n F1m) := hca
  clear he hca hHeld
  have B_w : Hid (Below w.heap.size w y1) := below_on2 B_w.out hb
  have B_wa : Hid (Below wa.heap.size wa y1) := below_on2 B_wa.out hb
  have B_wq : Hid (Below wq.heap.size wq y1) := hb
  clear hb
  refine hK.out _ _ (fun _ => ?keep) (fun hHeld => ?_)
  case keep => exact ⟨(rowCells CA.out B_wa.out), (rowCells CB.out B_wa.out), (rowCells CF.out B_wa.out), (rowCells CS.out B_wa.out), (rowCells CL.out B_wa.out)⟩
  have hHeld := hHeld rfl
  clear hK K
  try go_simp
  refine restL_one (i := 3) (by kernel_rfl) rfl (fun K hK => ?_)
  go_simp
  go_at_call 11
  have HC := rSameZ_at exF exF F1A F1B (some ⟨w.heap.size, 0, none⟩) (some ⟨w.heap.size + 1 + 1 + 1 + 1 + 1 + 1, 0, none⟩) F1n F1c F1m F1d 2 2 1 1 y1 HF1.out (HF.out.up B_wa.out)
  rw [(sameC_iff _ _).2 rfl] at HC
  refine HC.mono ?_
  clear HC
  rintro e y2 ⟨rfl, hb⟩
  clear hHeld
  have B_w : Hid (Below w.heap.size w y2) := below_on2 B_w.out hb
  have B_wa : Hid (Below wa.heap.size wa y2) := below_on2 B_wa.out hb
  have B_wq : Hid (Below wq.heap.size wq y2) := below_on2 B_wq.out hb
  have B_y1 : Hid (Below y1.heap.size y1 y2) := hb
  clear hb
  refine hK.out _ _ (fun _ => ?keep) (fun hHeld => ?_)
  case keep => exact ⟨(rowCells CA.out B_wa.out), (rowCells CB.out B_wa.out), (rowCells CF.out B_wa.out), (rowCells CS.out B_wa.out), (rowCells CL.out B_wa.out)⟩
  have hHeld := hHeld rfl
  clear hK K
  try go_simp
  refine restL_pure (i := 4) (v := ?va3) rfl (by kernel_rfl) (by kernel_rfl) (by kernel_rfl) (fun _ _ _ h => h) (Or.inl ⟨by rfl, ?ya3⟩) ?ra3
  case ya3 => intro w' hSw; clear hSw; go_simp; try (with_reducible rfl)
  go_simp
  refine restL_take (i := 5) (v := ?va4) [] rfl (by kernel_rfl) (by kernel_rfl) (by kernel_rfl) (by kernel_rfl) (fun _ _ _ h => h) (Or.inl ⟨by first | rfl | (go_simp; done), ?ya4⟩) hHeld ?ra4
  case ya4 =>
    intro w' hSw
    obtain ⟨s0, s1, s2, s3, s4⟩ := hSw
    have hT0 : Hid (Row w' (w.heap.size + 1 + 1) 25 [.int .i64 1, .slice (some ⟨w.heap.size, 0, none⟩) 2 2, .slice (some ⟨w.heap.size + 1, 0, none⟩) 1 1]) := s0
    have z0_0 := hT0.out.cell 0
    have z0_1 := hT0.out.cell 1
    have z0_2 := hT0.out.cell 2
    have z0_l := hT0.out.lt
    simp only [List.getElem?_cons_zero, List.getElem?_cons_succ] at z0_0 z0_1 z0_2
    have hT1 : Hid (Row w' (w.heap.size + 1 + 1 + 1 + 1 + 1) 25 [.int .i64 2, .slice (some ⟨w.heap.size + 1 + 1 + 1, 0, none⟩) 3 3, .slice (some ⟨w.heap.size + 1 + 1 + 1 + 1, 0, none⟩) 1 1]) := s1
    have z1_0 := hT1.out.cell 0
    have z1_1 := hT1.out.cell 1
    have z1_2 := hT1.out.cell 2
    have z1_l := hT1.out.lt
    simp only [List.getElem?_cons_zero, List.getElem?_cons_succ] at z1_0 z1_1 z1_2
    have hT2 : Hid (Row w' (w.heap.size + 1 + 1 + 1 + 1 + 1 + 1 + 1) 25 [.int .i64 1, .slice (some ⟨w.heap.size, 0, none⟩) 2 2, .slice (some ⟨w.heap.size + 1 + 1 + 1 + 1 + 1 + 1, 0, none⟩) 1 1]) := s2
    have z2_0 := hT2.out.cell 0
    have z2_1 := hT2.out.cell 1
    have z2_2 := hT2.out.cell 2
    have z2_l := hT2.out.lt
    simp only [List.getElem?_cons_zero, List.getElem?_cons_succ] at z2_0 z2_1 z2_2
    have hT3 : Hid (Row w' (w.heap.size + 1 + 1 + 1 + 1 + 1 + 1 + 1 + 1 + 1 + 1) 25 [.int .i64 2, .slice (some ⟨w.heap.size + 1 + 1 + 1 + 1 + 1 + 1 + 1 + 1, 0, none⟩) 3 3, .slice (some ⟨w.heap.size + 1 + 1 + 1 + 1 + 1 + 1 + 1 + 1 + 1, 0, none⟩) 1 1]) := s3
    have z3_0 := hT3.out.cell 0
    have z3_1 := hT3.out.cell 1
    have z3_2 := hT3.out.cell 2
    have z3_l := hT3.out.lt
    simp only [List.getElem?_cons_zero, List.getElem?_cons_succ] at z3_0 z3_1 z3_2
    have hT4 : Hid (Row w' (w.heap.size + 1 + 1 + 1 + 1 + 1 + 1 + 1 + 1 + 1 + 1 + 1 + 1 + 1) 25 [.int .i64 2, .slice (some ⟨w.heap.size + 1 + 1 + 1 + 1 + 1 + 1 + 1 + 1 + 1 + 1 + 1, 0, none⟩) 1 1, .slice (some ⟨w.heap.size + 1 + 1 + 1 + 1 + 1 + 1 + 1 + 1 + 1 + 1 + 1 + 1, 0, none⟩) 1 1]) := s4
    have z4_0 := hT4.out.cell 0
    have z4_1 := hT4.out.cell 1
    have z4_2 := hT4.out.cell 2
    have z4_l := hT4.out.lt
    simp only [List.getElem?_cons_zero, List.getElem?_cons_succ] at z4_0 z4_1 z4_2
    clear s0 s1 s2 s3 s4
    go_simp
    try (with_reducible rfl)
  go_simp
  refine restL_two (i := 6) (j := 7) (by kernel_rfl) rfl rfl (fun K hK => ?_) (fun K hK => ?_)
  · go_simp
    go_at_call 16
    have HC := trim_any exF (some ⟨w.heap.size, 0, none⟩) (some ⟨w.heap.size + 1 + 1 + 1 + 1 + 1 + 1, 0, none⟩) 2 2 1 1 y2 (HF.out.up B_wa.out)
    rw [ex2] at HC
    refine HC.mono ?_
    clear HC
    rintro e y3 ⟨T1A, T1B, T1n, T1c, T1m, T1d, he, hca, -, -, hb⟩
    have he2 : e = .returned (.agg #[.int .i64 1, .slice T1A T1n T1c, .slice T1B T1m T1d]) := he
    subst he2
    have HT1 : Hid (CAt y3 exT T1A T1B T1n T1m) := hca
    clear he hca hHeld
    have B_w : Hid (Below w.heap.size w y3) := below_on2 B_w.out hb
    have B_wa : Hid (Below wa.heap.size wa y3) := below_on2 B_wa.out hb
    have B_wq : Hid (Below wq.heap.size wq y3) := below_on2 B_wq.out hb
    have B_y1 : Hid (Below y1.heap.size y1 y3) := below_on2 B_y1.out hb
    have B_y2 : Hid (Below y2.heap.size y2 y3) := hb
    clear hb
    refine hK.out _ _ (fun _ => ?keep) (fun hHeld => ?_)
    case keep => exact ⟨(rowCells CA.out B_wa.out), (rowCells CB.out B_wa.out), (rowCells CF.out B_wa.out), (rowCells CS.out B_wa.out), (rowCells CL.out B_wa.out)⟩
    have hHeld := hHeld rfl
    clear hK K
    try go_simp
    refine restL_one (i := 7) (by kernel_rfl) rfl (fun K hK => ?_)
    go_simp
    have HT : Hid (CAt (World.alloc y3 (.cells #[.int .i64 0] 3)) exT none (some ⟨y3.heap.size, 0, none⟩) 0 1) := ⟨Rd.empty _, (Row.new y3 3 [.int .i64 0]).rd rfl, by unfold maxLen; omega, by unfold maxLen; omega⟩
    have hb0 : Below y3.heap.size y3 (World.alloc y3 (.cells #[.int .i64 0] 3)) := (Below.refl _ _).alloc (Nat.le_refl _) _
    clear hHeld
    have B_wx : Hid (Below w.heap.size w (World.alloc y3 (.cells #[.int .i64 0] 3))) := below_on2 B_w.out hb0
    have B_wax : Hid (Below wa.heap.size wa (World.alloc y3 (.cells #[.int .i64 0] 3))) := below_on2 B_wa.out hb0
    have B_wqx : Hid (Below wq.heap.size wq (World.alloc y3 (.cells #[.int .i64 0] 3))) := below_on2 B_wq.out hb0
    have B_y1x : Hid (Below y1.heap.size y1 (World.alloc y3 (.cells #[.int .i64 0] 3))) := below_on2 B_y1.out hb0
    have B_y2x : Hid (Below y2.heap.size y2 (World.alloc y3 (.cells #[.int .i64 0] 3))) := below_on2 B_y2.out hb0
    have B_y3x : Hid (Below y3.heap.size y3 (World.alloc y3 (.cells #[.int .i64 0] 3))) := hb0
    clear hb0 B_w B_wa B_wq B_y1 B_y2
    revert HT B_wx B_wax B_wqx B_y1x B_y2x B_y3x
    generalize (World.alloc y3 (.cells #[.int .i64 0] 3)) = y4
    obtain ⟨lb, hlb⟩ : ∃ lb, y3.heap.size = lb := ⟨_, rfl⟩
    intro HT B_wx B_wax B_wqx B_y1x B_y2x B_y3x
    rw [hlb] at HT
    try rw [hlb]
    clear hlb
    have B_w := B_wx
    have B_wa := B_wax
    have B_wq := B_wqx
    have B_y1 := B_y1x
    have B_y2 := B_y2x
    have B_y3 := B_y3x
    clear B_wx B_wax B_wqx B_y1x B_y2x B_y3x
    refine hK.out _ _ (fun _ => ?keep) (fun hHeld => ?_)
    case keep => exact ⟨(rowCells CA.out B_wa.out), (rowCells CB.out B_wa.out), (rowCells CF.out B_wa.out), (rowCells CS.out B_wa.out), (rowCells CL.out B_wa.out)⟩
    have hHeld := hHeld rfl
    clear hK K
    try go_simp
    refine restL_pure (i := 8) (v := ?va5) rfl (by kernel_rfl) (by kernel_rfl) (by kernel_rfl) (fun _ _ _ h => h) (Or.inl ⟨by first | rfl | (go_simp; done), ?ya5⟩) ?ra5
    case ya5 => intro w' hSw; clear hSw; go_simp; try (with_reducible rfl)
    go_simp
    refine restL_one (i := 9) (by kernel_rfl) rfl (fun K hK => ?_)
    go_simp
    go_at_call 11
    have HC := rSameZ_at exT exT T1A T1B none (some ⟨lb, 0, none⟩) T1n T1c T1m T1d 0 0 1 1 y4 (HT1.out.up B_y3.out) HT.out
    rw [(sameC_iff _ _).2 rfl] at HC
    refine HC.mono ?_
    clear HC
    rintro e y5 ⟨rfl, hb⟩
    clear hHeld
    have B_w : Hid (Below w.heap.size w y5) := below_on2 B_w.out hb
    have B_wa : Hid (Below wa.heap.size wa y5) := below_on2 B_wa.out hb
    have B_wq : Hid (Below wq.heap.size wq y5) := below_on2 B_wq.out hb
    have B_y1 : Hid (Below y1.heap.size y1 y5) := below_on2 B_y1.out hb
    have B_y2 : Hid (Below y2.heap.size y2 y5) := below_on2 B_y2.out hb
    have B_y3 : Hid (Below y3.heap.size y3 y5) := below_on2 B_y3.out hb
    have B_y4 : Hid (Below y4.heap.size y4 y5) := hb
    clear hb
    refine hK.out _ _ (fun _ => ?keep) (fun hHeld => ?_)
    case keep => exact ⟨(rowCells CA.out B_wa.out), (rowCells CB.out B_wa.out), (rowCells CF.out B_wa.out), (rowCells CS.out B_wa.out), (rowCells CL.out B_wa.out)⟩
    have hHeld := hHeld rfl
    clear hK K
    try go_simp
    refine restL_pure (i := 10) (v := ?va6) rfl (by kernel_rfl) (by kernel_rfl) (by kernel_rfl) (fun _ _ _ h => h) (Or.inl ⟨by rfl, ?ya6⟩) ?ra6
    case ya6 => intro w' hSw; clear hSw; go_simp; try (with_reducible rfl)
    go_simp
    refine restL_pure (i := 11) (v := ?va7) rfl (by kernel_rfl) (by kernel_rfl) (by kernel_rfl) (fun _ _ _ h => h) (Or.inl ⟨by rfl, ?ya7⟩) ?ra7
    case ya7 => intro w' hSw; clear hSw; go_simp; try (with_reducible rfl)
    go_simp
    refine restL_take (i := 12) (v := ?va8) [] rfl (by kernel_rfl) (by kernel_rfl) (by kernel_rfl) (by kernel_rfl) (fun _ _ _ h => h) (Or.inl ⟨by first | rfl | (go_simp; done), ?ya8⟩) hHeld ?ra8
    case ya8 =>
      intro w' hSw
      obtain ⟨s0, s1, s2, s3, s4⟩ := hSw
      have hT0 : Hid (Row w' (w.heap.size + 1 + 1) 25 [.int .i64 1, .slice (some ⟨w.heap.size, 0, none⟩) 2 2, .slice (some ⟨w.heap.size + 1, 0, none⟩) 1 1]) := s0
      have z0_0 := hT0.out.cell 0
      have z0_1 := hT0.out.cell 1
      have z0_2 := hT0.out.cell 2
      have z0_l := hT0.out.lt
      simp only [List.getElem?_cons_zero, List.getElem?_cons_succ] at z0_0 z0_1 z0_2
      have hT1 : Hid (Row w' (w.heap.size + 1 + 1 + 1 + 1 + 1) 25 [.int .i64 2, .slice (some ⟨w.heap.size + 1 + 1 + 1, 0, none⟩) 3 3, .slice (some ⟨w.heap.size + 1 + 1 + 1 + 1, 0, none⟩) 1 1]) := s1
      have z1_0 := hT1.out.cell 0
      have z1_1 := hT1.out.cell 1
      have z1_2 := hT1.out.cell 2
      have z1_l := hT1.out.lt
      simp only [List.getElem?_cons_zero, List.getElem?_cons_succ] at z1_0 z1_1 z1_2
      have hT2 : Hid (Row w' (w.heap.size + 1 + 1 + 1 + 1 + 1 + 1 + 1) 25 [.int .i64 1, .slice (some ⟨w.heap.size, 0, none⟩) 2 2, .slice (some ⟨w.heap.size + 1 + 1 + 1 + 1 + 1 + 1, 0, none⟩) 1 1]) := s2
      have z2_0 := hT2.out.cell 0
      have z2_1 := hT2.out.cell 1
      have z2_2 := hT2.out.cell 2
      have z2_l := hT2.out.lt
      simp only [List.getElem?_cons_zero, List.getElem?_cons_succ] at z2_0 z2_1 z2_2
      have hT3 : Hid (Row w' (w.heap.size + 1 + 1 + 1 + 1 + 1 + 1 + 1 + 1 + 1 + 1) 25 [.int .i64 2, .slice (some ⟨w.heap.size + 1 + 1 + 1 + 1 + 1 + 1 + 1 + 1, 0, none⟩) 3 3, .slice (some ⟨w.heap.size + 1 + 1 + 1 + 1 + 1 + 1 + 1 + 1 + 1, 0, none⟩) 1 1]) := s3
      have z3_0 := hT3.out.cell 0
      have z3_1 := hT3.out.cell 1
      have z3_2 := hT3.out.cell 2
      have z3_l := hT3.out.lt
      simp only [List.getElem?_cons_zero, List.getElem?_cons_succ] at z3_0 z3_1 z3_2
      have hT4 : Hid (Row w' (w.heap.size + 1 + 1 + 1 + 1 + 1 + 1 + 1 + 1 + 1 + 1 + 1 + 1 + 1) 25 [.int .i64 2, .slice (some ⟨w.heap.size + 1 + 1 + 1 + 1 + 1 + 1 + 1 + 1 + 1 + 1 + 1, 0, none⟩) 1 1, .slice (some ⟨w.heap.size + 1 + 1 + 1 + 1 + 1 + 1 + 1 + 1 + 1 + 1 + 1 + 1, 0, none⟩) 1 1]) := s4
      have z4_0 := hT4.out.cell 0
      have z4_1 := hT4.out.cell 1
      have z4_2 := hT4.out.cell 2
      have z4_l := hT4.out.lt
      simp only [List.getElem?_cons_zero, List.getElem?_cons_succ] at z4_0 z4_1 z4_2
      clear s0 s1 s2 s3 s4
      go_simp
      try (with_reducible rfl)
    go_simp
    refine restL_take (i := 14) (v := ?va9) [] rfl (by kernel_rfl) (by kernel_rfl) (by kernel_rfl) (by kernel_rfl) (fun _ _ _ h => h) (Or.inl ⟨by first | rfl | (go_simp; done), ?ya9⟩) hHeld ?ra9
    case ya9 =>
      intro w' hSw
      obtain ⟨s0, s1, s2, s3, s4⟩ := hSw
      have hT0 : Hid (Row w' (w.heap.size + 1 + 1) 25 [.int .i64 1, .slice (some ⟨w.heap.size, 0, none⟩) 2 2, .slice (some ⟨w.heap.size + 1, 0, none⟩) 1 1]) := s0
      have z0_0 := hT0.out.cell 0
      have z0_1 := hT0.out.cell 1
      have z0_2 := hT0.out.cell 2
      have z0_l := hT0.out.lt
      simp only [List.getElem?_cons_zero, List.getElem?_cons_succ] at z0_0 z0_1 z0_2
      have hT1 : Hid (Row w' (w.heap.size + 1 + 1 + 1 + 1 + 1) 25 [.int .i64 2, .slice (some ⟨w.heap.size + 1 + 1 + 1, 0, none⟩) 3 3, .slice (some ⟨w.heap.size + 1 + 1 + 1 + 1, 0, none⟩) 1 1]) := s1
      have z1_0 := hT1.out.cell 0
      have z1_1 := hT1.out.cell 1
      have z1_2 := hT1.out.cell 2
      have z1_l := hT1.out.lt
      simp only [List.getElem?_cons_zero, List.getElem?_cons_succ] at z1_0 z1_1 z1_2
      have hT2 : Hid (Row w' (w.heap.size + 1 + 1 + 1 + 1 + 1 + 1 + 1) 25 [.int .i64 1, .slice (some ⟨w.heap.size, 0, none⟩) 2 2, .slice (some ⟨w.heap.size + 1 + 1 + 1 + 1 + 1 + 1, 0, none⟩) 1 1]) := s2
      have z2_0 := hT2.out.cell 0
      have z2_1 := hT2.out.cell 1
      have z2_2 := hT2.out.cell 2
      have z2_l := hT2.out.lt
      simp only [List.getElem?_cons_zero, List.getElem?_cons_succ] at z2_0 z2_1 z2_2
      have hT3 : Hid (Row w' (w.heap.size + 1 + 1 + 1 + 1 + 1 + 1 + 1 + 1 + 1 + 1) 25 [.int .i64 2, .slice (some ⟨w.heap.size + 1 + 1 + 1 + 1 + 1 + 1 + 1 + 1, 0, none⟩) 3 3, .slice (some ⟨w.heap.size + 1 + 1 + 1 + 1 + 1 + 1 + 1 + 1 + 1, 0, none⟩) 1 1]) := s3
      have z3_0 := hT3.out.cell 0
      have z3_1 := hT3.out.cell 1
      have z3_2 := hT3.out.cell 2
      have z3_l := hT3.out.lt
      simp only [List.getElem?_cons_zero, List.getElem?_cons_succ] at z3_0 z3_1 z3_2
      have hT4 : Hid (Row w' (w.heap.size + 1 + 1 + 1 + 1 + 1 + 1 + 1 + 1 + 1 + 1 + 1 + 1 + 1) 25 [.int .i64 2, .slice (some ⟨w.heap.size + 1 + 1 + 1 + 1 + 1 + 1 + 1 + 1 + 1 + 1 + 1, 0, none⟩) 1 1, .slice (some ⟨w.heap.size + 1 + 1 + 1 + 1 + 1 + 1 + 1 + 1 + 1 + 1 + 1 + 1, 0, none⟩) 1 1]) := s4
      have z4_0 := hT4.out.cell 0
      have z4_1 := hT4.out.cell 1
      have z4_2 := hT4.out.cell 2
      have z4_l := hT4.out.lt
      simp only [List.getElem?_cons_zero, List.getElem?_cons_succ] at z4_0 z4_1 z4_2
      clear s0 s1 s2 s3 s4
      go_simp
      try (with_reducible rfl)
    go_simp
    refine restL_one (i := 13) (by kernel_rfl) rfl (fun K hK => ?_)
    go_simp
    go_at_call 14
    have HC := share_any exB (some ⟨w.heap.size + 1 + 1 + 1, 0, none⟩) (some ⟨w.heap.size + 1 + 1 + 1 + 1, 0, none⟩) 3 3 1 1 y5 (HB.out.up B_wa.out)
    rw [ex3] at HC
    refine HC.mono ?_
    clear HC
    rintro e y6 ⟨S1A, S1B, S1n, S1c, S1m, S1d, he, hca, -, -, hb⟩
    have he2 : e = .returned (.agg #[.int .i64 2, .slice S1A S1n S1c, .slice S1B S1m S1d]) := he
    subst he2
    have HS1 : Hid (CAt y6 exS S1A S1B S1n S1m) := hca
    clear he hca hHeld
    have B_w : Hid (Below w.heap.size w y6) := below_on2 B_w.out hb
    have B_wa : Hid (Below wa.heap.size wa y6) := below_on2 B_wa.out hb
    have B_wq : Hid (Below wq.heap.size wq y6) := below_on2 B_wq.out hb
    have B_y1 : Hid (Below y1.heap.size y1 y6) := below_on2 B_y1.out hb
    have B_y2 : Hid (Below y2.heap.size y2 y6) := below_on2 B_y2.out hb
    have B_y3 : Hid (Below y3.heap.size y3 y6) := below_on2 B_y3.out hb
    have B_y4 : Hid (Below y4.heap.size y4 y6) := below_on2 B_y4.out hb
    have B_y5 : Hid (Below y5.heap.size y5 y6) := hb
    clear hb
    refine hK.out _ _ (fun _ => ?keep) (fun hHeld => ?_)
    case keep => exact ⟨(rowCells CA.out B_wa.out), (rowCells CB.out B_wa.out), (rowCells CF.out B_wa.out), (rowCells CS.out B_wa.out), (rowCells CL.out B_wa.out)⟩
    have hHeld := hHeld rfl
    clear hK K
    try go_simp
    refine restL_one (i := 15) (by kernel_rfl) rfl (fun K hK => ?_)
    go_simp
    go_at_call 11
    have HC := rSameZ_at exS exS S1A S1B (some ⟨w.heap.size + 1 + 1 + 1 + 1 + 1 + 1 + 1 + 1, 0, none⟩) (some ⟨w.heap.size + 1 + 1 + 1 + 1 + 1 + 1 + 1 + 1 + 1, 0, none⟩) S1n S1c S1m S1d 3 3 1 1 y6 HS1.out (HS.out.up B_wa.out)
    rw [(sameC_iff _ _).2 rfl] at HC
    refine HC.mono ?_
    clear HC
    rintro e y7 ⟨rfl, hb⟩
    clear hHeld
    have B_w : Hid (Below w.heap.size w y7) := below_on2 B_w.out hb
    have B_wa : Hid (Below wa.heap.size wa y7) := below_on2 B_wa.out hb
    have B_wq : Hid (Below wq.heap.size wq y7) := below_on2 B_wq.out hb
    have B_y1 : Hid (Below y1.heap.size y1 y7) := below_on2 B_y1.out hb
    have B_y2 : Hid (Below y2.heap.size y2 y7) := below_on2 B_y2.out hb
    have B_y3 : Hid (Below y3.heap.size y3 y7) := below_on2 B_y3.out hb
    have B_y4 : Hid (Below y4.heap.size y4 y7) := below_on2 B_y4.out hb
    have B_y5 : Hid (Below y5.heap.size y5 y7) := below_on2 B_y5.out hb
    have B_y6 : Hid (Below y6.heap.size y6 y7) := hb
    clear hb
    refine hK.out _ _ (fun _ => ?keep) (fun hHeld => ?_)
    case keep => exact ⟨(rowCells CA.out B_wa.out), (rowCells CB.out B_wa.out), (rowCells CF.out B_wa.out), (rowCells CS.out B_wa.out), (rowCells CL.out B_wa.out)⟩
    have hHeld := hHeld rfl
    clear hK K
    try go_simp
    refine restL_pure (i := 16) (v := ?va10) rfl (by kernel_rfl) (by kernel_rfl) (by kernel_rfl) (fun _ _ _ h => h) (Or.inl ⟨by rfl, ?ya10⟩) ?ra10
    case ya10 => intro w' hSw; clear hSw; go_simp; try (with_reducible rfl)
    go_simp
    refine restL_pure (i := 17) (v := ?va11) rfl (by kernel_rfl) (by kernel_rfl) (by kernel_rfl) (fun _ _ _ h => h) (Or.inl ⟨by rfl, ?ya11⟩) ?ra11
    case ya11 => intro w' hSw; clear hSw; go_simp; try (with_reducible rfl)
    go_simp
    refine restL_take (i := 18) (v := ?va12) [] rfl (by kernel_rfl) (by kernel_rfl) (by kernel_rfl) (by kernel_rfl) (fun _ _ _ h => h) (Or.inl ⟨by first | rfl | (go_simp; done), ?ya12⟩) hHeld ?ra12
    case ya12 =>
      intro w' hSw
      obtain ⟨s0, s1, s2, s3, s4⟩ := hSw
      have hT0 : Hid (Row w' (w.heap.size + 1 + 1) 25 [.int .i64 1, .slice (some ⟨w.heap.size, 0, none⟩) 2 2, .slice (some ⟨w.heap.size + 1, 0, none⟩) 1 1]) := s0
      have z0_0 := hT0.out.cell 0
      have z0_1 := hT0.out.cell 1
      have z0_2 := hT0.out.cell 2
      have z0_l := hT0.out.lt
      simp only [List.getElem?_cons_zero, List.getElem?_cons_succ] at z0_0 z0_1 z0_2
      have hT1 : Hid (Row w' (w.heap.size + 1 + 1 + 1 + 1 + 1) 25 [.int .i64 2, .slice (some ⟨w.heap.size + 1 + 1 + 1, 0, none⟩) 3 3, .slice (some ⟨w.heap.size + 1 + 1 + 1 + 1, 0, none⟩) 1 1]) := s1
      have z1_0 := hT1.out.cell 0
      have z1_1 := hT1.out.cell 1
      have z1_2 := hT1.out.cell 2
      have z1_l := hT1.out.lt
      simp only [List.getElem?_cons_zero, List.getElem?_cons_succ] at z1_0 z1_1 z1_2
      have hT2 : Hid (Row w' (w.heap.size + 1 + 1 + 1 + 1 + 1 + 1 + 1) 25 [.int .i64 1, .slice (some ⟨w.heap.size, 0, none⟩) 2 2, .slice (some ⟨w.heap.size + 1 + 1 + 1 + 1 + 1 + 1, 0, none⟩) 1 1]) := s2
      have z2_0 := hT2.out.cell 0
      have z2_1 := hT2.out.cell 1
      have z2_2 := hT2.out.cell 2
      have z2_l := hT2.out.lt
      simp only [List.getElem?_cons_zero, List.getElem?_cons_succ] at z2_0 z2_1 z2_2
      have hT3 : Hid (Row w' (w.heap.size + 1 + 1 + 1 + 1 + 1 + 1 + 1 + 1 + 1 + 1) 25 [.int .i64 2, .slice (some ⟨w.heap.size + 1 + 1 + 1 + 1 + 1 + 1 + 1 + 1, 0, none⟩) 3 3, .slice (some ⟨w.heap.size + 1 + 1 + 1 + 1 + 1 + 1 + 1 + 1 + 1, 0, none⟩) 1 1]) := s3
      have z3_0 := hT3.out.cell 0
      have z3_1 := hT3.out.cell 1
      have z3_2 := hT3.out.cell 2
      have z3_l := hT3.out.lt
      simp only [List.getElem?_cons_zero, List.getElem?_cons_succ] at z3_0 z3_1 z3_2
      have hT4 : Hid (Row w' (w.heap.size + 1 + 1 + 1 + 1 + 1 + 1 + 1 + 1 + 1 + 1 + 1 + 1 + 1) 25 [.int .i64 2, .slice (some ⟨w.heap.size + 1 + 1 + 1 + 1 + 1 + 1 + 1 + 1 + 1 + 1 + 1, 0, none⟩) 1 1, .slice (some ⟨w.heap.size + 1 + 1 + 1 + 1 + 1 + 1 + 1 + 1 + 1 + 1 + 1 + 1, 0, none⟩) 1 1]) := s4
      have z4_0 := hT4.out.cell 0
      have z4_1 := hT4.out.cell 1
      have z4_2 := hT4.out.cell 2
      have z4_l := hT4.out.lt
      simp only [List.getElem?_cons_zero, List.getElem?_cons_succ] at z4_0 z4_1 z4_2
      clear s0 s1 s2 s3 s4
      go_simp
      try (with_reducible rfl)
    go_simp
    refine restL_take (i := 20) (v := ?va13) [] rfl (by kernel_rfl) (by kernel_rfl) (by kernel_rfl) (by kernel_rfl) (fun _ _ _ h => h) (Or.inl ⟨by first | rfl | (go_simp; done), ?ya13⟩) hHeld ?ra13
    case ya13 =>
      intro w' hSw
      obtain ⟨s0, s1, s2, s3, s4⟩ := hSw
      have hT0 : Hid (Row w' (w.heap.size + 1 + 1) 25 [.int .i64 1, .slice (some ⟨w.heap.size, 0, none⟩) 2 2, .slice (some ⟨w.heap.size + 1, 0, none⟩) 1 1]) := s0
      have z0_0 := hT0.out.cell 0
      have z0_1 := hT0.out.cell 1
      have z0_2 := hT0.out.cell 2
      have z0_l := hT0.out.lt
      simp only [List.getElem?_cons_zero, List.getElem?_cons_succ] at z0_0 z0_1 z0_2
      have hT1 : Hid (Row w' (w.heap.size + 1 + 1 + 1 + 1 + 1) 25 [.int .i64 2, .slice (some ⟨w.heap.size + 1 + 1 + 1, 0, none⟩) 3 3, .slice (some ⟨w.heap.size + 1 + 1 + 1 + 1, 0, none⟩) 1 1]) := s1
      have z1_0 := hT1.out.cell 0
      have z1_1 := hT1.out.cell 1
      have z1_2 := hT1.out.cell 2
      have z1_l := hT1.out.lt
      simp only [List.getElem?_cons_zero, List.getElem?_cons_succ] at z1_0 z1_1 z1_2
      have hT2 : Hid (Row w' (w.heap.size + 1 + 1 + 1 + 1 + 1 + 1 + 1) 25 [.int .i64 1, .slice (some ⟨w.heap.size, 0, none⟩) 2 2, .slice (some ⟨w.heap.size + 1 + 1 + 1 + 1 + 1 + 1, 0, none⟩) 1 1]) := s2
      have z2_0 := hT2.out.cell 0
      have z2_1 := hT2.out.cell 1
      have z2_2 := hT2.out.cell 2
      have z2_l := hT2.out.lt
      simp only [List.getElem?_cons_zero, List.getElem?_cons_succ] at z2_0 z2_1 z2_2
      have hT3 : Hid (Row w' (w.heap.size + 1 + 1 + 1 + 1 + 1 + 1 + 1 + 1 + 1 + 1) 25 [.int .i64 2, .slice (some ⟨w.heap.size + 1 + 1 + 1 + 1 + 1 + 1 + 1 + 1, 0, none⟩) 3 3, .slice (some ⟨w.heap.size + 1 + 1 + 1 + 1 + 1 + 1 + 1 + 1 + 1, 0, none⟩) 1 1]) := s3
      have z3_0 := hT3.out.cell 0
      have z3_1 := hT3.out.cell 1
      have z3_2 := hT3.out.cell 2
      have z3_l := hT3.out.lt
      simp only [List.getElem?_cons_zero, List.getElem?_cons_succ] at z3_0 z3_1 z3_2
      have hT4 : Hid (Row w' (w.heap.size + 1 + 1 + 1 + 1 + 1 + 1 + 1 + 1 + 1 + 1 + 1 + 1 + 1) 25 [.int .i64 2, .slice (some ⟨w.heap.size + 1 + 1 + 1 + 1 + 1 + 1 + 1 + 1 + 1 + 1 + 1, 0, none⟩) 1 1, .slice (some ⟨w.heap.size + 1 + 1 + 1 + 1 + 1 + 1 + 1 + 1 + 1 + 1 + 1 + 1, 0, none⟩) 1 1]) := s4
      have z4_0 := hT4.out.cell 0
      have z4_1 := hT4.out.cell 1
      have z4_2 := hT4.out.cell 2
      have z4_l := hT4.out.lt
      simp only [List.getElem?_cons_zero, List.getElem?_cons_succ] at z4_0 z4_1 z4_2
      clear s0 s1 s2 s3 s4
      go_simp
      try (with_reducible rfl)
    go_simp
    refine restL_one (i := 19) (by kernel_rfl) rfl (fun K hK => ?_)
    go_simp
    go_at_call 18
    have HC := all_any exB (some ⟨w.heap.size + 1 + 1 + 1, 0, none⟩) (some ⟨w.heap.size + 1 + 1 + 1 + 1, 0, none⟩) 3 3 1 1 y7 (HB.out.up B_wa.out)
    rw [ex4] at HC
    refine HC.mono ?_
    clear HC
    rintro e y8 ⟨L1A, L1B, L1n, L1c, L1m, L1d, he, hca, -, -, hb⟩
    have he2 : e = .returned (.agg #[.int .i64 2, .slice L1A L1n L1c, .slice L1B L1m L1d]) := he
    subst he2
    have HL1 : Hid (CAt y8 exL L1A L1B L1n L1m) := hca
    clear he hca hHeld
    have B_w : Hid (Below w.heap.size w y8) := below_on2 B_w.out hb
    have B_wa : Hid (Below wa.heap.size wa y8) := below_on2 B_wa.out hb
    have B_wq : Hid (Below wq.heap.size wq y8) := below_on2 B_wq.out hb
    have B_y1 : Hid (Below y1.heap.size y1 y8) := below_on2 B_y1.out hb
    have B_y2 : Hid (Below y2.heap.size y2 y8) := below_on2 B_y2.out hb
    have B_y3 : Hid (Below y3.heap.size y3 y8) := below_on2 B_y3.out hb
    have B_y4 : Hid (Below y4.heap.size y4 y8) := below_on2 B_y4.out hb
    have B_y5 : Hid (Below y5.heap.size y5 y8) := below_on2 B_y5.out hb
    have B_y6 : Hid (Below y6.heap.size y6 y8) := below_on2 B_y6.out hb
    have B_y7 : Hid (Below y7.heap.size y7 y8) := hb
    clear hb
    refine hK.out _ _ (fun _ => ?keep) (fun hHeld => ?_)
    case keep => exact ⟨(rowCells CA.out B_wa.out), (rowCells CB.out B_wa.out), (rowCells CF.out B_wa.out), (rowCells CS.out B_wa.out), (rowCells CL.out B_wa.out)⟩
    have hHeld := hHeld rfl
    clear hK K
    try go_simp
    refine restL_one (i := 21) (by kernel_rfl) rfl (fun K hK => ?_)
    go_simp
    go_at_call 11
    have HC := rSameZ_at exL exL L1A L1B (some ⟨w.heap.size + 1 + 1 + 1 + 1 + 1 + 1 + 1 + 1 + 1 + 1 + 1, 0, none⟩) (some ⟨w.heap.size + 1 + 1 + 1 + 1 + 1 + 1 + 1 + 1 + 1 + 1 + 1 + 1, 0, none⟩) L1n L1c L1m L1d 1 1 1 1 y8 HL1.out (HL.out.up B_wa.out)
    rw [(sameC_iff _ _).2 rfl] at HC
    refine HC.mono ?_
    clear HC
    rintro e y9 ⟨rfl, hb⟩
    clear hHeld
    have B_w : Hid (Below w.heap.size w y9) := below_on2 B_w.out hb
    have B_wa : Hid (Below wa.heap.size wa y9) := below_on2 B_wa.out hb
    have B_wq : Hid (Below wq.heap.size wq y9) := below_on2 B_wq.out hb
    have B_y1 : Hid (Below y1.heap.size y1 y9) := below_on2 B_y1.out hb
    have B_y2 : Hid (Below y2.heap.size y2 y9) := below_on2 B_y2.out hb
    have B_y3 : Hid (Below y3.heap.size y3 y9) := below_on2 B_y3.out hb
    have B_y4 : Hid (Below y4.heap.size y4 y9) := below_on2 B_y4.out hb
    have B_y5 : Hid (Below y5.heap.size y5 y9) := below_on2 B_y5.out hb
    have B_y6 : Hid (Below y6.heap.size y6 y9) := below_on2 B_y6.out hb
    have B_y7 : Hid (Below y7.heap.size y7 y9) := below_on2 B_y7.out hb
    have B_y8 : Hid (Below y8.heap.size y8 y9) := hb
    clear hb
    refine hK.out _ _ (fun _ => ?keep) (fun hHeld => ?_)
    case keep => exact ⟨(rowCells CA.out B_wa.out), (rowCells CB.out B_wa.out), (rowCells CF.out B_wa.out), (rowCells CS.out B_wa.out), (rowCells CL.out B_wa.out)⟩
    have hHeld := hHeld rfl
    clear hK K
    try go_simp
    refine restL_pure (i := 22) (v := ?va14) rfl (by kernel_rfl) (by kernel_rfl) (by kernel_rfl) (fun _ _ _ h => h) (Or.inl ⟨by rfl, ?ya14⟩) ?ra14
    case ya14 => intro w' hSw; clear hSw; go_simp; try (with_reducible rfl)
    go_simp
    refine restL_pure (i := 23) (v := ?va15) rfl (by kernel_rfl) (by kernel_rfl) (by kernel_rfl) (fun _ _ _ h => h) (Or.inl ⟨by rfl, ?ya15⟩) ?ra15
    case ya15 => intro w' hSw; clear hSw; go_simp; try (with_reducible rfl)
    go_simp
    refine restL_done (by kernel_rfl) ?_ _
    go_wp2_with fail
    go_ret
    exact ⟨rfl, B_w.out⟩
  · go_simp
    have HT : Hid (CAt (World.alloc y2 (.cells #[.int .i64 0] 3)) exT none (some ⟨y2.heap.size, 0, none⟩) 0 1) := ⟨Rd.empty _, (Row.new y2 3 [.int .i64 0]).rd rfl, by unfold maxLen; omega, by unfold maxLen; omega⟩
    have hb0 : Below y2.heap.size y2 (World.alloc y2 (.cells #[.int .i64 0] 3)) := (Below.refl _ _).alloc (Nat.le_refl _) _
    clear hHeld
    have B_wx : Hid (Below w.heap.size w (World.alloc y2 (.cells #[.int .i64 0] 3))) := below_on2 B_w.out hb0
    have B_wax : Hid (Below wa.heap.size wa (World.alloc y2 (.cells #[.int .i64 0] 3))) := below_on2 B_wa.out hb0
    have B_wqx : Hid (Below wq.heap.size wq (World.alloc y2 (.cells #[.int .i64 0] 3))) := below_on2 B_wq.out hb0
    have B_y1x : Hid (Below y1.heap.size y1 (World.alloc y2 (.cells #[.int .i64 0] 3))) := below_on2 B_y1.out hb0
    have B_y2x : Hid (Below y2.heap.size y2 (World.alloc y2 (.cells #[.int .i64 0] 3))) := hb0
    clear hb0 B_w B_wa B_wq B_y1
    revert HT B_wx B_wax B_wqx B_y1x B_y2x
    generalize (World.alloc y2 (.cells #[.int .i64 0] 3)) = y3
    obtain ⟨lb, hlb⟩ : ∃ lb, y2.heap.size = lb := ⟨_, rfl⟩
    intro HT B_wx B_wax B_wqx B_y1x B_y2x
    rw [hlb] at HT
    try rw [hlb]
    clear hlb
    have B_w := B_wx
    have B_wa := B_wax
    have B_wq := B_wqx
    have B_y1 := B_y1x
    have B_y2 := B_y2x
    clear B_wx B_wax B_wqx B_y1x B_y2x
    refine hK.out _ _ (fun _ => ?keep) (fun hHeld => ?_)
    case keep => exact ⟨(rowCells CA.out B_wa.out), (rowCells CB.out B_wa.out), (rowCells CF.out B_wa.out), (rowCells CS.out B_wa.out), (rowCells CL.out B_wa.out)⟩
    have hHeld := hHeld rfl
    clear hK K
    try go_simp
    refine restL_pure (i := 8) (v := ?va16) rfl (by kernel_rfl) (by kernel_rfl) (by kernel_rfl) (fun _ _ _ h => h) (Or.inl ⟨by first | rfl | (go_simp; done), ?ya16⟩) ?ra16
    case ya16 => intro w' hSw; clear hSw; go_simp; try (with_reducible rfl)
    go_simp
    refine restL_one (i := 6) (by kernel_rfl) rfl (fun K hK => ?_)
    go_simp
    go_at_call 16
    have HC := trim_any exF (some ⟨w.heap.size, 0, none⟩) (some ⟨w.heap.size + 1 + 1 + 1 + 1 + 1 + 1, 0, none⟩) 2 2 1 1 y3 (HF.out.up B_wa.out)
    rw [ex2] at HC
    refine HC.mono ?_
    clear HC
    rintro e y4 ⟨T1A, T1B, T1n, T1c, T1m, T1d, he, hca, -, -, hb⟩
    have he2 : e = .returned (.agg #[.int .i64 1, .slice T1A T1n T1c, .slice T1B T1m T1d]) := he
    subst he2
    have HT1 : Hid (CAt y4 exT T1A T1B T1n T1m) := hca
    clear he hca hHeld
    have B_w : Hid (Below w.heap.size w y4) := below_on2 B_w.out hb
    have B_wa : Hid (Below wa.heap.size wa y4) := below_on2 B_wa.out hb
    have B_wq : Hid (Below wq.heap.size wq y4) := below_on2 B_wq.out hb
    have B_y1 : Hid (Below y1.heap.size y1 y4) := below_on2 B_y1.out hb
    have B_y2 : Hid (Below y2.heap.size y2 y4) := below_on2 B_y2.out hb
    have B_y3 : Hid (Below y3.heap.size y3 y4) := hb
    clear hb
    refine hK.out _ _ (fun _ => ?keep) (fun hHeld => ?_)
    case keep => exact ⟨(rowCells CA.out B_wa.out), (rowCells CB.out B_wa.out), (rowCells CF.out B_wa.out), (rowCells CS.out B_wa.out), (rowCells CL.out B_wa.out)⟩
    have hHeld := hHeld rfl
    clear hK K
    try go_simp
    refine restL_one (i := 9) (by kernel_rfl) rfl (fun K hK => ?_)
    go_simp
    go_at_call 11
    have HC := rSameZ_at exT exT T1A T1B none (some ⟨lb, 0, none⟩) T1n T1c T1m T1d 0 0 1 1 y4 HT1.out (HT.out.up B_y3.out)
    rw [(sameC_iff _ _).2 rfl] at HC
    refine HC.mono ?_
    clear HC
    rintro e y5 ⟨rfl, hb⟩
    clear hHeld
    have B_w : Hid (Below w.heap.size w y5) := below_on2 B_w.out hb
    have B_wa : Hid (Below wa.heap.size wa y5) := below_on2 B_wa.out hb
    have B_wq : Hid (Below wq.heap.size wq y5) := below_on2 B_wq.out hb
    have B_y1 : Hid (Below y1.heap.size y1 y5) := below_on2 B_y1.out hb
    have B_y2 : Hid (Below y2.heap.size y2 y5) := below_on2 B_y2.out hb
    have B_y3 : Hid (Below y3.heap.size y3 y5) := below_on2 B_y3.out hb
    have B_y4 : Hid (Below y4.heap.size y4 y5) := hb
    clear hb
    refine hK.out _ _ (fun _ => ?keep) (fun hHeld => ?_)
    case keep => exact ⟨(rowCells CA.out B_wa.out), (rowCells CB.out B_wa.out), (rowCells CF.out B_wa.out), (rowCells CS.out B_wa.out), (rowCells CL.out B_wa.out)⟩
    have hHeld := hHeld rfl
    clear hK K
    try go_simp
    refine restL_pure (i := 10) (v := ?va17) rfl (by kernel_rfl) (by kernel_rfl) (by kernel_rfl) (fun _ _ _ h => h) (Or.inl ⟨by rfl, ?ya17⟩) ?ra17
    case ya17 => intro w' hSw; clear hSw; go_simp; try (with_reducible rfl)
    go_simp
    refine restL_pure (i := 11) (v := ?va18) rfl (by kernel_rfl) (by kernel_rfl) (by kernel_rfl) (fun _ _ _ h => h) (Or.inl ⟨by rfl, ?ya18⟩) ?ra18
    case ya18 => intro w' hSw; clear hSw; go_simp; try (with_reducible rfl)
    go_simp
    refine restL_take (i := 12) (v := ?va19) [] rfl (by kernel_rfl) (by kernel_rfl) (by kernel_rfl) (by kernel_rfl) (fun _ _ _ h => h) (Or.inl ⟨by first | rfl | (go_simp; done), ?ya19⟩) hHeld ?ra19
    case ya19 =>
      intro w' hSw
      obtain ⟨s0, s1, s2, s3, s4⟩ := hSw
      have hT0 : Hid (Row w' (w.heap.size + 1 + 1) 25 [.int .i64 1, .slice (some ⟨w.heap.size, 0, none⟩) 2 2, .slice (some ⟨w.heap.size + 1, 0, none⟩) 1 1]) := s0
      have z0_0 := hT0.out.cell 0
      have z0_1 := hT0.out.cell 1
      have z0_2 := hT0.out.cell 2
      have z0_l := hT0.out.lt
      simp only [List.getElem?_cons_zero, List.getElem?_cons_succ] at z0_0 z0_1 z0_2
      have hT1 : Hid (Row w' (w.heap.size + 1 + 1 + 1 + 1 + 1) 25 [.int .i64 2, .slice (some ⟨w.heap.size + 1 + 1 + 1, 0, none⟩) 3 3, .slice (some ⟨w.heap.size + 1 + 1 + 1 + 1, 0, none⟩) 1 1]) := s1
      have z1_0 := hT1.out.cell 0
      have z1_1 := hT1.out.cell 1
      have z1_2 := hT1.out.cell 2
      have z1_l := hT1.out.lt
      simp only [List.getElem?_cons_zero, List.getElem?_cons_succ] at z1_0 z1_1 z1_2
      have hT2 : Hid (Row w' (w.heap.size + 1 + 1 + 1 + 1 + 1 + 1 + 1) 25 [.int .i64 1, .slice (some ⟨w.heap.size, 0, none⟩) 2 2, .slice (some ⟨w.heap.size + 1 + 1 + 1 + 1 + 1 + 1, 0, none⟩) 1 1]) := s2
      have z2_0 := hT2.out.cell 0
      have z2_1 := hT2.out.cell 1
      have z2_2 := hT2.out.cell 2
      have z2_l := hT2.out.lt
      simp only [List.getElem?_cons_zero, List.getElem?_cons_succ] at z2_0 z2_1 z2_2
      have hT3 : Hid (Row w' (w.heap.size + 1 + 1 + 1 + 1 + 1 + 1 + 1 + 1 + 1 + 1) 25 [.int .i64 2, .slice (some ⟨w.heap.size + 1 + 1 + 1 + 1 + 1 + 1 + 1 + 1, 0, none⟩) 3 3, .slice (some ⟨w.heap.size + 1 + 1 + 1 + 1 + 1 + 1 + 1 + 1 + 1, 0, none⟩) 1 1]) := s3
      have z3_0 := hT3.out.cell 0
      have z3_1 := hT3.out.cell 1
      have z3_2 := hT3.out.cell 2
      have z3_l := hT3.out.lt
      simp only [List.getElem?_cons_zero, List.getElem?_cons_succ] at z3_0 z3_1 z3_2
      have hT4 : Hid (Row w' (w.heap.size + 1 + 1 + 1 + 1 + 1 + 1 + 1 + 1 + 1 + 1 + 1 + 1 + 1) 25 [.int .i64 2, .slice (some ⟨w.heap.size + 1 + 1 + 1 + 1 + 1 + 1 + 1 + 1 + 1 + 1 + 1, 0, none⟩) 1 1, .slice (some ⟨w.heap.size + 1 + 1 + 1 + 1 + 1 + 1 + 1 + 1 + 1 + 1 + 1 + 1, 0, none⟩) 1 1]) := s4
      have z4_0 := hT4.out.cell 0
      have z4_1 := hT4.out.cell 1
      have z4_2 := hT4.out.cell 2
      have z4_l := hT4.out.lt
      simp only [List.getElem?_cons_zero, List.getElem?_cons_succ] at z4_0 z4_1 z4_2
      clear s0 s1 s2 s3 s4
      go_simp
      try (with_reducible rfl)
    go_simp
    refine restL_take (i := 14) (v := ?va20) [] rfl (by kernel_rfl) (by kernel_rfl) (by kernel_rfl) (by kernel_rfl) (fun _ _ _ h => h) (Or.inl ⟨by first | rfl | (go_simp; done), ?ya20⟩) hHeld ?ra20
    case ya20 =>
      intro w' hSw
      obtain ⟨s0, s1, s2, s3, s4⟩ := hSw
      have hT0 : Hid (Row w' (w.heap.size + 1 + 1) 25 [.int .i64 1, .slice (some ⟨w.heap.size, 0, none⟩) 2 2, .slice (some ⟨w.heap.size + 1, 0, none⟩) 1 1]) := s0
      have z0_0 := hT0.out.cell 0
      have z0_1 := hT0.out.cell 1
      have z0_2 := hT0.out.cell 2
      have z0_l := hT0.out.lt
      simp only [List.getElem?_cons_zero, List.getElem?_cons_succ] at z0_0 z0_1 z0_2
      have hT1 : Hid (Row w' (w.heap.size + 1 + 1 + 1 + 1 + 1) 25 [.int .i64 2, .slice (some ⟨w.heap.size + 1 + 1 + 1, 0, none⟩) 3 3, .slice (some ⟨w.heap.size + 1 + 1 + 1 + 1, 0, none⟩) 1 1]) := s1
      have z1_0 := hT1.out.cell 0
      have z1_1 := hT1.out.cell 1
      have z1_2 := hT1.out.cell 2
      have z1_l := hT1.out.lt
      simp only [List.getElem?_cons_zero, List.getElem?_cons_succ] at z1_0 z1_1 z1_2
      have hT2 : Hid (Row w' (w.heap.size + 1 + 1 + 1 + 1 + 1 + 1 + 1) 25 [.int .i64 1, .slice (some ⟨w.heap.size, 0, none⟩) 2 2, .slice (some ⟨w.heap.size + 1 + 1 + 1 + 1 + 1 + 1, 0, none⟩) 1 1]) := s2
      have z2_0 := hT2.out.cell 0
      have z2_1 := hT2.out.cell 1
      have z2_2 := hT2.out.cell 2
      have z2_l := hT2.out.lt
      simp only [List.getElem?_cons_zero, List.getElem?_cons_succ] at z2_0 z2_1 z2_2
      have hT3 : Hid (Row w' (w.heap.size + 1 + 1 + 1 + 1 + 1 + 1 + 1 + 1 + 1 + 1) 25 [.int .i64 2, .slice (some ⟨w.heap.size + 1 + 1 + 1 + 1 + 1 + 1 + 1 + 1, 0, none⟩) 3 3, .slice (some ⟨w.heap.size + 1 + 1 + 1 + 1 + 1 + 1 + 1 + 1 + 1, 0, none⟩) 1 1]) := s3
      have z3_0 := hT3.out.cell 0
      have z3_1 := hT3.out.cell 1
      have z3_2 := hT3.out.cell 2
      have z3_l := hT3.out.lt
      simp only [List.getElem?_cons_zero, List.getElem?_cons_succ] at z3_0 z3_1 z3_2
      have hT4 : Hid (Row w' (w.heap.size + 1 + 1 + 1 + 1 + 1 + 1 + 1 + 1 + 1 + 1 + 1 + 1 + 1) 25 [.int .i64 2, .slice (some ⟨w.heap.size + 1 + 1 + 1 + 1 + 1 + 1 + 1 + 1 + 1 + 1 + 1, 0, none⟩) 1 1, .slice (some ⟨w.heap.size + 1 + 1 + 1 + 1 + 1 + 1 + 1 + 1 + 1 + 1 + 1 + 1, 0, none⟩) 1 1]) := s4
      have z4_0 := hT4.out.cell 0
      have z4_1 := hT4.out.cell 1
      have z4_2 := hT4.out.cell 2
      have z4_l := hT4.out.lt
      simp only [List.getElem?_cons_zero, List.getElem?_cons_succ] at z4_0 z4_1 z4_2
      clear s0 s1 s2 s3 s4
      go_simp
      try (with_reducible rfl)
    go_simp
    refine restL_one (i := 13) (by kernel_rfl) rfl (fun K hK => ?_)
    go_simp
    go_at_call 14
    have HC := share_any exB (some ⟨w.heap.size + 1 + 1 + 1, 0, none⟩) (some ⟨w.heap.size + 1 + 1 + 1 + 1, 0, none⟩) 3 3 1 1 y5 (HB.out.up B_wa.out)
    rw [ex3] at HC
    refine HC.mono ?_
    clear HC
    rintro e y6 ⟨S1A, S1B, S1n, S1c, S1m, S1d, he, hca, -, -, hb⟩
    have he2 : e = .returned (.agg #[.int .i64 2, .slice S1A S1n S1c, .slice S1B S1m S1d]) := he
    subst he2
    have HS1 : Hid (CAt y6 exS S1A S1B S1n S1m) := hca
    clear he hca hHeld
    have B_w : Hid (Below w.heap.size w y6) := below_on2 B_w.out hb
    have B_wa : Hid (Below wa.heap.size wa y6) := below_on2 B_wa.out hb
    have B_wq : Hid (Below wq.heap.size wq y6) := below_on2 B_wq.out hb
    have B_y1 : Hid (Below y1.heap.size y1 y6) := below_on2 B_y1.out hb
    have B_y2 : Hid (Below y2.heap.size y2 y6) := below_on2 B_y2.out hb
    have B_y3 : Hid (Below y3.heap.size y3 y6) := below_on2 B_y3.out hb
    have B_y4 : Hid (Below y4.heap.size y4 y6) := below_on2 B_y4.out hb
    have B_y5 : Hid (Below y5.heap.size y5 y6) := hb
    clear hb
    refine hK.out _ _ (fun _ => ?keep) (fun hHeld => ?_)
    case keep => exact ⟨(rowCells CA.out B_wa.out), (rowCells CB.out B_wa.out), (rowCells CF.out B_wa.out), (rowCells CS.out B_wa.out), (rowCells CL.out B_wa.out)⟩
    have hHeld := hHeld rfl
    clear hK K
    try go_simp
    refine restL_one (i := 15) (by kernel_rfl) rfl (fun K hK => ?_)
    go_simp
    go_at_call 11
    have HC := rSameZ_at exS exS S1A S1B (some ⟨w.heap.size + 1 + 1 + 1 + 1 + 1 + 1 + 1 + 1, 0, none⟩) (some ⟨w.heap.size + 1 + 1 + 1 + 1 + 1 + 1 + 1 + 1 + 1, 0, none⟩) S1n S1c S1m S1d 3 3 1 1 y6 HS1.out (HS.out.up B_wa.out)
    rw [(sameC_iff _ _).2 rfl] at HC
    refine HC.mono ?_
    clear HC
    rintro e y7 ⟨rfl, hb⟩
    clear hHeld
    have B_w : Hid (Below w.heap.size w y7) := below_on2 B_w.out hb
    have B_wa : Hid (Below wa.heap.size wa y7) := below_on2 B_wa.out hb
    have B_wq : Hid (Below wq.heap.size wq y7) := below_on2 B_wq.out hb
    have B_y1 : Hid (Below y1.heap.size y1 y7) := below_on2 B_y1.out hb
    have B_y2 : Hid (Below y2.heap.size y2 y7) := below_on2 B_y2.out hb
    have B_y3 : Hid (Below y3.heap.size y3 y7) := below_on2 B_y3.out hb
    have B_y4 : Hid (Below y4.heap.size y4 y7) := below_on2 B_y4.out hb
    have B_y5 : Hid (Below y5.heap.size y5 y7) := below_on2 B_y5.out hb
    have B_y6 : Hid (Below y6.heap.size y6 y7) := hb
    clear hb
    refine hK.out _ _ (fun _ => ?keep) (fun hHeld => ?_)
    case keep => exact ⟨(rowCells CA.out B_wa.out), (rowCells CB.out B_wa.out), (rowCells CF.out B_wa.out), (rowCells CS.out B_wa.out), (rowCells CL.out B_wa.out)⟩
    have hHeld := hHeld rfl
    clear hK K
    try go_simp
    refine restL_pure (i := 16) (v := ?va21) rfl (by kernel_rfl) (by kernel_rfl) (by kernel_rfl) (fun _ _ _ h => h) (Or.inl ⟨by rfl, ?ya21⟩) ?ra21
    case ya21 => intro w' hSw; clear hSw; go_simp; try (with_reducible rfl)
    go_simp
    refine restL_pure (i := 17) (v := ?va22) rfl (by kernel_rfl) (by kernel_rfl) (by kernel_rfl) (fun _ _ _ h => h) (Or.inl ⟨by rfl, ?ya22⟩) ?ra22
    case ya22 => intro w' hSw; clear hSw; go_simp; try (with_reducible rfl)
    go_simp
    refine restL_take (i := 18) (v := ?va23) [] rfl (by kernel_rfl) (by kernel_rfl) (by kernel_rfl) (by kernel_rfl) (fun _ _ _ h => h) (Or.inl ⟨by first | rfl | (go_simp; done), ?ya23⟩) hHeld ?ra23
    case ya23 =>
      intro w' hSw
      obtain ⟨s0, s1, s2, s3, s4⟩ := hSw
      have hT0 : Hid (Row w' (w.heap.size + 1 + 1) 25 [.int .i64 1, .slice (some ⟨w.heap.size, 0, none⟩) 2 2, .slice (some ⟨w.heap.size + 1, 0, none⟩) 1 1]) := s0
      have z0_0 := hT0.out.cell 0
      have z0_1 := hT0.out.cell 1
      have z0_2 := hT0.out.cell 2
      have z0_l := hT0.out.lt
      simp only [List.getElem?_cons_zero, List.getElem?_cons_succ] at z0_0 z0_1 z0_2
      have hT1 : Hid (Row w' (w.heap.size + 1 + 1 + 1 + 1 + 1) 25 [.int .i64 2, .slice (some ⟨w.heap.size + 1 + 1 + 1, 0, none⟩) 3 3, .slice (some ⟨w.heap.size + 1 + 1 + 1 + 1, 0, none⟩) 1 1]) := s1
      have z1_0 := hT1.out.cell 0
      have z1_1 := hT1.out.cell 1
      have z1_2 := hT1.out.cell 2
      have z1_l := hT1.out.lt
      simp only [List.getElem?_cons_zero, List.getElem?_cons_succ] at z1_0 z1_1 z1_2
      have hT2 : Hid (Row w' (w.heap.size + 1 + 1 + 1 + 1 + 1 + 1 + 1) 25 [.int .i64 1, .slice (some ⟨w.heap.size, 0, none⟩) 2 2, .slice (some ⟨w.heap.size + 1 + 1 + 1 + 1 + 1 + 1, 0, none⟩) 1 1]) := s2
      have z2_0 := hT2.out.cell 0
      have z2_1 := hT2.out.cell 1
      have z2_2 := hT2.out.cell 2
      have z2_l := hT2.out.lt
      simp only [List.getElem?_cons_zero, List.getElem?_cons_succ] at z2_0 z2_1 z2_2
      have hT3 : Hid (Row w' (w.heap.size + 1 + 1 + 1 + 1 + 1 + 1 + 1 + 1 + 1 + 1) 25 [.int .i64 2, .slice (some ⟨w.heap.size + 1 + 1 + 1 + 1 + 1 + 1 + 1 + 1, 0, none⟩) 3 3, .slice (some ⟨w.heap.size + 1 + 1 + 1 + 1 + 1 + 1 + 1 + 1 + 1, 0, none⟩) 1 1]) := s3
      have z3_0 := hT3.out.cell 0
      have z3_1 := hT3.out.cell 1
      have z3_2 := hT3.out.cell 2
      have z3_l := hT3.out.lt
      simp only [List.getElem?_cons_zero, List.getElem?_cons_succ] at z3_0 z3_1 z3_2
      have hT4 : Hid (Row w' (w.heap.size + 1 + 1 + 1 + 1 + 1 + 1 + 1 + 1 + 1 + 1 + 1 + 1 + 1) 25 [.int .i64 2, .slice (some ⟨w.heap.size + 1 + 1 + 1 + 1 + 1 + 1 + 1 + 1 + 1 + 1 + 1, 0, none⟩) 1 1, .slice (some ⟨w.heap.size + 1 + 1 + 1 + 1 + 1 + 1 + 1 + 1 + 1 + 1 + 1 + 1, 0, none⟩) 1 1]) := s4
      have z4_0 := hT4.out.cell 0
      have z4_1 := hT4.out.cell 1
      have z4_2 := hT4.out.cell 2
      have z4_l := hT4.out.lt
      simp only [List.getElem?_cons_zero, List.getElem?_cons_succ] at z4_0 z4_1 z4_2
      clear s0 s1 s2 s3 s4
      go_simp
      try (with_reducible rfl)
    go_simp
    refine restL_take (i := 20) (v := ?va24) [] rfl (by kernel_rfl) (by kernel_rfl) (by kernel_rfl) (by kernel_rfl) (fun _ _ _ h => h) (Or.inl ⟨by first | rfl | (go_simp; done), ?ya24⟩) hHeld ?ra24
    case ya24 =>
      intro w' hSw
      obtain ⟨s0, s1, s2, s3, s4⟩ := hSw
      have hT0 : Hid (Row w' (w.heap.size + 1 + 1) 25 [.int .i64 1, .slice (some ⟨w.heap.size, 0, none⟩) 2 2, .slice (some ⟨w.heap.size + 1, 0, none⟩) 1 1]) := s0
      have z0_0 := hT0.out.cell 0
      have z0_1 := hT0.out.cell 1
      have z0_2 := hT0.out.cell 2
      have z0_l := hT0.out.lt
      simp only [List.getElem?_cons_zero, List.getElem?_cons_succ] at z0_0 z0_1 z0_2
      have hT1 : Hid (Row w' (w.heap.size + 1 + 1 + 1 + 1 + 1) 25 [.int .i64 2, .slice (some ⟨w.heap.size + 1 + 1 + 1, 0, none⟩) 3 3, .slice (some ⟨w.heap.size + 1 + 1 + 1 + 1, 0, none⟩) 1 1]) := s1
      have z1_0 := hT1.out.cell 0
      have z1_1 := hT1.out.cell 1
      have z1_2 := hT1.out.cell 2
      have z1_l := hT1.out.lt
      simp only [List.getElem?_cons_zero, List.getElem?_cons_succ] at z1_0 z1_1 z1_2
      have hT2 : Hid (Row w' (w.heap.size + 1 + 1 + 1 + 1 + 1 + 1 + 1) 25 [.int .i64 1, .slice (some ⟨w.heap.size, 0, none⟩) 2 2, .slice (some ⟨w.heap.size + 1 + 1 + 1 + 1 + 1 + 1, 0, none⟩) 1 1]) := s2
      have z2_0 := hT2.out.cell 0
      have z2_1 := hT2.out.cell 1
      have z2_2 := hT2.out.cell 2
      have z2_l := hT2.out.lt
      simp only [List.getElem?_cons_zero, List.getElem?_cons_succ] at z2_0 z2_1 z2_2
      have hT3 : Hid (Row w' (w.heap.size + 1 + 1 + 1 + 1 + 1 + 1 + 1 + 1 + 1 + 1) 25 [.int .i64 2, .slice (some ⟨w.heap.size + 1 + 1 + 1 + 1 + 1 + 1 + 1 + 1, 0, none⟩) 3 3, .slice (some ⟨w.heap.size + 1 + 1 + 1 + 1 + 1 + 1 + 1 + 1 + 1, 0, none⟩) 1 1]) := s3
      have z3_0 := hT3.out.cell 0
      have z3_1 := hT3.out.cell 1
      have z3_2 := hT3.out.cell 2
      have z3_l := hT3.out.lt
      simp only [List.getElem?_cons_zero, List.getElem?_cons_succ] at z3_0 z3_1 z3_2
      have hT4 : Hid (Row w' (w.heap.size + 1 + 1 + 1 + 1 + 1 + 1 + 1 + 1 + 1 + 1 + 1 + 1 + 1) 25 [.int .i64 2, .slice (some ⟨w.heap.size + 1 + 1 + 1 + 1 + 1 + 1 + 1 + 1 + 1 + 1 + 1, 0, none⟩) 1 1, .slice (some ⟨w.heap.size + 1 + 1 + 1 + 1 + 1 + 1 + 1 + 1 + 1 + 1 + 1 + 1, 0, none⟩) 1 1]) := s4
      have z4_0 := hT4.out.cell 0
      have z4_1 := hT4.out.cell 1
      have z4_2 := hT4.out.cell 2
      have z4_l := hT4.out.lt
      simp only [List.getElem?_cons_zero, List.getElem?_cons_succ] at z4_0 z4_1 z4_2
      clear s0 s1 s2 s3 s4
      go_simp
      try (with_reducible rfl)
    go_simp
    refine restL_one (i := 19) (by kernel_rfl) rfl (fun K hK => ?_)
    go_simp
    go_at_call 18
    have HC := all_any exB (some ⟨w.heap.size + 1 + 1 + 1, 0, none⟩) (some ⟨w.heap.size + 1 + 1 + 1 + 1, 0, none⟩) 3 3 1 1 y7 (HB.out.up B_wa.out)
    rw [ex4] at HC
    refine HC.mono ?_
    clear HC
    rintro e y8 ⟨L1A, L1B, L1n, L1c, L1m, L1d, he, hca, -, -, hb⟩
    have he2 : e = .returned (.agg #[.int .i64 2, .slice L1A L1n L1c, .slice L1B L1m L1d]) := he
    subst he2
    have HL1 : Hid (CAt y8 exL L1A L1B L1n L1m) := hca
    clear he hca hHeld
    have B_w : Hid (Below w.heap.size w y8) := below_on2 B_w.out hb
    have B_wa : Hid (Below wa.heap.size wa y8) := below_on2 B_wa.out hb
    have B_wq : Hid (Below wq.heap.size wq y8) := below_on2 B_wq.out hb
    have B_y1 : Hid (Below y1.heap.size y1 y8) := below_on2 B_y1.out hb
    have B_y2 : Hid (Below y2.heap.size y2 y8) := below_on2 B_y2.out hb
    have B_y3 : Hid (Below y3.heap.size y3 y8) := below_on2 B_y3.out hb
    have B_y4 : Hid (Below y4.heap.size y4 y8) := below_on2 B_y4.out hb
    have B_y5 : Hid (Below y5.heap.size y5 y8) := below_on2 B_y5.out hb
    have B_y6 : Hid (Below y6.heap.size y6 y8) := below_on2 B_y6.out hb
    have B_y7 : Hid (Below y7.heap.size y7 y8) := hb
    clear hb
    refine hK.out _ _ (fun _ => ?keep) (fun hHeld => ?_)
    case keep => exact ⟨(rowCells CA.out B_wa.out), (rowCells CB.out B_wa.out), (rowCells CF.out B_wa.out), (rowCells CS.out B_wa.out), (rowCells CL.out B_wa.out)⟩
    have hHeld := hHeld rfl
    clear hK K
    try go_simp
    refine restL_one (i := 21) (by kernel_rfl) rfl (fun K hK => ?_)
    go_simp
    go_at_call 11
    have HC := rSameZ_at exL exL L1A L1B (some ⟨w.heap.size + 1 + 1 + 1 + 1 + 1 + 1 + 1 + 1 + 1 + 1 + 1, 0, none⟩) (some ⟨w.heap.size + 1 + 1 + 1 + 1 + 1 + 1 + 1 + 1 + 1 + 1 + 1 + 1, 0, none⟩) L1n L1c L1m L1d 1 1 1 1 y8 HL1.out (HL.out.up B_wa.out)
    rw [(sameC_iff _ _).2 rfl] at HC
    refine HC.mono ?_
    clear HC
    rintro e y9 ⟨rfl, hb⟩
    clear hHeld
    have B_w : Hid (Below w.heap.size w y9) := below_on2 B_w.out hb
    have B_wa : Hid (Below wa.heap.size wa y9) := below_on2 B_wa.out hb
    have B_wq : Hid (Below wq.heap.size wq y9) := below_on2 B_wq.out hb
    have B_y1 : Hid (Below y1.heap.size y1 y9) := below_on2 B_y1.out hb
    have B_y2 : Hid (Below y2.heap.size y2 y9) := below_on2 B_y2.out hb
    have B_y3 : Hid (Below y3.heap.size y3 y9) := below_on2 B_y3.out hb
    have B_y4 : Hid (Below y4.heap.size y4 y9) := below_on2 B_y4.out hb
    have B_y5 : Hid (Below y5.heap.size y5 y9) := below_on2 B_y5.out hb
    have B_y6 : Hid (Below y6.heap.size y6 y9) := below_on2 B_y6.out hb
    have B_y7 : Hid (Below y7.heap.size y7 y9) := below_on2 B_y7.out hb
    have B_y8 : Hid (Below y8.heap.size y8 y9) := hb
    clear hb
    refine hK.out _ _ (fun _ => ?keep) (fun hHeld => ?_)
    case keep => exact ⟨(rowCells CA.out B_wa.out), (rowCells CB.out B_wa.out), (rowCells CF.out B_wa.out), (rowCells CS.out B_wa.out), (rowCells CL.out B_wa.out)⟩
    have hHeld := hHeld rfl
    clear hK K
    try go_simp
    refine restL_pure (i := 22) (v := ?va25) rfl (by kernel_rfl) (by kernel_rfl) (by kernel_rfl) (fun _ _ _ h => h) (Or.inl ⟨by rfl, ?ya25⟩) ?ra25
    case ya25 => intro w' hSw; clear hSw; go_simp; try (with_reducible rfl)
    go_simp
    refine restL_pure (i := 23) (v := ?va26) rfl (by kernel_rfl) (by kernel_rfl) (by kernel_rfl) (fun _ _ _ h => h) (Or.inl ⟨by rfl, ?ya26⟩) ?ra26
    case ya26 => intro w' hSw; clear hSw; go_simp; try (with_reducible rfl)
    go_simp
    refine restL_done (by kernel_rfl) ?_ _
    go_wp2_with fail
    go_ret
    exact ⟨rfl, B_w.out⟩
end Go.Proofs.Ytamijjpnklbgnaa

