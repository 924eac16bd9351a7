/-
  The reference's Clauses, walked.
-/
import Derived.Test.YtofflkfkakddkaaEAdd
namespace Go.Proofs.Ytofflkfkakddkaa
open Go.RowKit
set_option linter.unusedSimpArgs false
set_option linter.unusedVariables false
/-- A block of integers of its own, laid from block lo on. -/
def InNew (w : World) (lo : Nat) (s : Sl) (l : List Int) : Prop := (∃ g, lo ≤ g ∧ s.at_ = some ⟨g, 0, none⟩ ∧ s.len = l.length ∧ Row w g 3 (ints l)) ∧ s.len ≤ maxLen
/-- What a call returns that returns new lists of integers. -/
def RowsPost (cls : List (List Int)) (w : World) (e : Ending) (w' : World) : Prop :=
  ∃ (g m : Nat) (sl : List Sl), e = .returned (.slice (some ⟨g, 0, none⟩) m m) ∧ cls.length = m ∧ sl.length = m ∧ Row w' g 23 (slCells sl) ∧ (∀ i, i < cls.length → InNew w' w.heap.size (sl.getD i default) (cls.getD i [])) ∧ w.heap.size ≤ g ∧ Below w.heap.size w w'
set_option maxRecDepth 100000 in
set_option maxHeartbeats 2000000 in
theorem rClauses_any (op g a b : Int) (w : World) (hop : op = 0 ∨ op = 1 ∨ op = 2 ∨ op = 3 ∨ op = 4 ∨ op = 5)
    (g1 : -1000000 ≤ g) (g2 : g ≤ 1000000) (a1 : -1000000 ≤ a) (a2 : a ≤ 1000000) (b1 : -1000000 ≤ b) (b2 : b ≤ 1000000) :
    Calls Try.prog 43 #[.int .i64 op, .int .i64 g, .int .i64 a, .int .i64 b] w (RowsPost (clausesF op g a b) w) := by
  rcases hop with rfl | rfl | rfl | rfl | rfl | rfl
  all_goals go_enter Try.func43, Try.ntmps43
  · go_wp2
    have R0 : Hid (Row (World.alloc (World.alloc w (.cells #[.int .i64 (-g)] 3)) (.cells #[.slice (some ⟨w.heap.size, 0, none⟩) 1 1] 23)) (w.heap.size) 3 [.int .i64 (-g)]) := by
      have h0 := Row.new w 3 [.int .i64 (-g)]
      try simp only [World.size_alloc] at h0
      exact (h0.alloc _)
    have RO : Hid (Row (World.alloc (World.alloc w (.cells #[.int .i64 (-g)] 3)) (.cells #[.slice (some ⟨w.heap.size, 0, none⟩) 1 1] 23)) (w.heap.size + 1) 23 [.slice (some ⟨w.heap.size, 0, none⟩) 1 1]) := by
      have h0 := Row.new (World.alloc w (.cells #[.int .i64 (-g)] 3)) 23 [.slice (some ⟨w.heap.size, 0, none⟩) 1 1]
      try simp only [World.size_alloc] at h0
      exact h0
    have hgr9 : Below w.heap.size w (World.alloc (World.alloc w (.cells #[.int .i64 (-g)] 3)) (.cells #[.slice (some ⟨w.heap.size, 0, none⟩) 1 1] 23)) := by go_grown
    have B_w : Hid (Below w.heap.size w (World.alloc (World.alloc w (.cells #[.int .i64 (-g)] 3)) (.cells #[.slice (some ⟨w.heap.size, 0, none⟩) 1 1] 23))) := hgr9
    clear hgr9
    revert R0 RO B_w
    generalize (World.alloc (World.alloc w (.cells #[.int .i64 (-g)] 3)) (.cells #[.slice (some ⟨w.heap.size, 0, none⟩) 1 1] 23)) = wa
    intro R0 RO B_w
    go_ret
    refine ⟨w.heap.size + 1, 1, [⟨some ⟨w.heap.size, 0, none⟩, 1, 1⟩], rfl, rfl, rfl, RO.out, ?_, (by omega), B_w.out⟩
    intro i hi
    have hc : i = 0 := by simp [clausesF] at hi; omega
    rcases hc with rfl
    exact ⟨⟨_, (by omega), rfl, rfl, R0.out⟩, by show 1 ≤ maxLen; unfold maxLen; omega⟩
  · go_wp2
    have R0 : Hid (Row (World.alloc (World.alloc w (.cells #[.int .i64 g] 3)) (.cells #[.slice (some ⟨w.heap.size, 0, none⟩) 1 1] 23)) (w.heap.size) 3 [.int .i64 g]) := by
      have h0 := Row.new w 3 [.int .i64 g]
      try simp only [World.size_alloc] at h0
      exact (h0.alloc _)
    have RO : Hid (Row (World.alloc (World.alloc w (.cells #[.int .i64 g] 3)) (.cells #[.slice (some ⟨w.heap.size, 0, none⟩) 1 1] 23)) (w.heap.size + 1) 23 [.slice (some ⟨w.heap.size, 0, none⟩) 1 1]) := by
      have h0 := Row.new (World.alloc w (.cells #[.int .i64 g] 3)) 23 [.slice (some ⟨w.heap.size, 0, none⟩) 1 1]
      try simp only [World.size_alloc] at h0
      exact h0
    have hgr9 : Below w.heap.size w (World.alloc (World.alloc w (.cells #[.int .i64 g] 3)) (.cells #[.slice (some ⟨w.heap.size, 0, none⟩) 1 1] 23)) := by go_grown
    have B_w : Hid (Below w.heap.size w (World.alloc (World.alloc w (.cells #[.int .i64 g] 3)) (.cells #[.slice (some ⟨w.heap.size, 0, none⟩) 1 1] 23))) := hgr9
    clear hgr9
    revert R0 RO B_w
    generalize (World.alloc (World.alloc w (.cells #[.int .i64 g] 3)) (.cells #[.slice (some ⟨w.heap.size, 0, none⟩) 1 1] 23)) = wa
    intro R0 RO B_w
    go_ret
    refine ⟨w.heap.size + 1, 1, [⟨some ⟨w.heap.size, 0, none⟩, 1, 1⟩], rfl, rfl, rfl, RO.out, ?_, (by omega), B_w.out⟩
    intro i hi
    have hc : i = 0 := by simp [clausesF] at hi; omega
    rcases hc with rfl
    exact ⟨⟨_, (by omega), rfl, rfl, R0.out⟩, by show 1 ≤ maxLen; unfold maxLen; omega⟩
  · go_wp2
    have R0 : Hid (Row (World.alloc (World.alloc (World.alloc w (.cells #[.int .i64 g, .int .i64 a] 3)) (.cells #[.int .i64 (-g), .int .i64 (-a)] 3)) (.cells #[.slice (some ⟨w.heap.size, 0, none⟩) 2 2, .slice (some ⟨w.heap.size + 1, 0, none⟩) 2 2] 23)) (w.heap.size) 3 [.int .i64 g, .int .i64 a]) := by
      have h0 := Row.new w 3 [.int .i64 g, .int .i64 a]
      try simp only [World.size_alloc] at h0
      exact ((h0.alloc _).alloc _)
    have R1 : Hid (Row (World.alloc (World.alloc (World.alloc w (.cells #[.int .i64 g, .int .i64 a] 3)) (.cells #[.int .i64 (-g), .int .i64 (-a)] 3)) (.cells #[.slice (some ⟨w.heap.size, 0, none⟩) 2 2, .slice (some ⟨w.heap.size + 1, 0, none⟩) 2 2] 23)) (w.heap.size + 1) 3 [.int .i64 (-g), .int .i64 (-a)]) := by
      have h0 := Row.new (World.alloc w (.cells #[.int .i64 g, .int .i64 a] 3)) 3 [.int .i64 (-g), .int .i64 (-a)]
      try simp only [World.size_alloc] at h0
      exact (h0.alloc _)
    have RO : Hid (Row (World.alloc (World.alloc (World.alloc w (.cells #[.int .i64 g, .int .i64 a] 3)) (.cells #[.int .i64 (-g), .int .i64 (-a)] 3)) (.cells #[.slice (some ⟨w.heap.size, 0, none⟩) 2 2, .slice (some ⟨w.heap.size + 1, 0, none⟩) 2 2] 23)) (w.heap.size + 1 + 1) 23 [.slice (some ⟨w.heap.size, 0, none⟩) 2 2, .slice (some ⟨w.heap.size + 1, 0, none⟩) 2 2]) := by
      have h0 := Row.new (World.alloc (World.alloc w (.cells #[.int .i64 g, .int .i64 a] 3)) (.cells #[.int .i64 (-g), .int .i64 (-a)] 3)) 23 [.slice (some ⟨w.heap.size, 0, none⟩) 2 2, .slice (some ⟨w.heap.size + 1, 0, none⟩) 2 2]
      try simp only [World.size_alloc] at h0
      exact h0
    have hgr9 : Below w.heap.size w (World.alloc (World.alloc (World.alloc w (.cells #[.int .i64 g, .int .i64 a] 3)) (.cells #[.int .i64 (-g), .int .i64 (-a)] 3)) (.cells #[.slice (some ⟨w.heap.size, 0, none⟩) 2 2, .slice (some ⟨w.heap.size + 1, 0, none⟩) 2 2] 23)) := by go_grown
    have B_w : Hid (Below w.heap.size w (World.alloc (World.alloc (World.alloc w (.cells #[.int .i64 g, .int .i64 a] 3)) (.cells #[.int .i64 (-g), .int .i64 (-a)] 3)) (.cells #[.slice (some ⟨w.heap.size, 0, none⟩) 2 2, .slice (some ⟨w.heap.size + 1, 0, none⟩) 2 2] 23))) := hgr9
    clear hgr9
    revert R0 R1 RO B_w
    generalize (World.alloc (World.alloc (World.alloc w (.cells #[.int .i64 g, .int .i64 a] 3)) (.cells #[.int .i64 (-g), .int .i64 (-a)] 3)) (.cells #[.slice (some ⟨w.heap.size, 0, none⟩) 2 2, .slice (some ⟨w.heap.size + 1, 0, none⟩) 2 2] 23)) = wa
    intro R0 R1 RO B_w
    go_ret
    refine ⟨w.heap.size + 1 + 1, 2, [⟨some ⟨w.heap.size, 0, none⟩, 2, 2⟩, ⟨some ⟨w.heap.size + 1, 0, none⟩, 2, 2⟩], rfl, rfl, rfl, RO.out, ?_, (by omega), B_w.out⟩
    intro i hi
    have hc : i = 0 ∨ i = 1 := by simp [clausesF] at hi; omega
    rcases hc with rfl | rfl
    · exact ⟨⟨_, (by omega), rfl, rfl, R0.out⟩, by show 2 ≤ maxLen; unfold maxLen; omega⟩
    · exact ⟨⟨_, (by omega), rfl, rfl, R1.out⟩, by show 2 ≤ maxLen; unfold maxLen; omega⟩
  · go_wp2
    have R0 : Hid (Row (World.alloc (World.alloc (World.alloc (World.alloc w (.cells #[.int .i64 (-g), .int .i64 a] 3)) (.cells #[.int .i64 (-g), .int .i64 b] 3)) (.cells #[.int .i64 g, .int .i64 (-a), .int .i64 (-b)] 3)) (.cells #[.slice (some ⟨w.heap.size, 0, none⟩) 2 2, .slice (some ⟨w.heap.size + 1, 0, none⟩) 2 2, .slice (some ⟨w.heap.size + 1 + 1, 0, none⟩) 3 3] 23)) (w.heap.size) 3 [.int .i64 (-g), .int .i64 a]) := by
      have h0 := Row.new w 3 [.int .i64 (-g), .int .i64 a]
      try simp only [World.size_alloc] at h0
      exact (((h0.alloc _).alloc _).alloc _)
    have R1 : Hid (Row (World.alloc (World.alloc (World.alloc (World.alloc w (.cells #[.int .i64 (-g), .int .i64 a] 3)) (.cells #[.int .i64 (-g), .int .i64 b] 3)) (.cells #[.int .i64 g, .int .i64 (-a), .int .i64 (-b)] 3)) (.cells #[.slice (some ⟨w.heap.size, 0, none⟩) 2 2, .slice (some ⟨w.heap.size + 1, 0, none⟩) 2 2, .slice (some ⟨w.heap.size + 1 + 1, 0, none⟩) 3 3] 23)) (w.heap.size + 1) 3 [.int .i64 (-g), .int .i64 b]) := by
      have h0 := Row.new (World.alloc w (.cells #[.int .i64 (-g), .int .i64 a] 3)) 3 [.int .i64 (-g), .int .i64 b]
      try simp only [World.size_alloc] at h0
      exact ((h0.alloc _).alloc _)
    have R2 : Hid (Row (World.alloc (World.alloc (World.alloc (World.alloc w (.cells #[.int .i64 (-g), .int .i64 a] 3)) (.cells #[.int .i64 (-g), .int .i64 b] 3)) (.cells #[.int .i64 g, .int .i64 (-a), .int .i64 (-b)] 3)) (.cells #[.slice (some ⟨w.heap.size, 0, none⟩) 2 2, .slice (some ⟨w.heap.size + 1, 0, none⟩) 2 2, .slice (some ⟨w.heap.size + 1 + 1, 0, none⟩) 3 3] 23)) (w.heap.size + 1 + 1) 3 [.int .i64 g, .int .i64 (-a), .int .i64 (-b)]) := by
      have h0 := Row.new (World.alloc (World.alloc w (.cells #[.int .i64 (-g), .int .i64 a] 3)) (.cells #[.int .i64 (-g), .int .i64 b] 3)) 3 [.int .i64 g, .int .i64 (-a), .int .i64 (-b)]
      try simp only [World.size_alloc] at h0
      exact (h0.alloc _)
    have RO : Hid (Row (World.alloc (World.alloc (World.alloc (World.alloc w (.cells #[.int .i64 (-g), .int .i64 a] 3)) (.cells #[.int .i64 (-g), .int .i64 b] 3)) (.cells #[.int .i64 g, .int .i64 (-a), .int .i64 (-b)] 3)) (.cells #[.slice (some ⟨w.heap.size, 0, none⟩) 2 2, .slice (some ⟨w.heap.size + 1, 0, none⟩) 2 2, .slice (some ⟨w.heap.size + 1 + 1, 0, none⟩) 3 3] 23)) (w.heap.size + 1 + 1 + 1) 23 [.slice (some ⟨w.heap.size, 0, none⟩) 2 2, .slice (some ⟨w.heap.size + 1, 0, none⟩) 2 2, .slice (some ⟨w.heap.size + 1 + 1, 0, none⟩) 3 3]) := by
      have h0 := Row.new (World.alloc (World.alloc (World.alloc w (.cells #[.int .i64 (-g), .int .i64 a] 3)) (.cells #[.int .i64 (-g), .int .i64 b] 3)) (.cells #[.int .i64 g, .int .i64 (-a), .int .i64 (-b)] 3)) 23 [.slice (some ⟨w.heap.size, 0, none⟩) 2 2, .slice (some ⟨w.heap.size + 1, 0, none⟩) 2 2, .slice (some ⟨w.heap.size + 1 + 1, 0, none⟩) 3 3]
      try simp only [World.size_alloc] at h0
      exact h0
    have hgr9 : Below w.heap.size w (World.alloc (World.alloc (World.alloc (World.alloc w (.cells #[.int .i64 (-g), .int .i64 a] 3)) (.cells #[.int .i64 (-g), .int .i64 b] 3)) (.cells #[.int .i64 g, .int .i64 (-a), .int .i64 (-b)] 3)) (.cells #[.slice (some ⟨w.heap.size, 0, none⟩) 2 2, .slice (some ⟨w.heap.size + 1, 0, none⟩) 2 2, .slice (some ⟨w.heap.size + 1 + 1, 0, none⟩) 3 3] 23)) := by go_grown
    have B_w : Hid (Below w.heap.size w (World.alloc (World.alloc (World.alloc (World.alloc w (.cells #[.int .i64 (-g), .int .i64 a] 3)) (.cells #[.int .i64 (-g), .int .i64 b] 3)) (.cells #[.int .i64 g, .int .i64 (-a), .int .i64 (-b)] 3)) (.cells #[.slice (some ⟨w.heap.size, 0, none⟩) 2 2, .slice (some ⟨w.heap.size + 1, 0, none⟩) 2 2, .slice (some ⟨w.heap.size + 1 + 1, 0, none⟩) 3 3] 23))) := hgr9
    clear hgr9
    revert R0 R1 R2 RO B_w
    generalize (World.alloc (World.alloc (World.alloc (World.alloc w (.cells #[.int .i64 (-g), .int .i64 a] 3)) (.cells #[.int .i64 (-g), .int .i64 b] 3)) (.cells #[.int .i64 g, .int .i64 (-a), .int .i64 (-b)] 3)) (.cells #[.slice (some ⟨w.heap.size, 0, none⟩) 2 2, .slice (some ⟨w.heap.size + 1, 0, none⟩) 2 2, .slice (some ⟨w.heap.size + 1 + 1, 0, none⟩) 3 3] 23)) = wa
    intro R0 R1 R2 RO B_w
    go_ret
    refine ⟨w.heap.size + 1 + 1 + 1, 3, [⟨some ⟨w.heap.size, 0, none⟩, 2, 2⟩, ⟨some ⟨w.heap.size + 1, 0, none⟩, 2, 2⟩, ⟨some ⟨w.heap.size + 1 + 1, 0, none⟩, 3, 3⟩], rfl, rfl, rfl, RO.out, ?_, (by omega), B_w.out⟩
    intro i hi
    have hc : i = 0 ∨ i = 1 ∨ i = 2 := by simp [clausesF] at hi; omega
    rcases hc with rfl | rfl | rfl
    · exact ⟨⟨_, (by omega), rfl, rfl, R0.out⟩, by show 2 ≤ maxLen; unfold maxLen; omega⟩
    · exact ⟨⟨_, (by omega), rfl, rfl, R1.out⟩, by show 2 ≤ maxLen; unfold maxLen; omega⟩
    · exact ⟨⟨_, (by omega), rfl, rfl, R2.out⟩, by show 3 ≤ maxLen; unfold maxLen; omega⟩
  · go_wp2
    have R0 : Hid (Row (World.alloc (World.alloc (World.alloc (World.alloc w (.cells #[.int .i64 g, .int .i64 (-a)] 3)) (.cells #[.int .i64 g, .int .i64 (-b)] 3)) (.cells #[.int .i64 (-g), .int .i64 a, .int .i64 b] 3)) (.cells #[.slice (some ⟨w.heap.size, 0, none⟩) 2 2, .slice (some ⟨w.heap.size + 1, 0, none⟩) 2 2, .slice (some ⟨w.heap.size + 1 + 1, 0, none⟩) 3 3] 23)) (w.heap.size) 3 [.int .i64 g, .int .i64 (-a)]) := by
      have h0 := Row.new w 3 [.int .i64 g, .int .i64 (-a)]
      try simp only [World.size_alloc] at h0
      exact (((h0.alloc _).alloc _).alloc _)
    have R1 : Hid (Row (World.alloc (World.alloc (World.alloc (World.alloc w (.cells #[.int .i64 g, .int .i64 (-a)] 3)) (.cells #[.int .i64 g, .int .i64 (-b)] 3)) (.cells #[.int .i64 (-g), .int .i64 a, .int .i64 b] 3)) (.cells #[.slice (some ⟨w.heap.size, 0, none⟩) 2 2, .slice (some ⟨w.heap.size + 1, 0, none⟩) 2 2, .slice (some ⟨w.heap.size + 1 + 1, 0, none⟩) 3 3] 23)) (w.heap.size + 1) 3 [.int .i64 g, .int .i64 (-b)]) := by
      have h0 := Row.new (World.alloc w (.cells #[.int .i64 g, .int .i64 (-a)] 3)) 3 [.int .i64 g, .int .i64 (-b)]
      try simp only [World.size_alloc] at h0
      exact ((h0.alloc _).alloc _)
    have R2 : Hid (Row (World.alloc (World.alloc (World.alloc (World.alloc w (.cells #[.int .i64 g, .int .i64 (-a)] 3)) (.cells #[.int .i64 g, .int .i64 (-b)] 3)) (.cells #[.int .i64 (-g), .int .i64 a, .int .i64 b] 3)) (.cells #[.slice (some ⟨w.heap.size, 0, none⟩) 2 2, .slice (some ⟨w.heap.size + 1, 0, none⟩) 2 2, .slice (some ⟨w.heap.size + 1 + 1, 0, none⟩) 3 3] 23)) (w.heap.size + 1 + 1) 3 [.int .i64 (-g), .int .i64 a, .int .i64 b]) := by
      have h0 := Row.new (World.alloc (World.alloc w (.cells #[.int .i64 g, .int .i64 (-a)] 3)) (.cells #[.int .i64 g, .int .i64 (-b)] 3)) 3 [.int .i64 (-g), .int .i64 a, .int .i64 b]
      try simp only [World.size_alloc] at h0
      exact (h0.alloc _)
    have RO : Hid (Row (World.alloc (World.alloc (World.alloc (World.alloc w (.cells #[.int .i64 g, .int .i64 (-a)] 3)) (.cells #[.int .i64 g, .int .i64 (-b)] 3)) (.cells #[.int .i64 (-g), .int .i64 a, .int .i64 b] 3)) (.cells #[.slice (some ⟨w.heap.size, 0, none⟩) 2 2, .slice (some ⟨w.heap.size + 1, 0, none⟩) 2 2, .slice (some ⟨w.heap.size + 1 + 1, 0, none⟩) 3 3] 23)) (w.heap.size + 1 + 1 + 1) 23 [.slice (some ⟨w.heap.size, 0, none⟩) 2 2, .slice (some ⟨w.heap.size + 1, 0, none⟩) 2 2, .slice (some ⟨w.heap.size + 1 + 1, 0, none⟩) 3 3]) := by
      have h0 := Row.new (World.alloc (World.alloc (World.alloc w (.cells #[.int .i64 g, .int .i64 (-a)] 3)) (.cells #[.int .i64 g, .int .i64 (-b)] 3)) (.cells #[.int .i64 (-g), .int .i64 a, .int .i64 b] 3)) 23 [.slice (some ⟨w.heap.size, 0, none⟩) 2 2, .slice (some ⟨w.heap.size + 1, 0, none⟩) 2 2, .slice (some ⟨w.heap.size + 1 + 1, 0, none⟩) 3 3]
      try simp only [World.size_alloc] at h0
      exact h0
    have hgr9 : Below w.heap.size w (World.alloc (World.alloc (World.alloc (World.alloc w (.cells #[.int .i64 g, .int .i64 (-a)] 3)) (.cells #[.int .i64 g, .int .i64 (-b)] 3)) (.cells #[.int .i64 (-g), .int .i64 a, .int .i64 b] 3)) (.cells #[.slice (some ⟨w.heap.size, 0, none⟩) 2 2, .slice (some ⟨w.heap.size + 1, 0, none⟩) 2 2, .slice (some ⟨w.heap.size + 1 + 1, 0, none⟩) 3 3] 23)) := by go_grown
    have B_w : Hid (Below w.heap.size w (World.alloc (World.alloc (World.alloc (World.alloc w (.cells #[.int .i64 g, .int .i64 (-a)] 3)) (.cells #[.int .i64 g, .int .i64 (-b)] 3)) (.cells #[.int .i64 (-g), .int .i64 a, .int .i64 b] 3)) (.cells #[.slice (some ⟨w.heap.size, 0, none⟩) 2 2, .slice (some ⟨w.heap.size + 1, 0, none⟩) 2 2, .slice (some ⟨w.heap.size + 1 + 1, 0, none⟩) 3 3] 23))) := hgr9
    clear hgr9
    revert R0 R1 R2 RO B_w
    generalize (World.alloc (World.alloc (World.alloc (World.alloc w (.cells #[.int .i64 g, .int .i64 (-a)] 3)) (.cells #[.int .i64 g, .int .i64 (-b)] 3)) (.cells #[.int .i64 (-g), .int .i64 a, .int .i64 b] 3)) (.cells #[.slice (some ⟨w.heap.size, 0, none⟩) 2 2, .slice (some ⟨w.heap.size + 1, 0, none⟩) 2 2, .slice (some ⟨w.heap.size + 1 + 1, 0, none⟩) 3 3] 23)) = wa
    intro R0 R1 R2 RO B_w
    go_ret
    refine ⟨w.heap.size + 1 + 1 + 1, 3, [⟨some ⟨w.heap.size, 0, none⟩, 2, 2⟩, ⟨some ⟨w.heap.size + 1, 0, none⟩, 2, 2⟩, ⟨some ⟨w.heap.size + 1 + 1, 0, none⟩, 3, 3⟩], rfl, rfl, rfl, RO.out, ?_, (by omega), B_w.out⟩
    intro i hi
    have hc : i = 0 ∨ i = 1 ∨ i = 2 := by simp [clausesF] at hi; omega
    rcases hc with rfl | rfl | rfl
    · exact ⟨⟨_, (by omega), rfl, rfl, R0.out⟩, by show 2 ≤ maxLen; unfold maxLen; omega⟩
    · exact ⟨⟨_, (by omega), rfl, rfl, R1.out⟩, by show 2 ≤ maxLen; unfold maxLen; omega⟩
    · exact ⟨⟨_, (by omega), rfl, rfl, R2.out⟩, by show 3 ≤ maxLen; unfold maxLen; omega⟩
  · go_wp2
    have R0 : Hid (Row (World.alloc (World.alloc (World.alloc (World.alloc (World.alloc w (.cells #[.int .i64 (-g), .int .i64 a, .int .i64 b] 3)) (.cells #[.int .i64 (-g), .int .i64 (-a), .int .i64 (-b)] 3)) (.cells #[.int .i64 g, .int .i64 (-a), .int .i64 b] 3)) (.cells #[.int .i64 g, .int .i64 a, .int .i64 (-b)] 3)) (.cells #[.slice (some ⟨w.heap.size, 0, none⟩) 3 3, .slice (some ⟨w.heap.size + 1, 0, none⟩) 3 3, .slice (some ⟨w.heap.size + 1 + 1, 0, none⟩) 3 3, .slice (some ⟨w.heap.size + 1 + 1 + 1, 0, none⟩) 3 3] 23)) (w.heap.size) 3 [.int .i64 (-g), .int .i64 a, .int .i64 b]) := by
      have h0 := Row.new w 3 [.int .i64 (-g), .int .i64 a, .int .i64 b]
      try simp only [World.size_alloc] at h0
      exact ((((h0.alloc _).alloc _).alloc _).alloc _)
    have R1 : Hid (Row (World.alloc (World.alloc (World.alloc (World.alloc (World.alloc w (.cells #[.int .i64 (-g), .int .i64 a, .int .i64 b] 3)) (.cells #[.int .i64 (-g), .int .i64 (-a), .int .i64 (-b)] 3)) (.cells #[.int .i64 g, .int .i64 (-a), .int .i64 b] 3)) (.cells #[.int .i64 g, .int .i64 a, .int .i64 (-b)] 3)) (.cells #[.slice (some ⟨w.heap.size, 0, none⟩) 3 3, .slice (some ⟨w.heap.size + 1, 0, none⟩) 3 3, .slice (some ⟨w.heap.size + 1 + 1, 0, none⟩) 3 3, .slice (some ⟨w.heap.size + 1 + 1 + 1, 0, none⟩) 3 3] 23)) (w.heap.size + 1) 3 [.int .i64 (-g), .int .i64 (-a), .int .i64 (-b)]) := by
      have h0 := Row.new (World.alloc w (.cells #[.int .i64 (-g), .int .i64 a, .int .i64 b] 3)) 3 [.int .i64 (-g), .int .i64 (-a), .int .i64 (-b)]
      try simp only [World.size_alloc] at h0
      exact (((h0.alloc _).alloc _).alloc _)
    have R2 : Hid (Row (World.alloc (World.alloc (World.alloc (World.alloc (World.alloc w (.cells #[.int .i64 (-g), .int .i64 a, .int .i64 b] 3)) (.cells #[.int .i64 (-g), .int .i64 (-a), .int .i64 (-b)] 3)) (.cells #[.int .i64 g, .int .i64 (-a), .int .i64 b] 3)) (.cells #[.int .i64 g, .int .i64 a, .int .i64 (-b)] 3)) (.cells #[.slice (some ⟨w.heap.size, 0, none⟩) 3 3, .slice (some ⟨w.heap.size + 1, 0, none⟩) 3 3, .slice (some ⟨w.heap.size + 1 + 1, 0, none⟩) 3 3, .slice (some ⟨w.heap.size + 1 + 1 + 1, 0, none⟩) 3 3] 23)) (w.heap.size + 1 + 1) 3 [.int .i64 g, .int .i64 (-a), .int .i64 b]) := by
      have h0 := Row.new (World.alloc (World.alloc w (.cells #[.int .i64 (-g), .int .i64 a, .int .i64 b] 3)) (.cells #[.int .i64 (-g), .int .i64 (-a), .int .i64 (-b)] 3)) 3 [.int .i64 g, .int .i64 (-a), .int .i64 b]
      try simp only [World.size_alloc] at h0
      exact ((h0.alloc _).alloc _)
    have R3 : Hid (Row (World.alloc (World.alloc (World.alloc (World.alloc (World.alloc w (.cells #[.int .i64 (-g), .int .i64 a, .int .i64 b] 3)) (.cells #[.int .i64 (-g), .int .i64 (-a), .int .i64 (-b)] 3)) (.cells #[.int .i64 g, .int .i64 (-a), .int .i64 b] 3)) (.cells #[.int .i64 g, .int .i64 a, .int .i64 (-b)] 3)) (.cells #[.slice (some ⟨w.heap.size, 0, none⟩) 3 3, .slice (some ⟨w.heap.size + 1, 0, none⟩) 3 3, .slice (some ⟨w.heap.size + 1 + 1, 0, none⟩) 3 3, .slice (some ⟨w.heap.size + 1 + 1 + 1, 0, none⟩) 3 3] 23)) (w.heap.size + 1 + 1 + 1) 3 [.int .i64 g, .int .i64 a, .int .i64 (-b)]) := by
      have h0 := Row.new (World.alloc (World.alloc (World.alloc w (.cells #[.int .i64 (-g), .int .i64 a, .int .i64 b] 3)) (.cells #[.int .i64 (-g), .int .i64 (-a), .int .i64 (-b)] 3)) (.cells #[.int .i64 g, .int .i64 (-a), .int .i64 b] 3)) 3 [.int .i64 g, .int .i64 a, .int .i64 (-b)]
      try simp only [World.size_alloc] at h0
      exact (h0.alloc _)
    have RO : Hid (Row (World.alloc (World.alloc (World.alloc (World.alloc (World.alloc w (.cells #[.int .i64 (-g), .int .i64 a, .int .i64 b] 3)) (.cells #[.int .i64 (-g), .int .i64 (-a), .int .i64 (-b)] 3)) (.cells #[.int .i64 g, .int .i64 (-a), .int .i64 b] 3)) (.cells #[.int .i64 g, .int .i64 a, .int .i64 (-b)] 3)) (.cells #[.slice (some ⟨w.heap.size, 0, none⟩) 3 3, .slice (some ⟨w.heap.size + 1, 0, none⟩) 3 3, .slice (some ⟨w.heap.size + 1 + 1, 0, none⟩) 3 3, .slice (some ⟨w.heap.size + 1 + 1 + 1, 0, none⟩) 3 3] 23)) (w.heap.size + 1 + 1 + 1 + 1) 23 [.slice (some ⟨w.heap.size, 0, none⟩) 3 3, .slice (some ⟨w.heap.size + 1, 0, none⟩) 3 3, .slice (some ⟨w.heap.size + 1 + 1, 0, none⟩) 3 3, .slice (some ⟨w.heap.size + 1 + 1 + 1, 0, none⟩) 3 3]) := by
      have h0 := Row.new (World.alloc (World.alloc (World.alloc (World.alloc w (.cells #[.int .i64 (-g), .int .i64 a, .int .i64 b] 3)) (.cells #[.int .i64 (-g), .int .i64 (-a), .int .i64 (-b)] 3)) (.cells #[.int .i64 g, .int .i64 (-a), .int .i64 b] 3)) (.cells #[.int .i64 g, .int .i64 a, .int .i64 (-b)] 3)) 23 [.slice (some ⟨w.heap.size, 0, none⟩) 3 3, .slice (some ⟨w.heap.size + 1, 0, none⟩) 3 3, .slice (some ⟨w.heap.size + 1 + 1, 0, none⟩) 3 3, .slice (some ⟨w.heap.size + 1 + 1 + 1, 0, none⟩) 3 3]
      try simp only [World.size_alloc] at h0
      exact h0
    have hgr9 : Below w.heap.size w (World.alloc (World.alloc (World.alloc (World.alloc (World.alloc w (.cells #[.int .i64 (-g), .int .i64 a, .int .i64 b] 3)) (.cells #[.int .i64 (-g), .int .i64 (-a), .int .i64 (-b)] 3)) (.cells #[.int .i64 g, .int .i64 (-a), .int .i64 b] 3)) (.cells #[.int .i64 g, .int .i64 a, .int .i64 (-b)] 3)) (.cells #[.slice (some ⟨w.heap.size, 0, none⟩) 3 3, .slice (some ⟨w.heap.size + 1, 0, none⟩) 3 3, .slice (some ⟨w.heap.size + 1 + 1, 0, none⟩) 3 3, .slice (some ⟨w.heap.size + 1 + 1 + 1, 0, none⟩) 3 3] 23)) := by go_grown
    have B_w : Hid (Below w.heap.size w (World.alloc (World.alloc (World.alloc (World.alloc (World.alloc w (.cells #[.int .i64 (-g), .int .i64 a, .int .i64 b] 3)) (.cells #[.int .i64 (-g), .int .i64 (-a), .int .i64 (-b)] 3)) (.cells #[.int .i64 g, .int .i64 (-a), .int .i64 b] 3)) (.cells #[.int .i64 g, .int .i64 a, .int .i64 (-b)] 3)) (.cells #[.slice (some ⟨w.heap.size, 0, none⟩) 3 3, .slice (some ⟨w.heap.size + 1, 0, none⟩) 3 3, .slice (some ⟨w.heap.size + 1 + 1, 0, none⟩) 3 3, .slice (some ⟨w.heap.size + 1 + 1 + 1, 0, none⟩) 3 3] 23))) := hgr9
    clear hgr9
    revert R0 R1 R2 R3 RO B_w
    generalize (World.alloc (World.alloc (World.alloc (World.alloc (World.alloc w (.cells #[.int .i64 (-g), .int .i64 a, .int .i64 b] 3)) (.cells #[.int .i64 (-g), .int .i64 (-a), .int .i64 (-b)] 3)) (.cells #[.int .i64 g, .int .i64 (-a), .int .i64 b] 3)) (.cells #[.int .i64 g, .int .i64 a, .int .i64 (-b)] 3)) (.cells #[.slice (some ⟨w.heap.size, 0, none⟩) 3 3, .slice (some ⟨w.heap.size + 1, 0, none⟩) 3 3, .slice (some ⟨w.heap.size + 1 + 1, 0, none⟩) 3 3, .slice (some ⟨w.heap.size + 1 + 1 + 1, 0, none⟩) 3 3] 23)) = wa
    intro R0 R1 R2 R3 RO B_w
    go_ret
    refine ⟨w.heap.size + 1 + 1 + 1 + 1, 4, [⟨some ⟨w.heap.size, 0, none⟩, 3, 3⟩, ⟨some ⟨w.heap.size + 1, 0, none⟩, 3, 3⟩, ⟨some ⟨w.heap.size + 1 + 1, 0, none⟩, 3, 3⟩, ⟨some ⟨w.heap.size + 1 + 1 + 1, 0, none⟩, 3, 3⟩], rfl, rfl, rfl, RO.out, ?_, (by omega), B_w.out⟩
    intro i hi
    have hc : i = 0 ∨ i = 1 ∨ i = 2 ∨ i = 3 := by simp [clausesF] at hi; omega
    rcases hc with rfl | rfl | rfl | rfl
    · exact ⟨⟨_, (by omega), rfl, rfl, R0.out⟩, by show 3 ≤ maxLen; unfold maxLen; omega⟩
    · exact ⟨⟨_, (by omega), rfl, rfl, R1.out⟩, by show 3 ≤ maxLen; unfold maxLen; omega⟩
    · exact ⟨⟨_, (by omega), rfl, rfl, R2.out⟩, by show 3 ≤ maxLen; unfold maxLen; omega⟩
    · exact ⟨⟨_, (by omega), rfl, rfl, R3.out⟩, by show 3 ≤ maxLen; unfold maxLen; omega⟩
end Go.Proofs.Ytofflkfkakddkaa
