/-
  The numbers of cells add up: plain lists.
-/
import Derived.Test.YtfknooffjhncgaaPCount
namespace Go.Proofs.Ytfknooffjhncgaa
open Go.RowKit
set_option linter.unusedSimpArgs false
set_option linter.unusedVariables false
theorem take_sum_succ (l : List Int) (k : Nat) (h : k < l.length) : (l.take (k + 1)).sum = (l.take k).sum + l.getD k 0 := by
  rw [List.take_add_one, List.getElem?_eq_getElem h, List.sum_append, List.getD_eq_getElem?_getD, List.getElem?_eq_getElem h]
  simp
theorem take_sum_bd (l : List Int) (h : ∀ j, 0 ≤ l.getD j 0) : ∀ k, 0 ≤ (l.take k).sum ∧ (l.take k).sum ≤ l.sum := by
  induction l with
  | nil => intro k; simp
  | cons a l ih =>
    have h0 : 0 ≤ a := by simpa using h 0
    have ht : ∀ j, 0 ≤ l.getD j 0 := fun j => by simpa using h (j + 1)
    intro k
    cases k with
    | zero => have := (ih ht l.length); simp at this ⊢; omega
    | succ k =>
      have := ih ht k
      simp only [List.take_succ_cons, List.sum_cons]
      omega
theorem bump_sum (l : List Int) : ∀ i, i < l.length → (bump l i).sum = l.sum + 1 := by
  unfold bump
  induction l with
  | nil => intro i h; simp at h
  | cons a l ih =>
    intro i h
    cases i with
    | zero => simp; omega
    | succ i =>
      have := ih i (by simpa using h)
      simp only [List.set_cons_succ, List.sum_cons, List.getD_cons_succ]
      omega
theorem zeros_sum (N : Nat) : (zeros N).sum = 0 := by
  unfold zeros
  induction N with
  | zero => rfl
  | succ n ih => rw [List.replicate_succ, List.sum_cons, ih]; rfl
theorem countTo_sum (N : Nat) (cs : List Int) (k : Nat) (hk : k ≤ cs.length) (h : ∀ j, j < k → (cs.getD j 0).toNat < N) : (countTo N cs k).sum = k := by
  induction k with
  | zero => rw [countTo_zero, zeros_sum]; rfl
  | succ k ih =>
    rw [countTo_snoc N cs k (by omega), bump_sum _ _ (by rw [countTo_length]; exact h k (by omega)), ih (by omega) (fun j hj => h j (by omega))]
    omega
theorem countF_nil {p : Pln} (h : rightPl p = false) : countF p = [] := by unfold countF; rw [h]; rfl
theorem countF_get (p : Pln) (j : Nat) : 0 ≤ (countF p).getD j 0 := by
  unfold countF
  split
  · exact (countTo_bd _ _ _ j (Nat.le_refl _)).1
  · simp
theorem countF_len {p : Pln} (h : rightPl p = true) : (countF p).length ≤ 8 := by
  obtain ⟨_, ⟨h1, h2⟩, _⟩ := rightPl_parts h
  unfold countF
  rw [if_pos h, countTo_length]
  have hc : p.words.length = 1 ∨ p.words.length = 2 ∨ p.words.length = 3 := by omega
  rcases hc with e | e | e <;> rw [e] <;> decide
theorem countF_sum {p : Pln} (h : rightPl p = true) : (countF p).sum = p.w * p.h := by
  obtain ⟨hs, _, _⟩ := rightPl_parts h
  obtain ⟨s1, s2, _⟩ := sizedF_parts hs
  unfold countF
  rw [if_pos h, countTo_sum _ _ _ (Nat.le_refl _) (fun j _ => ?_), cellsP_length, Int.natCast_mul, Int.toNat_of_nonneg (by omega), Int.toNat_of_nonneg (by omega), Int.mul_comm]
  obtain ⟨b1, b2⟩ := cellsP_bd p j
  have h5 : ((2 ^ p.words.length : Nat) : Int) = (2 : Int) ^ p.words.length := by simp
  omega
end Go.Proofs.Ytfknooffjhncgaa
