/-
  Plain: a run in two parts; a grid of a cycle comes back. Nothing of the program stands here.
-/
import Derived.Test.YtdkfaphclhaiaaaNCycP
import Derived.Test.YtdkfaphclhaiaaaNRun
namespace Go.Proofs.Ytdkfaphclhaiaaa
open Go.RowKit
set_option linter.unusedSimpArgs false
set_option linter.unusedVariables false
theorem runErr_in {t : Tre} {g : Grd} {m : Nat} (hm : m ≤ 10000) : runErr t g (m : Int) = fitsN t g := by
  unfold runErr
  split
  · rename_i h
    rw [if_pos (by omega), h]
  · rfl
theorem runR_in {t : Tre} {g : Grd} {m : Nat} (h : fitsN t g = 0) (hm : m ≤ 10000) : runR t g (m : Int) = genG t g m := by
  rw [runR, if_pos (by rw [runErr_in hm]; exact h), Int.toNat_natCast]
theorem run_parts {t : Tre} {g : Grd} {a b : Nat} (h : fitsN t g = 0) (hm : a + b ≤ 10000) : runErr t (runR t g (a : Int)) (b : Int) = 0 ∧ runR t g ((a + b : Nat) : Int) = runR t (runR t g (a : Int)) (b : Int) := by
  have hy := ok_fits ((fits_ok h).gen a)
  rw [runR_in h (show a ≤ 10000 by omega)]
  refine ⟨by rw [runErr_in (by omega)]; exact hy, ?_⟩
  rw [runR_in h hm, runR_in hy (by omega), genG_add]
theorem gen_eq {t : Tre} {g : Grd} {k n : Nat} (h : (genG t g k).cells = (genG t g n).cells) : genG t g k = genG t g n := by
  obtain ⟨a1, a2, a3, _⟩ := genG_shape t g k
  obtain ⟨b1, b2, b3, _⟩ := genG_shape t g n
  generalize genG t g k = x at *
  generalize genG t g n = y at *
  cases x
  cases y
  simp_all
/-- A cycle that was found: the grid comes back. -/
theorem cyc_back {t : Tre} {g : Grd} {m : Nat} (hm : m ≤ 10000) (h : cycErr t g (m : Int) = 0) :
    ∃ s p : Nat, cycS t g (m : Int) = (s : Int) ∧ cycP t g (m : Int) = (p : Int) ∧ 1 ≤ p ∧ s + p ≤ m ∧ fitsN t g = 0 ∧ runErr t g (s : Int) = 0 ∧ runErr t g ((s + p : Nat) : Int) = 0 ∧ runR t g (s : Int) = runR t g ((s + p : Nat) : Int) := by
  have hf : fitsN t g = 0 := by
    unfold cycErr at h
    split at h
    · rename_i h1; exact h1
    · exact h
  cases hc : cycTo t g m with
  | none =>
    rw [cycErr, if_pos hf, if_pos (by omega), Int.toNat_natCast, hc] at h
    exact absurd h (by decide)
  | some q =>
    obtain ⟨k, n⟩ := q
    obtain ⟨h1, h2, h3⟩ := cycTo_back hc
    refine ⟨k, n - k, ?_, ?_, by omega, by omega, hf, by rw [runErr_in (by omega)]; exact hf, by rw [runErr_in (by omega)]; exact hf, ?_⟩
    · rw [cycS, if_pos h, Int.toNat_natCast, hc]; rfl
    · rw [cycP, if_pos h, Int.toNat_natCast, hc]; show (n : Int) - (k : Int) = _; omega
    · rw [runR_in hf (by omega), runR_in hf (by omega), show k + (n - k) = n by omega]
      exact gen_eq h3
end Go.Proofs.Ytdkfaphclhaiaaa
