/-
  Garden in plain data. Nothing of the program stands here.
-/
import Derived.Test.YtdkfaphclhaiaaaNPlain
namespace Go.Proofs.Ytdkfaphclhaiaaa
open Go.RowKit
set_option linter.unusedSimpArgs false
set_option linter.unusedVariables false
/-- The number v's first k digits to the base s. -/
def digTo (s v : Int) (k : Nat) : List Int := (List.range k).map (fun i => v / s ^ i % s)
def digG (t : Tre) (g : Grd) (v : Int) : Grd := ⟨g.w, g.h, g.edge, digTo t.states v g.cells.length⟩
def leads (t : Tre) (g : Grd) (v : Int) : Bool := decide ((nextG t (digG t g v)).cells = g.cells)
def manyN (t : Tre) (g : Grd) : Int := t.states ^ g.cells.length
def gardErr (t : Tre) (g : Grd) : Int := if fitsN t g = 0 then (if manyN t g ≤ 4096 then 0 else 14) else fitsN t g
def gardR (t : Tre) (g : Grd) : Bool := if gardErr t g = 0 then (List.range (manyN t g).toNat).all (fun v => !leads t g v) else false
theorem digTo_length (s v : Int) (k : Nat) : (digTo s v k).length = k := by simp [digTo]
theorem digTo_succ (s v : Int) (k : Nat) : digTo s v (k + 1) = digTo s v k ++ [v / s ^ k % s] := by simp [digTo, List.range_succ]
theorem div_step {s v : Int} (hs : 0 ≤ s) (k : Nat) : v / s ^ k / s = v / s ^ (k + 1) := by
  rw [Int.pow_succ, Int.ediv_ediv_of_nonneg (Int.pow_nonneg hs)]
theorem pow_grow {s : Int} (hs : 1 ≤ s) {k n : Nat} (h : k ≤ n) : s ^ k ≤ s ^ n := by
  induction n with
  | zero => obtain rfl : k = 0 := by omega
            exact Int.le_refl _
  | succ n ih =>
    rcases Nat.lt_or_ge n k with h1 | h1
    · obtain rfl : k = n + 1 := by omega
      exact Int.le_refl _
    · refine Int.le_trans (ih h1) ?_
      rw [Int.pow_succ]
      have h0 : 0 ≤ s ^ n := Int.pow_nonneg (by omega)
      calc s ^ n = s ^ n * 1 := by omega
        _ ≤ s ^ n * s := Int.mul_le_mul_of_nonneg_left hs h0
theorem pow_pos1 {s : Int} (hs : 1 ≤ s) (k : Nat) : 1 ≤ s ^ k := by
  have := pow_grow hs (Nat.zero_le k)
  simpa using this
theorem dig_bd {s v : Int} (hs : 1 ≤ s) (k : Nat) : ∀ z ∈ digTo s v k, 0 ≤ z ∧ z < s := by
  intro z hz
  simp only [digTo, List.mem_map] at hz
  obtain ⟨i, _, rfl⟩ := hz
  exact ⟨Int.emod_nonneg _ (by omega), Int.emod_lt_of_pos _ (by omega)⟩
theorem digG_ok {t : Tre} {g : Grd} (h : OkTG t g) (v : Int) : OkTG t (digG t g v) := by
  have hs := states_bd h.rt
  obtain ⟨h1, h2, h3⟩ := rightG_parts h.rg
  have hm : ∀ z ∈ (digG t g v).cells, 0 ≤ z ∧ z < t.states := dig_bd (by omega) _
  refine ⟨h.rt, ?_, ?_⟩
  · unfold rightG
    rw [show sizedF (digG t g v).w (digG t g v).h (digG t g v).edge = true from h1, decide_eq_true (show ((digG t g v).cells.length : Int) = (digG t g v).w * (digG t g v).h by show ((digTo _ _ _).length : Int) = _; rw [digTo_length]; exact h2), Bool.true_and, Bool.true_and, List.all_eq_true]
    intro z hz
    have := hm z hz
    simp [stateOk]; omega
  · rw [List.all_eq_true]
    intro z hz
    exact decide_eq_true (hm z hz).2
theorem gardErr_fits {t : Tre} {g : Grd} (h : fitsN t g ≠ 0) : gardErr t g = fitsN t g := by rw [gardErr, if_neg h]
theorem gardErr_many {t : Tre} {g : Grd} (h : fitsN t g = 0) (h2 : ¬ manyN t g ≤ 4096) : gardErr t g = 14 := by rw [gardErr, if_pos h, if_neg h2]
theorem gardErr_ok {t : Tre} {g : Grd} (h : fitsN t g = 0) (h2 : manyN t g ≤ 4096) : gardErr t g = 0 := by rw [gardErr, if_pos h, if_pos h2]
theorem gardR_err {t : Tre} {g : Grd} {k : Int} (h : gardErr t g = k) (hk : k ≠ 0) : gardR t g = false := by rw [gardR, if_neg (by rw [h]; exact hk)]
theorem gardR_hit {t : Tre} {g : Grd} {v : Nat} (h : gardErr t g = 0) (hv : (v : Int) < manyN t g) (hl : leads t g v = true) : gardR t g = false := by
  rw [gardR, if_pos h, List.all_eq_false]
  exact ⟨v, by rw [List.mem_range]; omega, by rw [hl]; simp⟩
theorem gardR_none {t : Tre} {g : Grd} {m : Nat} (h : gardErr t g = 0) (hm : manyN t g = (m : Int)) (hl : ∀ v : Nat, v < m → leads t g v = false) : gardR t g = true := by
  rw [gardR, if_pos h, List.all_eq_true]
  intro v hv
  rw [List.mem_range, hm, Int.toNat_natCast] at hv
  rw [hl v hv]; rfl
end Go.Proofs.Ytdkfaphclhaiaaa
