/-
  Cycle in plain data: the first repetition. Nothing of the program stands here.
-/
import Derived.Test.YtdkfaphclhaiaaaNPlain
namespace Go.Proofs.Ytdkfaphclhaiaaa
open Go.RowKit
set_option linter.unusedSimpArgs false
set_option linter.unusedVariables false
/-- The first generation before n that is generation n. -/
def cycK (t : Tre) (g : Grd) (n : Nat) : Option Nat := (List.range n).find? (fun k => decide ((genG t g k).cells = (genG t g n).cells))
/-- The first repetition among the generations up to m. -/
def cycTo (t : Tre) (g : Grd) (m : Nat) : Option (Nat × Nat) := (List.range (m + 1)).findSome? (fun n => (cycK t g n).map (fun k => (k, n)))
def cycErr (t : Tre) (g : Grd) (z : Int) : Int := if fitsN t g = 0 then (if 0 ≤ z ∧ z ≤ 10000 then (if (cycTo t g z.toNat).isSome then 0 else 14) else 2) else fitsN t g
def cycS (t : Tre) (g : Grd) (z : Int) : Int := if cycErr t g z = 0 then (((cycTo t g z.toNat).getD (0, 0)).1 : Int) else 0
def cycP (t : Tre) (g : Grd) (z : Int) : Int := if cycErr t g z = 0 then ((((cycTo t g z.toNat).getD (0, 0)).2 : Int) - (((cycTo t g z.toNat).getD (0, 0)).1 : Int)) else 0
theorem cycK_none {t : Tre} {g : Grd} {n : Nat} (h : ∀ k, k < n → (genG t g k).cells ≠ (genG t g n).cells) : cycK t g n = none := by
  rw [cycK, List.find?_eq_none]
  intro k hk
  rw [List.mem_range] at hk
  simp [h k hk]
theorem cycK_none_ne {t : Tre} {g : Grd} {n k : Nat} (h : cycK t g n = none) (hk : k < n) : (genG t g k).cells ≠ (genG t g n).cells := by
  rw [cycK, List.find?_eq_none] at h
  have := h k (List.mem_range.2 hk)
  simpa using this
theorem cycK_some {t : Tre} {g : Grd} {n k : Nat} (h : cycK t g n = some k) : k < n ∧ (genG t g k).cells = (genG t g n).cells := by
  rw [cycK] at h
  have h1 := List.mem_of_find?_eq_some h
  have h2 := List.find?_some h
  exact ⟨List.mem_range.1 h1, by simpa using h2⟩
/-- No generation has come twice before n: then whatever equals generation n is the first that does. -/
theorem cycK_of {t : Tre} {g : Grd} {n k : Nat} (hd : ∀ j, j < n → cycK t g j = none) (hk : k < n) (he : (genG t g k).cells = (genG t g n).cells) : cycK t g n = some k := by
  cases h : cycK t g n with
  | none => exact absurd he (cycK_none_ne h hk)
  | some j =>
    obtain ⟨hj, hje⟩ := cycK_some h
    rcases Nat.lt_trichotomy j k with h1 | h1 | h1
    · exact absurd (hje.trans he.symm) (cycK_none_ne (hd k hk) h1)
    · rw [h1]
    · exact absurd (he.trans hje.symm) (cycK_none_ne (hd j hj) h1)
theorem cycTo_none {t : Tre} {g : Grd} {m : Nat} (h : ∀ j, j ≤ m → cycK t g j = none) : cycTo t g m = none := by
  rw [cycTo, List.findSome?_eq_none_iff]
  intro n hn
  rw [List.mem_range] at hn
  rw [h n (by omega)]; rfl
theorem findSome_first {α : Type} (f : Nat → Option α) (a : α) : ∀ (m n : Nat), n < m → (∀ j, j < n → f j = none) → f n = some a → (List.range m).findSome? f = some a := by
  intro m
  induction m with
  | zero => intro n h; omega
  | succ m ih =>
    intro n hn hd hf
    rw [List.range_succ, List.findSome?_append]
    rcases Nat.lt_or_ge n m with h1 | h1
    · rw [ih n h1 hd hf]; rfl
    · obtain rfl : n = m := by omega
      rw [show (List.range n).findSome? f = none from List.findSome?_eq_none_iff.2 (fun j hj => hd j (List.mem_range.1 hj))]
      simp [hf]
theorem cycTo_some {t : Tre} {g : Grd} {m n k : Nat} (hn : n ≤ m) (hd : ∀ j, j < n → cycK t g j = none) (h : cycK t g n = some k) : cycTo t g m = some (k, n) :=
  findSome_first _ (k, n) (m + 1) n (by omega) (fun j hj => by rw [hd j hj]; rfl) (by rw [h]; rfl)
theorem cycTo_back {t : Tre} {g : Grd} {m k n : Nat} (h : cycTo t g m = some (k, n)) : k < n ∧ n ≤ m ∧ (genG t g k).cells = (genG t g n).cells := by
  rw [cycTo, List.findSome?_eq_some_iff] at h
  obtain ⟨l1, a, l2, h1, h2, _⟩ := h
  cases hk : cycK t g a with
  | none => rw [hk] at h2; cases h2
  | some j =>
    rw [hk] at h2
    simp only [Option.map_some, Option.some.injEq, Prod.mk.injEq] at h2
    obtain ⟨rfl, rfl⟩ := h2
    obtain ⟨h3, h4⟩ := cycK_some hk
    have : a ∈ List.range (m + 1) := by rw [h1]; simp
    rw [List.mem_range] at this
    exact ⟨h3, by omega, h4⟩
theorem cyc_fits {t : Tre} {g : Grd} (z : Int) (h : fitsN t g ≠ 0) : cycErr t g z = fitsN t g := by rw [cycErr, if_neg h]
theorem cyc_out {t : Tre} {g : Grd} {z : Int} (h : fitsN t g = 0) (hz : ¬ (0 ≤ z ∧ z ≤ 10000)) : cycErr t g z = 2 := by rw [cycErr, if_pos h, if_neg hz]
theorem cyc_limit {t : Tre} {g : Grd} {m : Nat} (h : fitsN t g = 0) (hm : m ≤ 10000) (hn : ∀ j, j ≤ m → cycK t g j = none) : cycErr t g (m : Int) = 14 := by
  rw [cycErr, if_pos h, if_pos (by omega), Int.toNat_natCast, cycTo_none hn]; rfl
theorem cyc_hit {t : Tre} {g : Grd} {m n k : Nat} (h : fitsN t g = 0) (hm : m ≤ 10000) (hn : n ≤ m) (hd : ∀ j, j < n → cycK t g j = none) (hk : cycK t g n = some k) :
    cycErr t g (m : Int) = 0 ∧ cycS t g (m : Int) = (k : Int) ∧ cycP t g (m : Int) = (n : Int) - (k : Int) := by
  have h0 : cycErr t g (m : Int) = 0 := by
    rw [cycErr, if_pos h, if_pos (by omega), Int.toNat_natCast, cycTo_some hn hd hk]; rfl
  refine ⟨h0, ?_, ?_⟩
  · rw [cycS, if_pos h0, Int.toNat_natCast, cycTo_some hn hd hk]; rfl
  · rw [cycP, if_pos h0, Int.toNat_natCast, cycTo_some hn hd hk]; rfl
theorem cyc_err {t : Tre} {g : Grd} {z k : Int} (h : cycErr t g z = k) (hk : k ≠ 0) : cycS t g z = 0 ∧ cycP t g z = 0 := by
  rw [cycS, cycP, if_neg (by rw [h]; exact hk), if_neg (by rw [h]; exact hk)]; exact ⟨rfl, rfl⟩
end Go.Proofs.Ytdkfaphclhaiaaa
