/-
  What Cycle keeps in its map, in plain data.
-/
import Derived.Test.YtdkfaphclhaiaaaNCycP
import Derived.Test.YtdkfaphclhaiaaaNKey
import Derived.Maps.OwnIn
namespace Go.Proofs.Ytdkfaphclhaiaaa
open Go.RowKit
set_option linter.unusedSimpArgs false
set_option linter.unusedVariables false
def keyL (l : List Int) : Lit := .string (strOfNums l).data.toList
theorem keyL_key (l : List Int) : WideAt.IsKeyLit (keyL l) := trivial
theorem keyL_inj {a b : List Int} (ha : ∀ z ∈ a, 0 ≤ z ∧ z < 256) (hb : ∀ z ∈ b, 0 ≤ z ∧ z < 256) (h : keyL a = keyL b) : a = b := by
  unfold keyL at h
  injection h with h
  exact strOfNums_inj a b ha hb (ByteArray.ext (Array.toList_inj.1 h))
theorem gen_bytes {t : Tre} {g : Grd} (h : OkTG t g) (k : Nat) : ∀ z ∈ (genG t g k).cells, 0 ≤ z ∧ z < 256 := by
  intro z hz
  have ho := h.gen k
  have h3 := (rightG_parts ho.rg).2.2
  have h2 := states_bd h.rt
  have h4 := ho.lt
  rw [List.all_eq_true] at h3 h4
  have a := h3 z hz
  have b := h4 z hz
  simp [stateOk, ltStates] at a b
  omega
def seenTo (t : Tre) (g : Grd) : Nat → DataW Unit
  | 0 => .map []
  | k + 1 => (seenTo t g k).put (keyL (genG t g k).cells) (.lit (.int .i64 (k : Int)))
theorem seen_map (t : Tre) (g : Grd) (n : Nat) : Maps.IsMap (seenTo t g n) := by
  induction n with
  | zero => exact Maps.isMap_empty
  | succ n ih => exact ih.put _ _
theorem seen_has {t : Tre} {g : Grd} (h : OkTG t g) (n m : Nat) : Maps.has (seenTo t g n) (keyL (genG t g m).cells) = true ↔ ∃ k, k < n ∧ (genG t g k).cells = (genG t g m).cells := by
  induction n with
  | zero => exact ⟨fun e => (by cases e), fun ⟨k, hk, _⟩ => by omega⟩
  | succ n ih =>
    by_cases he : (genG t g n).cells = (genG t g m).cells
    · refine ⟨fun _ => ⟨n, by omega, he⟩, fun _ => ?_⟩
      rw [seenTo, he]
      exact Maps.has_put_same (seen_map t g n) (keyL_key _) _
    · have hne : keyL (genG t g m).cells ≠ keyL (genG t g n).cells := fun e => he (keyL_inj (gen_bytes h n) (gen_bytes h m) e.symm)
      rw [seenTo, Maps.has_put_other hne, ih]
      constructor
      · rintro ⟨k, hk, e⟩
        exact ⟨k, by omega, e⟩
      · rintro ⟨k, hk, e⟩
        refine ⟨k, ?_, e⟩
        rcases Nat.lt_or_ge k n with h1 | h1
        · exact h1
        · obtain rfl : k = n := by omega
          exact absurd e he
theorem seen_at {t : Tre} {g : Grd} (h : OkTG t g) (z : DataW Unit) : ∀ (n k : Nat), (∀ j, j < n → cycK t g j = none) → k < n → (seenTo t g n).atKey (keyL (genG t g k).cells) z = .lit (.int .i64 (k : Int)) := by
  intro n
  induction n with
  | zero => intro k _ hk; omega
  | succ n ih =>
    intro k hd hk
    rw [seenTo]
    rcases Nat.lt_or_ge k n with h1 | h1
    · have hne : keyL (genG t g k).cells ≠ keyL (genG t g n).cells := fun e => cycK_none_ne (hd n (by omega)) h1 (keyL_inj (gen_bytes h k) (gen_bytes h n) e)
      rw [Maps.atKey_put_other hne]
      exact ih k (fun j hj => hd j (by omega)) h1
    · obtain rfl : k = n := by omega
      exact Maps.atKey_put_same (seen_map t g k) (keyL_key _) _ _
/-- The look-up of round n: a hit is the first repetition. -/
theorem seen_hit {t : Tre} {g : Grd} (h : OkTG t g) {n : Nat} {c : Int} (hd : ∀ j, j < n → cycK t g j = none) (hh : Maps.has (seenTo t g n) (keyL (genG t g n).cells) = true)
    (hat : (seenTo t g n).atKey (keyL (genG t g n).cells) (.lit (.int .i64 0)) = .lit (.int .i64 c)) : ∃ k : Nat, c = (k : Int) ∧ k < n ∧ cycK t g n = some k := by
  obtain ⟨k, hk, he⟩ := (seen_has h n n).1 hh
  rw [← he, seen_at h _ n k hd hk] at hat
  injection hat with hat
  injection hat with _ hat
  exact ⟨k, hat.symm, hk, cycK_of hd hk he⟩
theorem seen_miss {t : Tre} {g : Grd} (h : OkTG t g) {n : Nat} (hh : Maps.has (seenTo t g n) (keyL (genG t g n).cells) = false) : cycK t g n = none := by
  refine cycK_none (fun k hk he => ?_)
  have := (seen_has h n n).2 ⟨k, hk, he⟩
  rw [hh] at this
  cases this
end Go.Proofs.Ytdkfaphclhaiaaa
