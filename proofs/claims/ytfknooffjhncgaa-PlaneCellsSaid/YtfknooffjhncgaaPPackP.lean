/-
  Planes while they are packed: plain lists.
-/
import Derived.Test.YtfknooffjhncgaaPPlain
namespace Go.Proofs.Ytfknooffjhncgaa
open Go.RowKit
set_option linter.unusedSimpArgs false
set_option linter.unusedVariables false
/-- The cell that bit t of word k stands for. -/
def cellOf (W k t : Nat) : Nat := k / wpr W * W + (64 * (k % wpr W) + t)
/-- Word k of plane j when the cells before i are in, and cell i too where inc. -/
def packW (W : Nat) (cs : List Int) (i : Nat) (inc : Bool) (j k : Nat) : BitVec 64 :=
  mkW (fun t => decide (64 * (k % wpr W) + t < W) && (decide (cellOf W k t < i) || (inc && decide (cellOf W k t = i))) && tbit (cs.getD (cellOf W k t) 0) j)
def packRow (W H : Nat) (cs : List Int) (i : Nat) (inc : Bool) (j : Nat) : List (BitVec 64) := (List.range (H * wpr W)).map (packW W cs i inc j)
def packTo (W H : Nat) (cs : List Int) (n i b : Nat) : List (List (BitVec 64)) := (List.range n).map (fun j => packRow W H cs i (decide (j < b)) j)
theorem packRow_length (W H : Nat) (cs : List Int) (i : Nat) (inc : Bool) (j : Nat) : (packRow W H cs i inc j).length = H * wpr W := by simp [packRow]
theorem packTo_length (W H : Nat) (cs : List Int) (n i b : Nat) : (packTo W H cs n i b).length = n := by simp [packTo]
theorem packTo_row (W H : Nat) (cs : List Int) (n i b j : Nat) (h : j < n) : (packTo W H cs n i b).getD j [] = packRow W H cs i (decide (j < b)) j := by
  unfold packTo
  rw [List.getD_eq_getElem?_getD, List.getElem?_map, List.getElem?_range h]; rfl
theorem packRow_word (W H : Nat) (cs : List Int) (i : Nat) (inc : Bool) (j k : Nat) (h : k < H * wpr W) : (packRow W H cs i inc j).getD k 0#64 = packW W cs i inc j k := by
  unfold packRow
  rw [List.getD_eq_getElem?_getD, List.getElem?_map, List.getElem?_range h]; rfl
theorem packW_bit (W : Nat) (cs : List Int) (i : Nat) (inc : Bool) (j k t : Nat) (ht : t < 64) : (packW W cs i inc j k).getLsbD t = (decide (64 * (k % wpr W) + t < W) && (decide (cellOf W k t < i) || (inc && decide (cellOf W k t = i))) && tbit (cs.getD (cellOf W k t) 0) j) := by
  unfold packW
  rw [mkW_get, decide_eq_true ht, Bool.true_and]
/-- Where cell i lies. -/
theorem cellOf_at {W k t X Y : Nat} (hX : X < W) (ht : t < 64) (hw : 64 * (k % wpr W) + t < W) (h : cellOf W k t = Y * W + X) : k = Y * wpr W + X / 64 ∧ t = X % 64 := by
  unfold cellOf at h
  obtain ⟨a1, a2⟩ := row_at (n := W) (y := k / wpr W) hw
  obtain ⟨b1, b2⟩ := row_at (n := W) (y := Y) hX
  rw [h] at a1 a2
  have e1 : k / wpr W = Y := by rw [← a1, b1]
  have e2 : 64 * (k % wpr W) + t = X := by rw [← a2, b2]
  have := Nat.div_add_mod' k (wpr W)
  rw [e1] at this
  constructor
  · have h3 : k % wpr W = X / 64 := by omega
    rw [← h3]; exact this.symm
  · omega
theorem cellOf_is {W X Y : Nat} (hX : X < W) (hq : X / 64 < wpr W) : cellOf W (Y * wpr W + X / 64) (X % 64) = Y * W + X := by
  unfold cellOf
  obtain ⟨a1, a2⟩ := row_at (n := wpr W) (y := Y) hq
  rw [a1, a2]; omega
/-- One bit goes in. -/
theorem packRow_put (W H : Nat) (cs : List Int) (i j X Y : Nat) (hX : X < W) (hY : Y < H) (hq : X / 64 < wpr W) (hi : i = Y * W + X) :
    (packRow W H cs i false j).set (Y * wpr W + X / 64) (packW W cs i false j (Y * wpr W + X / 64) ||| (if tbit (cs.getD i 0) j = true then 1#64 <<< (X % 64) else 0#64)) = packRow W H cs i true j := by
  have hr64 : X % 64 < 64 := Nat.mod_lt _ (by omega)
  apply List.ext_getElem (by rw [List.length_set, packRow_length, packRow_length])
  intro k h1 h2
  rw [packRow_length] at h2
  rw [List.getElem_set]
  have g : ∀ inc, (packRow W H cs i inc j)[k]'(by rw [packRow_length]; exact h2) = packW W cs i inc j k := fun inc => by simp [packRow]
  rw [g true]
  split
  · rename_i e
    subst e
    apply word_ext
    intro t ht
    rw [BitVec.getLsbD_or, packW_bit _ _ _ _ _ _ _ ht, packW_bit _ _ _ _ _ _ _ ht]
    obtain ⟨a1, a2⟩ := row_at (n := wpr W) (y := Y) hq
    by_cases e : t = X % 64
    · subst e
      rw [cellOf_is hX hq, a2]
      have hw : 64 * (X / 64) + X % 64 < W := by omega
      rw [← hi]
      generalize tbit (cs.getD i 0) j = v
      have h9 : X % 64 < 64 := ht
      cases v <;> simp [hw, h9]
    · have hne : 64 * ((Y * wpr W + X / 64) % wpr W) + t < W → cellOf W (Y * wpr W + X / 64) t ≠ i := fun hw hc => e (cellOf_at hX ht hw (by rw [hc, hi])).2
      have hz : (if tbit (cs.getD i 0) j = true then 1#64 <<< (X % 64) else 0#64).getLsbD t = false := by
        split
        · rw [BitVec.getLsbD_shiftLeft, BitVec.getLsbD_one]
          by_cases h3 : t < X % 64
          · simp [h3]
          · have : ¬ (t - X % 64 = 0) := by omega
            simp [this]
        · simp
      rw [hz, Bool.or_false]
      generalize cellOf W (Y * wpr W + X / 64) t = c at hne ⊢
      generalize (Y * wpr W + X / 64) % wpr W = z at hne ⊢
      by_cases hw : 64 * z + t < W
      · simp [hne hw]
      · simp [hw]
  · rename_i e
    rw [g false]
    apply word_ext
    intro t ht
    rw [packW_bit _ _ _ _ _ _ _ ht, packW_bit _ _ _ _ _ _ _ ht]
    by_cases hw : 64 * (k % wpr W) + t < W
    · have hne : cellOf W k t ≠ i := fun hc => e (cellOf_at hX ht hw (by rw [hc, hi])).1.symm
      simp [hne]
    · simp [hw]
theorem packTo_put (W H : Nat) (cs : List Int) (n i b X Y : Nat) (hb : b < n) (hX : X < W) (hY : Y < H) (hq : X / 64 < wpr W) (hi : i = Y * W + X) :
    (packTo W H cs n i b).set b (((packTo W H cs n i b).getD b []).set (Y * wpr W + X / 64) (packW W cs i false b (Y * wpr W + X / 64) ||| (if tbit (cs.getD i 0) b = true then 1#64 <<< (X % 64) else 0#64))) = packTo W H cs n i (b + 1) := by
  rw [packTo_row _ _ _ _ _ _ _ hb, decide_eq_false (Nat.lt_irrefl b), packRow_put W H cs i b X Y hX hY hq hi]
  apply List.ext_getElem (by rw [List.length_set, packTo_length, packTo_length])
  intro j h1 h2
  rw [packTo_length] at h2
  rw [List.getElem_set]
  have g : ∀ b', (packTo W H cs n i b')[j]'(by rw [packTo_length]; exact h2) = packRow W H cs i (decide (j < b')) j := fun b' => by simp [packTo]
  rw [g (b + 1)]
  split
  · rename_i e; subst e; rw [decide_eq_true (by omega)]
  · rename_i e
    rw [g b]
    congr 1
    by_cases h3 : j < b
    · rw [decide_eq_true h3, decide_eq_true (by omega)]
    · rw [decide_eq_false h3, decide_eq_false (by omega)]
theorem packTo_next (W H : Nat) (cs : List Int) (n i : Nat) : packTo W H cs n i n = packTo W H cs n (i + 1) 0 := by
  unfold packTo
  apply List.map_congr_left
  intro j hj
  rw [decide_eq_true (List.mem_range.1 hj), decide_eq_false (Nat.not_lt_zero j)]
  unfold packRow
  apply List.map_congr_left
  intro k _
  unfold packW
  congr 1
  funext t
  have : (decide (cellOf W k t < i) || (true && decide (cellOf W k t = i))) = (decide (cellOf W k t < i + 1) || (false && decide (cellOf W k t = i + 1))) := by
    rw [Bool.true_and, Bool.false_and, Bool.or_false, Bool.eq_iff_iff]
    simp; omega
  rw [this]
theorem packTo_zero (W H : Nat) (cs : List Int) (n : Nat) : packTo W H cs n 0 0 = List.replicate n (List.replicate (H * wpr W) 0#64) := by
  have hz : ∀ inc j k, inc = false → packW W cs 0 inc j k = 0#64 := by
    intro inc j k e
    subst e
    apply word_ext
    intro t ht
    rw [packW_bit _ _ _ _ _ _ _ ht]; simp
  unfold packTo packRow
  apply List.ext_getElem (by simp)
  intro j h1 h2
  simp only [List.getElem_map, List.getElem_range, List.getElem_replicate]
  apply List.ext_getElem (by simp)
  intro k h3 h4
  simp only [List.getElem_map, List.getElem_range, List.getElem_replicate]
  exact hz _ _ _ (by simp)
theorem packTo_all (W H : Nat) (cs : List Int) (n : Nat) (hW : 1 ≤ W) : packTo W H cs n (H * W) 0 = (List.range n).map (planeF W H cs) := by
  unfold packTo
  apply List.map_congr_left
  intro j _
  unfold packRow planeF
  apply List.map_congr_left
  intro k hk
  have hk := List.mem_range.1 hk
  unfold packW
  congr 1
  funext t
  by_cases hw : 64 * (k % wpr W) + t < W
  · have hy : k / wpr W < H := Nat.div_lt_of_lt_mul (by rw [Nat.mul_comm]; exact hk)
    have hc : cellOf W k t < H * W := row_lt hw hy
    rw [decide_eq_true hc]
    simp [hw, cellOf]
  · simp [hw]
end Go.Proofs.Ytfknooffjhncgaa
