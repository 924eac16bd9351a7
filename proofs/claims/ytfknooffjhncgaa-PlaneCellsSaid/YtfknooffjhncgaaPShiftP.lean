/-
  A row of bits that is moved: plain words.
-/
import Derived.Test.YtfknooffjhncgaaPLaw
namespace Go.Proofs.Ytfknooffjhncgaa
open Go.RowKit
set_option linter.unusedSimpArgs false
set_option linter.unusedVariables false
/-- Bit j of a row; none outside. -/
def rbit (row : List (BitVec 64)) (j : Int) : Bool := decide (0 ≤ j) && (row.getD (j.toNat / 64) 0#64).getLsbD (j.toNat % 64)
def shA (row : List (BitVec 64)) (step : Int) (rest i : Nat) : BitVec 64 :=
  if 0 ≤ (i : Int) + step ∧ (i : Int) + step < row.length then row.getD ((i : Int) + step).toNat 0#64 >>> rest else 0#64
def shB (row : List (BitVec 64)) (step : Int) (rest i : Nat) : BitVec 64 :=
  if 0 < rest ∧ 0 ≤ (i : Int) + step + 1 ∧ (i : Int) + step + 1 < row.length then row.getD ((i : Int) + step + 1).toNat 0#64 <<< (64 - rest) else 0#64
theorem getD_out (row : List (BitVec 64)) (k : Nat) (h : row.length ≤ k) : row.getD k 0#64 = 0#64 := by
  rw [List.getD_eq_getElem?_getD, List.getElem?_eq_none h]; rfl
theorem shA_eq (row : List (BitVec 64)) (step : Int) (rest i : Nat) : shA row step rest i = if 0 ≤ (i : Int) + step then row.getD ((i : Int) + step).toNat 0#64 >>> rest else 0#64 := by
  unfold shA
  by_cases h : 0 ≤ (i : Int) + step
  · rw [if_pos h]
    by_cases h2 : (i : Int) + step < row.length
    · rw [if_pos ⟨h, h2⟩]
    · rw [if_neg (fun x => h2 x.2), getD_out _ _ (by omega)]; simp
  · rw [if_neg h, if_neg (fun x => h x.1)]
theorem shB_eq (row : List (BitVec 64)) (step : Int) (rest i : Nat) : shB row step rest i = if 0 < rest ∧ 0 ≤ (i : Int) + step + 1 then row.getD ((i : Int) + step + 1).toNat 0#64 <<< (64 - rest) else 0#64 := by
  unfold shB
  by_cases h : 0 < rest ∧ 0 ≤ (i : Int) + step + 1
  · rw [if_pos h]
    by_cases h2 : (i : Int) + step + 1 < row.length
    · rw [if_pos ⟨h.1, h.2, h2⟩]
    · rw [if_neg (fun x => h2 x.2.2), getD_out _ _ (by omega)]; simp
  · rw [if_neg h, if_neg (fun x => h ⟨x.1, x.2.1⟩)]
theorem shAB_bit (row : List (BitVec 64)) (step : Int) (rest i t : Nat) (ht : t < 64) (hr : rest < 64) :
    (shA row step rest i ||| shB row step rest i).getLsbD t = rbit row (((64 * i + t : Nat) : Int) + (64 * step + rest)) := by
  rw [shA_eq, shB_eq, BitVec.getLsbD_or]
  unfold rbit
  by_cases h1 : t + rest < 64
  · have hB : (if 0 < rest ∧ 0 ≤ (i : Int) + step + 1 then row.getD ((i : Int) + step + 1).toNat 0#64 <<< (64 - rest) else 0#64).getLsbD t = false := by
      split
      · rw [BitVec.getLsbD_shiftLeft]
        have : t < 64 - rest := by omega
        simp [this]
      · simp
    rw [hB, Bool.or_false]
    by_cases h2 : 0 ≤ (i : Int) + step
    · obtain ⟨k, hk⟩ : ∃ k : Nat, (i : Int) + step = (k : Int) := ⟨_, (Int.toNat_of_nonneg h2).symm⟩
      have e : ((64 * i + t : Nat) : Int) + (64 * step + rest) = ((64 * k + (t + rest) : Nat) : Int) := by omega
      rw [if_pos h2, hk, Int.toNat_natCast, e, decide_eq_true (by omega), Bool.true_and, Int.toNat_natCast, show (64 * k + (t + rest)) / 64 = k by omega, show (64 * k + (t + rest)) % 64 = t + rest by omega, BitVec.getLsbD_ushiftRight, Nat.add_comm]
    · rw [if_neg h2, decide_eq_false (by omega)]; simp
  · have hA : (if 0 ≤ (i : Int) + step then row.getD ((i : Int) + step).toNat 0#64 >>> rest else 0#64).getLsbD t = false := by
      split
      · rw [BitVec.getLsbD_ushiftRight]
        exact BitVec.getLsbD_of_ge _ _ (by omega)
      · simp
    rw [hA, Bool.false_or]
    by_cases h2 : 0 ≤ (i : Int) + step + 1
    · obtain ⟨k, hk⟩ : ∃ k : Nat, (i : Int) + step + 1 = (k : Int) := ⟨_, (Int.toNat_of_nonneg h2).symm⟩
      have e : ((64 * i + t : Nat) : Int) + (64 * step + rest) = ((64 * k + (t + rest - 64) : Nat) : Int) := by omega
      rw [if_pos ⟨by omega, h2⟩, hk, Int.toNat_natCast, e, decide_eq_true (by omega), Bool.true_and, Int.toNat_natCast, show (64 * k + (t + rest - 64)) / 64 = k by omega, show (64 * k + (t + rest - 64)) % 64 = t + rest - 64 by omega, BitVec.getLsbD_shiftLeft]
      have h3 : ¬ t < 64 - rest := by omega
      rw [show t - (64 - rest) = t + rest - 64 by omega]
      simp [ht, h3]
    · rw [if_neg (fun x => h2 x.2), decide_eq_false (by omega)]; simp

/-- The bit that stands at place x of the moved row. -/
def tgtB (row : List (BitVec 64)) (W : Nat) (dx : Int) (e : Int) (x : Nat) : Bool := decide (0 ≤ atF ((x : Int) + dx) W e) && rbit row (atF ((x : Int) + dx) W e)
theorem tgt_in (row : List (BitVec 64)) (W : Nat) (dx e : Int) (x : Nat) (h : 0 ≤ (x : Int) + dx ∧ (x : Int) + dx < W) : tgtB row W dx e x = rbit row ((x : Int) + dx) := by
  unfold tgtB atF
  rw [if_pos h, decide_eq_true h.1, Bool.true_and]
/-- The words when the places before x0 are done. -/
def shW (row : List (BitVec 64)) (W : Nat) (dx e : Int) (x0 i : Nat) : BitVec 64 := mkW (fun t => if 64 * i + t < x0 then tgtB row W dx e (64 * i + t) else rbit row (((64 * i + t : Nat) : Int) + dx))
def shTo (row : List (BitVec 64)) (W : Nat) (dx e : Int) (x0 : Nat) : List (BitVec 64) := (List.range row.length).map (shW row W dx e x0)
def shF (row : List (BitVec 64)) (W : Nat) (dx e : Int) : List (BitVec 64) := (List.range row.length).map (fun i => mkW (fun t => decide (64 * i + t < W) && tgtB row W dx e (64 * i + t)))
/-- The words while they are moved whole: those before i are there. -/
def shGo (row : List (BitVec 64)) (step : Int) (rest i : Nat) : List (BitVec 64) := (List.range row.length).map (fun j => if j < i then shA row step rest j ||| shB row step rest j else 0#64)
theorem shTo_length (row : List (BitVec 64)) (W : Nat) (dx e : Int) (x0 : Nat) : (shTo row W dx e x0).length = row.length := by simp [shTo]
theorem shGo_length (row : List (BitVec 64)) (step : Int) (rest i : Nat) : (shGo row step rest i).length = row.length := by simp [shGo]
theorem shF_length (row : List (BitVec 64)) (W : Nat) (dx e : Int) : (shF row W dx e).length = row.length := by simp [shF]
theorem shGo_zero (row : List (BitVec 64)) (step : Int) (rest : Nat) : shGo row step rest 0 = List.replicate row.length 0#64 := by
  unfold shGo
  apply List.ext_getElem (by simp)
  intro j h1 h2
  simp
theorem map_set_range {α} (n i : Nat) (f g : Nat → α) (x : α) (hi : i < n) (h1 : ∀ j, j < n → j ≠ i → f j = g j) (h2 : x = g i) : ((List.range n).map f).set i x = (List.range n).map g := by
  apply List.ext_getElem (by simp)
  intro j hj hj'
  rw [List.getElem_set]
  simp only [List.getElem_map, List.getElem_range]
  split
  · rename_i e; subst e; exact h2
  · rename_i e; exact h1 j (by simpa using hj') (fun h => e h.symm)
theorem shGo_set (row : List (BitVec 64)) (step : Int) (rest i : Nat) (x : BitVec 64) (hi : i < row.length) (hx : x = shA row step rest i ||| shB row step rest i) : (shGo row step rest i).set i x = shGo row step rest (i + 1) := by
  refine map_set_range _ _ _ _ _ hi (fun j _ hj => ?_) ?_
  · by_cases h : j < i
    · rw [if_pos h, if_pos (by omega)]
    · rw [if_neg h, if_neg (by omega)]
  · rw [if_pos (by omega)]; exact hx
theorem shGo_get (row : List (BitVec 64)) (step : Int) (rest i : Nat) (hi : i < row.length) : (shGo row step rest i).getD i 0#64 = 0#64 := by
  unfold shGo
  rw [List.getD_eq_getElem?_getD, List.getElem?_map, List.getElem?_range hi, Option.map_some, Option.getD_some, if_neg (Nat.lt_irrefl i)]
theorem shGo_all (row : List (BitVec 64)) (W : Nat) (step : Int) (rest : Nat) (dx e : Int) (hr : rest < 64) (hd : dx = 64 * step + rest) : shGo row step rest row.length = shTo row W dx e 0 := by
  unfold shGo shTo
  apply List.map_congr_left
  intro j hj
  rw [if_pos (List.mem_range.1 hj)]
  apply word_ext
  intro t ht
  rw [shAB_bit _ _ _ _ _ ht hr, shW, mkW_get, decide_eq_true ht, Bool.true_and, if_neg (Nat.not_lt_zero _), hd]
theorem shTo_get (row : List (BitVec 64)) (W : Nat) (dx e : Int) (x0 i : Nat) (hi : i < row.length) : (shTo row W dx e x0).getD i 0#64 = shW row W dx e x0 i := by
  unfold shTo
  rw [List.getD_eq_getElem?_getD, List.getElem?_map, List.getElem?_range hi]; rfl
/-- A place that lies inside stays as it is. -/
theorem shTo_in (row : List (BitVec 64)) (W : Nat) (dx e : Int) (x : Nat) (h : 0 ≤ (x : Int) + dx ∧ (x : Int) + dx < W) : shTo row W dx e (x + 1) = shTo row W dx e x := by
  unfold shTo
  apply List.map_congr_left
  intro i _
  unfold shW
  congr 1
  funext t
  by_cases h1 : 64 * i + t < x
  · rw [if_pos h1, if_pos (by omega)]
  · by_cases h2 : 64 * i + t = x
    · rw [if_neg h1, if_pos (by omega), h2, tgt_in _ _ _ _ _ h]
    · rw [if_neg h1, if_neg (by omega)]
theorem shW_next (row : List (BitVec 64)) (W : Nat) (dx e : Int) (x : Nat) :
    (shW row W dx e x (x / 64) &&& ~~~(1#64 <<< (x % 64))) ||| (if tgtB row W dx e x = true then 1#64 <<< (x % 64) else 0#64) = shW row W dx e (x + 1) (x / 64) := by
  have hr : x % 64 < 64 := Nat.mod_lt _ (by omega)
  apply word_ext
  intro t ht
  rw [BitVec.getLsbD_or, BitVec.getLsbD_and, BitVec.getLsbD_not, shW, shW, mkW_get, mkW_get, decide_eq_true ht, Bool.true_and, Bool.true_and]
  by_cases e1 : t = x % 64
  · subst e1
    have e2 : 64 * (x / 64) + x % 64 = x := by omega
    rw [e2, if_neg (Nat.lt_irrefl x), if_pos (Nat.lt_succ_self x)]
    generalize tgtB row W dx e x = v
    cases v <;> simp [hr]
  · have hz : (1#64 <<< (x % 64)).getLsbD t = false := by
      rw [BitVec.getLsbD_shiftLeft, BitVec.getLsbD_one]
      by_cases h3 : t < x % 64
      · simp [h3]
      · have : ¬ (t - x % 64 = 0) := by omega
        simp [this]
    have hz2 : (if tgtB row W dx e x = true then 1#64 <<< (x % 64) else 0#64).getLsbD t = false := by
      split
      · exact hz
      · simp
    rw [hz, hz2, Bool.or_false]
    have hne : 64 * (x / 64) + t ≠ x := by omega
    by_cases h1 : 64 * (x / 64) + t < x
    · rw [if_pos h1, if_pos (by omega)]; simp [ht]
    · rw [if_neg h1, if_neg (by omega)]; simp [ht]
theorem shTo_next (row : List (BitVec 64)) (W : Nat) (dx e : Int) (x : Nat) (hx : x / 64 < row.length) (u : BitVec 64)
    (hu : u = (shW row W dx e x (x / 64) &&& ~~~(1#64 <<< (x % 64))) ||| (if tgtB row W dx e x = true then 1#64 <<< (x % 64) else 0#64)) : (shTo row W dx e x).set (x / 64) u = shTo row W dx e (x + 1) := by
  refine map_set_range _ _ _ _ _ hx (fun j _ hj => ?_) (hu.trans (shW_next row W dx e x))
  apply word_ext
  intro t ht
  rw [shW, shW, mkW_get, mkW_get]
  by_cases h1 : 64 * j + t < x
  · rw [if_pos h1, if_pos (by omega)]
  · rw [if_neg h1, if_neg (by omega)]
theorem shTo_end (row : List (BitVec 64)) (W : Nat) (dx e : Int) (h0 : W % 64 = 0) (hn : row.length = wpr W) : shTo row W dx e W = shF row W dx e := by
  unfold shTo shF
  apply List.map_congr_left
  intro i hi
  have hi := List.mem_range.1 hi
  rw [hn] at hi
  unfold wpr at hi
  apply word_ext
  intro t ht
  rw [shW, mkW_get, mkW_get, decide_eq_true ht, Bool.true_and, Bool.true_and, if_pos (by omega), decide_eq_true (by omega), Bool.true_and]
theorem mask_bit (r t : Nat) (hr : r < 64) (ht : t < 64) : ((1#64 <<< r) - 1#64).getLsbD t = decide (t < r) := by
  have h2 : (1#64 <<< r - 1#64).toNat = 2 ^ r - 1 := by
    have h3 : 2 ^ r < 2 ^ 64 := Nat.pow_lt_pow_right (by decide) hr
    have h4 : 0 < 2 ^ r := Nat.pow_pos (by decide)
    rw [BitVec.toNat_sub, BitVec.toNat_shiftLeft]
    simp only [BitVec.toNat_ofNat, Nat.shiftLeft_eq]
    omega
  rw [← BitVec.testBit_toNat, h2, Nat.testBit_two_pow_sub_one]
theorem shTo_last (row : List (BitVec 64)) (W : Nat) (dx e : Int) (h0 : W % 64 ≠ 0) (hn : row.length = wpr W) (u : BitVec 64) (hu : u = shW row W dx e W (row.length - 1) &&& ((1#64 <<< (W % 64)) - 1#64)) :
    (shTo row W dx e W).set (row.length - 1) u = shF row W dx e := by
  have hl : 1 ≤ row.length := by rw [hn]; unfold wpr; omega
  have hr : W % 64 < 64 := Nat.mod_lt _ (by omega)
  refine map_set_range _ _ _ _ _ (by omega) (fun j hj hjn => ?_) ?_
  · apply word_ext
    intro t ht
    unfold wpr at hn
    rw [shW, mkW_get, mkW_get, decide_eq_true ht, Bool.true_and, Bool.true_and, if_pos (by omega), decide_eq_true (by omega), Bool.true_and]
  · rw [hu]
    apply word_ext
    intro t ht
    unfold wpr at hn
    rw [BitVec.getLsbD_and, mask_bit _ _ hr ht, shW, mkW_get, mkW_get, decide_eq_true ht, Bool.true_and, Bool.true_and]
    by_cases h1 : t < W % 64
    · rw [if_pos (by omega), decide_eq_true h1, decide_eq_true (by omega)]; simp
    · rw [decide_eq_false h1, decide_eq_false (by omega)]; simp
end Go.Proofs.Ytfknooffjhncgaa
