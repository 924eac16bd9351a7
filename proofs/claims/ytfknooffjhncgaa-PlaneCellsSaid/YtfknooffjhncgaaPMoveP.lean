/-
  Planes while they are moved row by row: plain lists.
-/
import Derived.Test.YtfknooffjhncgaaPShiftP
import Derived.Laws.CopyOwn
namespace Go.Proofs.Ytfknooffjhncgaa
open Go.RowKit
set_option linter.unusedSimpArgs false
set_option linter.unusedVariables false
/-- A plane of which the rows before y are there, and row y too where inc. -/
def mvRow (R : List (BitVec 64)) (n y : Nat) (inc : Bool) : List (BitVec 64) := (List.range R.length).map (fun k => if (decide (k / n < y) || (inc && decide (k / n = y))) = true then R.getD k 0#64 else 0#64)
def mvTo (D : List (List (BitVec 64))) (n y b : Nat) : List (List (BitVec 64)) := (List.range D.length).map (fun j => mvRow (D.getD j []) n y (decide (j < b)))
theorem mvRow_length (R : List (BitVec 64)) (n y : Nat) (inc : Bool) : (mvRow R n y inc).length = R.length := by simp [mvRow]
theorem mvTo_length (D : List (List (BitVec 64))) (n y b : Nat) : (mvTo D n y b).length = D.length := by simp [mvTo]
theorem mvTo_row (D : List (List (BitVec 64))) (n y b j : Nat) (h : j < D.length) : (mvTo D n y b).getD j [] = mvRow (D.getD j []) n y (decide (j < b)) := by
  unfold mvTo
  rw [List.getD_eq_getElem?_getD, List.getElem?_map, List.getElem?_range h]; rfl
theorem mvRow_next (R : List (BitVec 64)) (n y : Nat) : mvRow R n y true = mvRow R n (y + 1) false := by
  unfold mvRow
  apply List.map_congr_left
  intro k _
  have : (decide (k / n < y) || (true && decide (k / n = y))) = (decide (k / n < y + 1) || (false && decide (k / n = y + 1))) := by
    rw [Bool.true_and, Bool.false_and, Bool.or_false, Bool.eq_iff_iff]
    simp; omega
  rw [this]
theorem mvTo_next (D : List (List (BitVec 64))) (n y : Nat) : mvTo D n y D.length = mvTo D n (y + 1) 0 := by
  unfold mvTo
  apply List.map_congr_left
  intro j hj
  rw [decide_eq_true (List.mem_range.1 hj), decide_eq_false (Nat.not_lt_zero j), mvRow_next]
theorem mvTo_zero (D : List (List (BitVec 64))) (n M : Nat) (h : ∀ j, j < D.length → (D.getD j []).length = M) : mvTo D n 0 0 = List.replicate D.length (List.replicate M 0#64) := by
  unfold mvTo mvRow
  apply List.ext_getElem (by simp)
  intro j h1 h2
  simp only [List.getElem_map, List.getElem_range, List.getElem_replicate]
  have hj : j < D.length := by simpa using h1
  rw [h j hj]
  apply List.ext_getElem (by simp)
  intro k h3 h4
  simp
theorem getD_eq {α} (l : List α) (d : α) (k : Nat) (h : k < l.length) : l.getD k d = l[k] := by
  rw [List.getD_eq_getElem?_getD, List.getElem?_eq_getElem h]; rfl
theorem mvTo_all (D : List (List (BitVec 64))) (n H : Nat) (hn : 1 ≤ n) (h : ∀ j, j < D.length → (D.getD j []).length = H * n) : mvTo D n H 0 = D := by
  unfold mvTo
  apply List.ext_getElem (by simp)
  intro j h1 h2
  simp only [List.getElem_map, List.getElem_range]
  have hl := h j h2
  rw [getD_eq D [] j h2] at hl ⊢
  unfold mvRow
  apply List.ext_getElem (by simp)
  intro k h3 h4
  simp only [List.getElem_map, List.getElem_range]
  have hk : k / n < H := Nat.div_lt_of_lt_mul (by rw [Nat.mul_comm]; omega)
  rw [decide_eq_true hk, Bool.true_or, if_pos rfl, getD_eq _ _ k h4]
theorem div_row {n H k y : Nat} (hn : 1 ≤ n) (h : k / n = y) : ∃ i, i < n ∧ k = y * n + i := ⟨k % n, Nat.mod_lt _ (by omega), by rw [← h]; exact (Nat.div_add_mod' k n).symm⟩
theorem mvTo_skip (D : List (List (BitVec 64))) (n y : Nat) (hn : 1 ≤ n) (h : ∀ j, j < D.length → ∀ i, i < n → (D.getD j []).getD (y * n + i) 0#64 = 0#64) : mvTo D n (y + 1) 0 = mvTo D n y 0 := by
  unfold mvTo
  apply List.map_congr_left
  intro j hj
  have hj := List.mem_range.1 hj
  rw [decide_eq_false (Nat.not_lt_zero j), ← mvRow_next]
  unfold mvRow
  apply List.map_congr_left
  intro k _
  by_cases e : k / n = y
  · obtain ⟨i, hi, e2⟩ := div_row (H := 0) hn e
    rw [e2, h j hj i hi]; simp
  · rw [decide_eq_false e]; simp
theorem splice_get {α} (L cs : List α) (off k : Nat) (d : α) (h : off + cs.length ≤ L.length) : (splice L off cs).getD k d = if k < off then L.getD k d else if k < off + cs.length then cs.getD (k - off) d else L.getD k d := by
  unfold splice
  have hm : min off L.length = off := by omega
  simp only [List.getD_eq_getElem?_getD]
  by_cases h1 : k < off
  · rw [if_pos h1, List.getElem?_append_left (by rw [List.length_take]; omega), List.getElem?_take_of_lt h1]
  · rw [if_neg h1, List.getElem?_append_right (by rw [List.length_take]; omega), List.length_take, hm]
    by_cases h2 : k < off + cs.length
    · rw [if_pos h2, List.getElem?_append_left (by omega)]
    · rw [if_neg h2, List.getElem?_append_right (by omega), List.getElem?_drop, show off + cs.length + (k - off - cs.length) = k by omega]
theorem mvRow_get (R : List (BitVec 64)) (n y : Nat) (inc : Bool) (k : Nat) (h : k < R.length) : (mvRow R n y inc).getD k 0#64 = if (decide (k / n < y) || (inc && decide (k / n = y))) = true then R.getD k 0#64 else 0#64 := by
  unfold mvRow
  rw [List.getD_eq_getElem?_getD, List.getElem?_map, List.getElem?_range h]; rfl
theorem mvRow_put (R ws : List (BitVec 64)) (n H y : Nat) (hn : 1 ≤ n) (hR : R.length = H * n) (hy : y < H) (hl : ws.length = n) (h : ∀ i, i < n → ws.getD i 0#64 = R.getD (y * n + i) 0#64) :
    splice (mvRow R n y false) (y * n) ws = mvRow R n y true := by
  have hfit : y * n + ws.length ≤ (mvRow R n y false).length := by
    rw [mvRow_length, hl, hR]
    have := Nat.mul_le_mul_right n (show y + 1 ≤ H by omega)
    rw [Nat.add_mul, Nat.one_mul] at this
    exact this
  apply List.ext_getElem (by rw [length_splice _ _ _ hfit, mvRow_length, mvRow_length])
  intro k h1 h2
  have hk : k < R.length := by rw [mvRow_length] at h2; exact h2
  rw [← getD_eq _ 0#64 k h1, ← getD_eq _ 0#64 k h2, splice_get _ _ _ _ _ hfit, mvRow_get _ _ _ _ _ hk, mvRow_get _ _ _ _ _ hk, hl]
  by_cases e : k / n = y
  · obtain ⟨i, hi, e2⟩ := div_row (H := 0) hn e
    rw [if_neg (by omega), if_pos (by omega), e2, show y * n + i - y * n = i by omega, h i hi]
    rw [e2] at e
    simp [e]
  · have h9 : ¬ (y * n ≤ k ∧ k < y * n + n) := fun ⟨a, b⟩ => e (by
      obtain ⟨i, hi⟩ : ∃ i, i = k - y * n := ⟨_, rfl⟩
      have hk2 : k = y * n + i := by omega
      rw [hk2]; exact (row_at (by omega)).1)
    rw [decide_eq_false e]
    by_cases h10 : k < y * n
    · rw [if_pos h10]; simp
    · rw [if_neg h10, if_neg (by omega)]; simp
theorem mvTo_put (D : List (List (BitVec 64))) (ws : List (BitVec 64)) (n H y b : Nat) (hn : 1 ≤ n) (hD : ∀ j, j < D.length → (D.getD j []).length = H * n) (hy : y < H) (hb : b < D.length) (hl : ws.length = n)
    (h : ∀ i, i < n → ws.getD i 0#64 = (D.getD b []).getD (y * n + i) 0#64) :
    (mvTo D n y b).set b (splice ((mvTo D n y b).getD b []) (y * n) ws) = mvTo D n y (b + 1) := by
  rw [mvTo_row _ _ _ _ _ hb, decide_eq_false (Nat.lt_irrefl b), mvRow_put _ _ _ H _ hn (hD b hb) hy hl h]
  refine map_set_range _ _ _ _ _ hb (fun j hj hjb => ?_) ?_
  · by_cases h1 : j < b
    · rw [decide_eq_true h1, decide_eq_true (by omega)]
    · rw [decide_eq_false h1, decide_eq_false (by omega)]
  · rw [decide_eq_true (Nat.lt_succ_self b)]
/-- Row k of a plane. -/
def rowAt (l : List (BitVec 64)) (n k : Nat) : List (BitVec 64) := (l.drop (k * n)).take n
theorem rowAt_length (l : List (BitVec 64)) (n H k : Nat) (hl : l.length = H * n) (hk : k < H) : (rowAt l n k).length = n := by
  unfold rowAt
  rw [List.length_take, List.length_drop, hl]
  have := Nat.mul_le_mul_right n (show k + 1 ≤ H by omega)
  rw [Nat.add_mul, Nat.one_mul] at this
  omega
theorem rowAt_get (l : List (BitVec 64)) (n k i : Nat) (hi : i < n) : (rowAt l n k).getD i 0#64 = l.getD (k * n + i) 0#64 := by
  unfold rowAt
  rw [List.getD_eq_getElem?_getD, List.getElem?_take_of_lt hi, List.getElem?_drop, List.getD_eq_getElem?_getD]
theorem rbit_row (l : List (BitVec 64)) (n k a : Nat) (ha : a / 64 < n) : rbit (rowAt l n k) (a : Int) = bitW n l a k := by
  unfold rbit bitW
  rw [decide_eq_true (by omega), Bool.true_and, Int.toNat_natCast, rowAt_get _ _ _ _ ha]
theorem shF_get (row : List (BitVec 64)) (W : Nat) (dx e : Int) (i : Nat) (hi : i < row.length) : (shF row W dx e).getD i 0#64 = mkW (fun t => decide (64 * i + t < W) && tgtB row W dx e (64 * i + t)) := by
  unfold shF
  rw [List.getD_eq_getElem?_getD, List.getElem?_map, List.getElem?_range hi]; rfl
theorem moveP_plane_len (p : Pln) (dx dy : Int) (b : Nat) (hb : b < p.words.length) : ((moveP p dx dy).words.getD b []).length = p.h.toNat * wpr p.w.toNat := by
  unfold moveP
  rw [pack_get _ _ _ hb]
  exact planeF_length _ _ _ _
theorem moveP_bit {p : Pln} (h : rightPl p = true) (dx dy : Int) (b y i t : Nat) (hb : b < p.words.length) (hy : y < p.h.toNat) (hi : i < wpr p.w.toNat) (ht : t < 64) :
    (((moveP p dx dy).words.getD b []).getD (y * wpr p.w.toNat + i) 0#64).getLsbD t = (decide (64 * i + t < p.w.toNat) && (decide (0 ≤ atF (((64 * i + t : Nat) : Int) + dx) p.w p.edge ∧ 0 ≤ atF ((y : Int) + dy) p.h p.edge) && bitW (wpr p.w.toNat) (p.words.getD b []) (atF (((64 * i + t : Nat) : Int) + dx) p.w p.edge).toNat (atF ((y : Int) + dy) p.h p.edge).toNat)) := by
  by_cases hx : 64 * i + t < p.w.toNat
  · have hm := move_bit h dx dy b (64 * i + t) y hb hx hy
    rw [decide_eq_true hx, Bool.true_and, ← hm, bitW, show (64 * i + t) / 64 = i by omega, show (64 * i + t) % 64 = t by omega]
  · rw [decide_eq_false hx, Bool.false_and]
    have e1 : (moveP p dx dy).words.getD b [] = planeF p.w.toNat p.h.toNat (movedG p dx dy).cells b := by
      unfold moveP
      rw [pack_get _ _ _ hb]; rfl
    obtain ⟨a1, a2⟩ := row_at (n := wpr p.w.toNat) (y := y) hi
    rw [e1, planeF_get _ _ _ _ _ (row_lt hi hy), mkW_get, a1, a2, decide_eq_false hx]; simp
/-- The row that comes out of shifted is the moved planes' row. -/
theorem move_row {p : Pln} (h : rightPl p = true) (dx dy : Int) (b y i k : Nat) (hb : b < p.words.length) (hy : y < p.h.toNat) (hi : i < wpr p.w.toNat) (hk : atF ((y : Int) + dy) p.h p.edge = (k : Int)) :
    (shF (rowAt (p.words.getD b []) (wpr p.w.toNat) k) p.w.toNat dx p.edge).getD i 0#64 = ((moveP p dx dy).words.getD b []).getD (y * wpr p.w.toNat + i) 0#64 := by
  obtain ⟨hs, hn, hpl⟩ := rightPl_parts h
  obtain ⟨s1, s2, _⟩ := sizedF_parts hs
  have hW : 1 ≤ p.w.toNat := by omega
  obtain ⟨w1, w2, w3⟩ := wpr_bd hW
  have hkb := atF_bd ((y : Int) + dy) p.h p.edge (by omega)
  have hkh : k < p.h.toNat := by omega
  have hwz : ((p.w.toNat : Nat) : Int) = p.w := Int.toNat_of_nonneg (by omega)
  have hrl := rowAt_length _ _ p.h.toNat k (planeOk_parts (hpl b hb)).1 hkh
  rw [shF_get _ _ _ _ _ (by rw [hrl]; exact hi)]
  apply word_ext
  intro t ht
  rw [mkW_get, decide_eq_true ht, Bool.true_and, moveP_bit h dx dy b y i t hb hy hi ht, hk]
  by_cases hx : 64 * i + t < p.w.toNat
  · rw [decide_eq_true hx, Bool.true_and, Bool.true_and]
    unfold tgtB
    rw [hwz]
    have hab := atF_bd (((64 * i + t : Nat) : Int) + dx) p.w p.edge (by omega)
    generalize atF (((64 * i + t : Nat) : Int) + dx) p.w p.edge = a at hab
    by_cases ha : 0 ≤ a
    · obtain ⟨m, rfl⟩ : ∃ m : Nat, a = (m : Int) := ⟨a.toNat, by omega⟩
      rw [decide_eq_true ha, decide_eq_true ⟨ha, by omega⟩, Bool.true_and, Bool.true_and, Int.toNat_natCast, Int.toNat_natCast, rbit_row _ _ _ _ (by omega)]
    · rw [decide_eq_false ha, decide_eq_false (fun x => ha x.1)]; simp
  · rw [decide_eq_false hx]; simp
theorem move_none {p : Pln} (h : rightPl p = true) (dx dy : Int) (b y i : Nat) (hb : b < p.words.length) (hy : y < p.h.toNat) (hi : i < wpr p.w.toNat) (hk : atF ((y : Int) + dy) p.h p.edge < 0) :
    ((moveP p dx dy).words.getD b []).getD (y * wpr p.w.toNat + i) 0#64 = 0#64 := by
  apply word_ext
  intro t ht
  rw [moveP_bit h dx dy b y i t hb hy hi ht, decide_eq_false (p := _ ∧ _) (fun x => by omega)]
  simp
end Go.Proofs.Ytfknooffjhncgaa
