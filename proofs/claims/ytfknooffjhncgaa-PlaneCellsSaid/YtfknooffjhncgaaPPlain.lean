/-
  Bit planes as plain data, and what the functions of package plane and of its reference compute. Nothing of the program stands here.
-/
import Derived.Test.YtfknooffjhncgaaGPlain
namespace Go.Proofs.Ytfknooffjhncgaa
open Go.RowKit
set_option linter.unusedSimpArgs false
set_option linter.unusedVariables false

structure Pln where
  w : Int
  h : Int
  edge : Int
  words : List (List (BitVec 64))
def noPln : Pln := ⟨0, 0, 0, []⟩
def samePl (a b : Pln) : Bool := decide (a.w = b.w ∧ a.h = b.h ∧ a.edge = b.edge ∧ a.words = b.words)
theorem samePl_self (a : Pln) : samePl a a = true := decide_eq_true ⟨rfl, rfl, rfl, rfl⟩
theorem samePl_iff (a b : Pln) : samePl a b = true ↔ a = b := by
  unfold samePl
  rw [decide_eq_true_iff]
  constructor
  · intro h; cases a; cases b; simp only at h; rw [h.1, h.2.1, h.2.2.1, h.2.2.2]
  · rintro rfl; exact ⟨rfl, rfl, rfl, rfl⟩

/- Words by their bits. -/
def mkB (f : Nat → Bool) : Nat → BitVec 64
  | 0 => 0#64
  | k + 1 => mkB f k ||| (if f k = true then BitVec.twoPow 64 k else 0#64)
def mkW (f : Nat → Bool) : BitVec 64 := mkB f 64
theorem mkB_get (f : Nat → Bool) (k i : Nat) (hk : k ≤ 64) : (mkB f k).getLsbD i = (decide (i < k) && f i) := by
  induction k with
  | zero => simp [mkB]
  | succ k ih =>
    rw [mkB, BitVec.getLsbD_or, ih (by omega)]
    by_cases h : i = k
    · subst h
      cases hf : f i
      · simp
      · simp [BitVec.getLsbD_twoPow]; omega
    · by_cases hik : i < k
      · have : i < k + 1 := by omega
        cases hf : f k
        · simp [hik, this]
        · simp [hik, this, BitVec.getLsbD_twoPow]
          cases f i <;> simp
          omega
      · have : ¬ i < k + 1 := by omega
        cases hf : f k
        · simp [hik, this]
        · simp [hik, this, BitVec.getLsbD_twoPow]
          omega
theorem mkW_get (f : Nat → Bool) (i : Nat) : (mkW f).getLsbD i = (decide (i < 64) && f i) := mkB_get f 64 i (Nat.le_refl _)
theorem word_ext {a b : BitVec 64} (h : ∀ i, i < 64 → a.getLsbD i = b.getLsbD i) : a = b := BitVec.eq_of_getLsbD_eq (fun i hi => h i hi)

/-- The number of words of a row of W cells. -/
def wpr (W : Nat) : Nat := (W + 63) / 64
theorem wpr_bd {W : Nat} (h : 1 ≤ W) : 1 ≤ wpr W ∧ 64 * (wpr W - 1) < W ∧ W ≤ 64 * wpr W := by unfold wpr; omega
def bitW (n : Nat) (l : List (BitVec 64)) (x y : Nat) : Bool := (l.getD (y * n + x / 64) 0#64).getLsbD (x % 64)
/-- The bits behind a row are 0. -/
def padOk (W n : Nat) (l : List (BitVec 64)) (y : Nat) : Bool := (List.range 64).all (fun j => decide (W ≤ 64 * (n - 1) + j → (l.getD (y * n + (n - 1)) 0#64).getLsbD j = false))
theorem padOk_iff (W n : Nat) (l : List (BitVec 64)) (y : Nat) : padOk W n l y = true ↔ ∀ j, j < 64 → W ≤ 64 * (n - 1) + j → (l.getD (y * n + (n - 1)) 0#64).getLsbD j = false := by
  unfold padOk
  rw [List.all_eq_true]
  constructor
  · intro h j hj
    exact of_decide_eq_true (h j (List.mem_range.2 hj))
  · intro h j hj
    exact decide_eq_true (h j (List.mem_range.1 hj))
def planeOk (W H : Nat) (l : List (BitVec 64)) : Bool := decide (l.length = H * wpr W) && decide (∀ y, y < H → padOk W (wpr W) l y = true)
theorem planeOk_parts {W H : Nat} {l : List (BitVec 64)} (h : planeOk W H l = true) : l.length = H * wpr W ∧ ∀ y, y < H → ∀ j, j < 64 → W ≤ 64 * (wpr W - 1) + j → (l.getD (y * wpr W + (wpr W - 1)) 0#64).getLsbD j = false := by
  simp only [planeOk, Bool.and_eq_true, decide_eq_true_eq] at h
  exact ⟨h.1, fun y hy j hj hw => (padOk_iff _ _ _ _).1 (h.2 y hy) j hj hw⟩
theorem planeOk_mk {W H : Nat} {l : List (BitVec 64)} (h1 : l.length = H * wpr W) (h2 : ∀ y, y < H → ∀ j, j < 64 → W ≤ 64 * (wpr W - 1) + j → (l.getD (y * wpr W + (wpr W - 1)) 0#64).getLsbD j = false) : planeOk W H l = true := by
  simp only [planeOk, Bool.and_eq_true, decide_eq_true_eq]
  exact ⟨h1, fun y hy => (padOk_iff _ _ _ _).2 (fun j hj hw => h2 y hy j hj hw)⟩
/-- Two planes of a size are one where their bits are. -/
theorem plane_ext {W H : Nat} {a b : List (BitVec 64)} (hW : 1 ≤ W) (ha : planeOk W H a = true) (hb : planeOk W H b = true) (h : ∀ x y, x < W → y < H → bitW (wpr W) a x y = bitW (wpr W) b x y) : a = b := by
  obtain ⟨la, pa⟩ := planeOk_parts ha
  obtain ⟨lb, pb⟩ := planeOk_parts hb
  obtain ⟨n1, n2, n3⟩ := wpr_bd hW
  generalize hn : wpr W = n at *
  apply List.ext_getElem (by omega)
  intro k hk hk'
  have hkn : k < H * n := by omega
  have hy : k / n < H := Nat.div_lt_of_lt_mul (by rw [Nat.mul_comm]; exact hkn)
  have hdm : k / n * n + k % n = k := Nat.div_add_mod' k n
  have hm : k % n < n := Nat.mod_lt _ (by omega)
  have ga : a.getD k 0#64 = a[k] := by rw [List.getD_eq_getElem?_getD, List.getElem?_eq_getElem hk]; rfl
  have gb : b.getD k 0#64 = b[k] := by rw [List.getD_eq_getElem?_getD, List.getElem?_eq_getElem hk']; rfl
  rw [← ga, ← gb]
  apply word_ext
  intro j hj
  by_cases hx : 64 * (k % n) + j < W
  · have := h (64 * (k % n) + j) (k / n) hx hy
    unfold bitW at this
    rw [show (64 * (k % n) + j) / 64 = k % n by omega, show (64 * (k % n) + j) % 64 = j by omega, hdm] at this
    exact this
  · have hl : k % n = n - 1 := by omega
    have e1 := pa (k / n) hy j hj (by rw [← hl]; omega)
    have e2 := pb (k / n) hy j hj (by rw [← hl]; omega)
    rw [← hl, hdm] at e1 e2
    rw [e1, e2]

def rightPl (p : Pln) : Bool := sizedF p.w p.h p.edge && (decide (1 ≤ p.words.length ∧ p.words.length ≤ 3) && p.words.all (planeOk p.w.toNat p.h.toNat))
theorem rightPl_parts {p : Pln} (h : rightPl p = true) : sizedF p.w p.h p.edge = true ∧ (1 ≤ p.words.length ∧ p.words.length ≤ 3) ∧ ∀ b, b < p.words.length → planeOk p.w.toNat p.h.toNat (p.words.getD b []) = true := by
  simp only [rightPl, Bool.and_eq_true, decide_eq_true_eq, List.all_eq_true] at h
  refine ⟨h.1, h.2.1, fun b hb => h.2.2 _ ?_⟩
  rw [List.getD_eq_getElem?_getD, List.getElem?_eq_getElem hb]
  exact List.getElem_mem hb

/- Cells to planes. -/
def tbit (s : Int) (b : Nat) : Bool := decide (s / 2 ^ b % 2 = 1)
def planeF (W H : Nat) (cs : List Int) (b : Nat) : List (BitVec 64) :=
  (List.range (H * wpr W)).map (fun k => mkW (fun j => decide (64 * (k % wpr W) + j < W) && tbit (cs.getD (k / wpr W * W + (64 * (k % wpr W) + j)) 0) b))
def packErr (g : Grd) (bits : Int) : Int := if rightG g = true ∧ 1 ≤ bits ∧ bits ≤ 3 then (if g.cells.all (fun s => decide (s < 2 ^ bits.toNat)) = true then 0 else 10) else 2
def packP (g : Grd) (nb : Nat) : Pln := ⟨g.w, g.h, g.edge, (List.range nb).map (planeF g.w.toNat g.h.toNat g.cells)⟩
def packR (g : Grd) (bits : Int) : Pln := if packErr g bits = 0 then packP g bits.toNat else noPln
theorem planeF_length (W H : Nat) (cs : List Int) (b : Nat) : (planeF W H cs b).length = H * wpr W := by simp [planeF]
theorem planeF_get (W H : Nat) (cs : List Int) (b k : Nat) (hk : k < H * wpr W) : (planeF W H cs b).getD k 0#64 = mkW (fun j => decide (64 * (k % wpr W) + j < W) && tbit (cs.getD (k / wpr W * W + (64 * (k % wpr W) + j)) 0) b) := by
  unfold planeF
  rw [List.getD_eq_getElem?_getD, List.getElem?_map, List.getElem?_range hk]; rfl
theorem row_at {n y i : Nat} (hi : i < n) : (y * n + i) / n = y ∧ (y * n + i) % n = i := by
  constructor
  · rw [Nat.mul_comm, Nat.mul_add_div (by omega), Nat.div_eq_of_lt hi, Nat.add_zero]
  · rw [Nat.mul_comm, Nat.mul_add_mod, Nat.mod_eq_of_lt hi]
theorem row_lt {n H y i : Nat} (hi : i < n) (hy : y < H) : y * n + i < H * n := by
  have := Nat.mul_le_mul_right n (show y + 1 ≤ H by omega)
  rw [Nat.add_mul, Nat.one_mul] at this
  omega
theorem planeF_bit {W H : Nat} (cs : List Int) (b x y : Nat) (hW : 1 ≤ W) (hx : x < W) (hy : y < H) : bitW (wpr W) (planeF W H cs b) x y = tbit (cs.getD (y * W + x) 0) b := by
  obtain ⟨n1, n2, n3⟩ := wpr_bd hW
  have hi : x / 64 < wpr W := by omega
  obtain ⟨e1, e2⟩ := row_at (y := y) hi
  rw [bitW, planeF_get _ _ _ _ _ (row_lt hi hy), mkW_get, e1, e2, show 64 * (x / 64) + x % 64 = x by omega]
  simp [hx]; omega
theorem planeF_ok {W H : Nat} (cs : List Int) (b : Nat) (hW : 1 ≤ W) : planeOk W H (planeF W H cs b) = true := by
  obtain ⟨n1, n2, n3⟩ := wpr_bd hW
  refine planeOk_mk (planeF_length _ _ _ _) (fun y hy j hj hw => ?_)
  obtain ⟨e1, e2⟩ := row_at (n := wpr W) (y := y) (i := wpr W - 1) (by omega)
  rw [planeF_get _ _ _ _ _ (row_lt (by omega) hy), mkW_get, e1, e2]
  simp; omega

/- Planes to cells. -/
def stateTo (n : Nat) (ws : List (List (BitVec 64))) (x y : Nat) : Nat → Int
  | 0 => 0
  | b + 1 => stateTo n ws x y b + (if bitW n (ws.getD b []) x y = true then 2 ^ b else 0)
theorem stateTo_bd (n : Nat) (ws : List (List (BitVec 64))) (x y b : Nat) : 0 ≤ stateTo n ws x y b ∧ stateTo n ws x y b < 2 ^ b := by
  induction b with
  | zero => simp [stateTo]
  | succ b ih =>
    simp only [stateTo, Int.pow_succ]
    split <;> omega
theorem stateTo_bit (n : Nat) (ws : List (List (BitVec 64))) (x y m b : Nat) (hb : b < m) : tbit (stateTo n ws x y m) b = bitW n (ws.getD b []) x y := by
  induction m with
  | zero => omega
  | succ m ih =>
    have hbd := stateTo_bd n ws x y m
    simp only [stateTo]
    by_cases e : b = m
    · subst e
      unfold tbit
      have hp : (0 : Int) < 2 ^ b := Int.pow_pos (by omega)
      cases hc : bitW n (ws.getD b []) x y
      · simp [Int.ediv_eq_zero_of_lt hbd.1 hbd.2]
      · simp only [if_true]
        rw [Int.add_ediv_of_dvd_right (Int.dvd_refl _), Int.ediv_eq_zero_of_lt hbd.1 hbd.2, Int.ediv_self (by omega)]
        decide
    · rw [← ih (by omega)]
      cases hc : bitW n (ws.getD m []) x y
      · simp
      · simp only [if_true]
        unfold tbit
        have h2 : (2 : Int) ^ m = 2 ^ b * (2 * 2 ^ (m - b - 1)) := by
          rw [← Int.mul_assoc, ← Int.pow_succ, ← Int.pow_add, show b + 1 + (m - b - 1) = m by omega]
        have hp : (2 : Int) ^ b ≠ 0 := by have : (0 : Int) < 2 ^ b := Int.pow_pos (by omega); omega
        rw [h2, Int.add_mul_ediv_left _ _ hp]
        have : ∀ a c : Int, (a + 2 * c) % 2 = a % 2 := fun a c => by omega
        rw [this]
def cellsP (p : Pln) : List Int := (List.range (p.h.toNat * p.w.toNat)).map (fun i => stateTo (wpr p.w.toNat) p.words (i % p.w.toNat) (i / p.w.toNat) p.words.length)
def unpackG (p : Pln) : Grd := ⟨p.w, p.h, p.edge, cellsP p⟩
def unpackErr (p : Pln) : Int := if rightPl p = true then 0 else 2
def unpackR (p : Pln) : Grd := if rightPl p = true then unpackG p else noGrd
theorem cellsP_length (p : Pln) : (cellsP p).length = p.h.toNat * p.w.toNat := by simp [cellsP]
theorem cellsP_get (p : Pln) (x y : Nat) (hx : x < p.w.toNat) (hy : y < p.h.toNat) : (cellsP p).getD (y * p.w.toNat + x) 0 = stateTo (wpr p.w.toNat) p.words x y p.words.length := by
  unfold cellsP
  obtain ⟨e1, e2⟩ := row_at (y := y) hx
  rw [List.getD_eq_getElem?_getD, List.getElem?_map, List.getElem?_range (row_lt hx hy), Option.map_some, Option.getD_some, e1, e2]
theorem unpack_right {p : Pln} (h : rightPl p = true) : rightG (unpackG p) = true := by
  obtain ⟨hs, hn, _⟩ := rightPl_parts h
  obtain ⟨h1, h2, _⟩ := sizedF_parts hs
  simp only [rightG, Bool.and_eq_true, decide_eq_true_eq, List.all_eq_true]
  refine ⟨hs, ?_, ?_⟩
  · show ((cellsP p).length : Int) = p.w * p.h
    rw [cellsP_length, Int.natCast_mul, Int.toNat_of_nonneg (by omega), Int.toNat_of_nonneg (by omega), Int.mul_comm]
  · intro s hs
    obtain ⟨i, _, rfl⟩ := List.mem_map.1 hs
    have hb := stateTo_bd (wpr p.w.toNat) p.words (i % p.w.toNat) (i / p.w.toNat) p.words.length
    have : (2 : Int) ^ p.words.length ≤ 8 := by
      have hc : p.words.length = 1 ∨ p.words.length = 2 ∨ p.words.length = 3 := by omega
      rcases hc with e | e | e <;> rw [e] <;> decide
    exact decide_eq_true (by omega)
/-- Packing what was unpacked. -/
theorem pack_unpack {p : Pln} (h : rightPl p = true) : packErr (unpackG p) p.words.length = 0 ∧ packP (unpackG p) p.words.length = p := by
  obtain ⟨hs, hn, hb⟩ := rightPl_parts h
  obtain ⟨h1, h2, _⟩ := sizedF_parts hs
  constructor
  · unfold packErr
    rw [if_pos ⟨unpack_right h, by omega, by omega⟩, if_pos]
    rw [List.all_eq_true]
    intro s hs
    obtain ⟨i, _, rfl⟩ := List.mem_map.1 hs
    exact decide_eq_true (by rw [Int.toNat_natCast]; exact (stateTo_bd _ _ _ _ _).2)
  · have hW : 1 ≤ p.w.toNat := by omega
    have key : (List.range p.words.length).map (planeF p.w.toNat p.h.toNat (cellsP p)) = p.words := by
      apply List.ext_getElem (by simp)
      intro b hb1 hb2
      rw [List.getElem_map, List.getElem_range]
      have hg : p.words[b] = p.words.getD b [] := by rw [List.getD_eq_getElem?_getD, List.getElem?_eq_getElem hb2]; rfl
      rw [hg]
      refine plane_ext hW (planeF_ok _ _ hW) (hb b hb2) (fun x y hx hy => ?_)
      rw [planeF_bit _ _ _ _ hW hx hy, cellsP_get p x y hx hy, stateTo_bit _ _ _ _ _ _ hb2]
    show (⟨p.w, p.h, p.edge, _⟩ : Pln) = p
    rw [show (unpackG p).cells = cellsP p from rfl, show (unpackG p).w = p.w from rfl, show (unpackG p).h = p.h from rfl, key]
end Go.Proofs.Ytfknooffjhncgaa
