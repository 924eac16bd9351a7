/-
  Plain: each bit of what a circuit computes over words is what it computes over that bit.
-/
import Derived.Test.YthmkcckoeodhnaaCRunG
namespace Go.Proofs.Ythmkcckoeodhnaa
open Go.RowKit
set_option linter.unusedSimpArgs false
set_option linter.unusedVariables false

def bitOf (b : Nat) (x : BitVec 64) : Bool := x.getLsbD b
theorem evalW_bit (op : Int) (x y : BitVec 64) (b : Nat) (hb : b < 64) : bitOf b (evalW op x y) = evalB op (bitOf b x) (bitOf b y) := by
  unfold bitOf evalW evalB
  split
  · rw [BitVec.getLsbD_allOnes]; simp [hb]
  · split
    · simp [hb]
    · split
      · simp
      · split
        · simp
        · split
          · simp
          · simp
theorem getD_map_bit (vs : List (BitVec 64)) (b k : Nat) : (vs.map (bitOf b)).getD k false = bitOf b (vs.getD k 0) := by
  simp only [List.getD_eq_getElem?_getD, List.getElem?_map]
  cases vs[k]? <;> simp [bitOf]
theorem runG_bit (gs : List Gt) (vs : List (BitVec 64)) (b : Nat) (hb : b < 64) : (runG evalW 0 gs vs).map (bitOf b) = runG evalB false gs (vs.map (bitOf b)) := by
  induction gs generalizing vs with
  | nil => rfl
  | cons g l ih =>
    have h1 : runG evalW 0 (g :: l) vs = runG evalW 0 l (vs ++ [evalW g.op (vs.getD g.a.toNat 0) (vs.getD g.b.toNat 0)]) := rfl
    have h2 : runG evalB false (g :: l) (vs.map (bitOf b)) = runG evalB false l (vs.map (bitOf b) ++ [evalB g.op ((vs.map (bitOf b)).getD g.a.toNat false) ((vs.map (bitOf b)).getD g.b.toNat false)]) := rfl
    rw [h1, h2, ih, List.map_append, List.map_cons, List.map_nil, evalW_bit _ _ _ _ hb, getD_map_bit, getD_map_bit]
theorem outsG_bit (c : Circ) (vs : List (BitVec 64)) (b : Nat) (hb : b < 64) : (outsG evalW 0 c vs).map (bitOf b) = outsG evalB false c (vs.map (bitOf b)) := by
  simp only [outsG, List.map_map]
  apply List.map_congr_left
  intro o _
  simp only [Function.comp]
  rw [← runG_bit _ _ _ hb, getD_map_bit]
/-- The bits of x below b. -/
def low (b : Nat) (x : BitVec 64) : BitVec 64 := BitVec.ofNat 64 (x.toNat % 2 ^ b)
theorem low_bit (b k : Nat) (x : BitVec 64) : (low b x).getLsbD k = (decide (k < b) && x.getLsbD k) := by
  unfold low
  rw [BitVec.getLsbD_ofNat, Nat.testBit_mod_two_pow, BitVec.testBit_toNat]
  by_cases h : k < 64
  · simp [h]
  · simp [h, BitVec.getLsbD_of_ge x k (by omega)]
theorem low_zero (x : BitVec 64) : low 0 x = 0 := by
  apply BitVec.eq_of_getLsbD_eq
  intro i hi
  rw [low_bit]; simp
theorem low_all (x : BitVec 64) : low 64 x = x := by
  apply BitVec.eq_of_getLsbD_eq
  intro i hi
  rw [low_bit]; simp [hi]
theorem low_succ_true (b : Nat) (x : BitVec 64) (h : bitOf b x = true) : low (b + 1) x = low b x ||| ((1 : BitVec 64) <<< b) := by
  apply BitVec.eq_of_getLsbD_eq
  intro i hi
  unfold bitOf at h
  rw [BitVec.getLsbD_or, low_bit, low_bit, BitVec.getLsbD_shiftLeft, show (1 : BitVec 64) = 1#64 from rfl, BitVec.getLsbD_one]
  by_cases h1 : i < b
  · simp [h1, show i < b + 1 by omega]
  · by_cases h2 : i = b
    · subst h2; simp [h, hi]
    · simp [h1, show ¬ i < b + 1 by omega]; omega
theorem low_succ_false (b : Nat) (x : BitVec 64) (h : bitOf b x = false) : low (b + 1) x = low b x := by
  apply BitVec.eq_of_getLsbD_eq
  intro i hi
  unfold bitOf at h
  rw [low_bit, low_bit]
  by_cases h1 : i < b
  · simp [h1, show i < b + 1 by omega]
  · by_cases h2 : i = b
    · subst h2; simp [h]
    · simp [h1, show ¬ i < b + 1 by omega]
section
variable {α β : Type} (f g : α → β) (h : β → Value) (l : List α) (d : α)
/-- A row half rewritten: the first k places bear f, the others still g. -/
def mix (k : Nat) : List β := (l.take k).map f ++ (l.drop k).map g
theorem mix_zero : mix f g l 0 = l.map g := by simp [mix]
theorem mix_all : mix f g l l.length = l.map f := by simp [mix]
theorem mix_at (k : Nat) (hk : k < l.length) : ((mix f g l k).map h)[k]? = some (h (g (l.getD k d))) := by
  unfold mix
  have hl : ((l.take k).map f).length = k := by simp; omega
  rw [List.map_append, List.getElem?_append_right (by simp; omega)]
  simp [List.getElem?_drop, List.getD_eq_getElem?_getD, List.getElem?_eq_getElem hk, Nat.min_eq_left (Nat.le_of_lt hk)]
theorem mix_set (k : Nat) (hk : k < l.length) : ((mix f g l k).map h).set k (h (f (l.getD k d))) = (mix f g l (k + 1)).map h := by
  unfold mix
  apply List.ext_getElem?
  intro i
  rw [List.getElem?_set]
  have hd : l.getD k d = l[k] := by simp [List.getD_eq_getElem?_getD, List.getElem?_eq_getElem hk]
  have hlen : (List.map h (List.map f (List.take k l) ++ List.map g (List.drop k l))).length = l.length := by simp; omega
  rw [hlen, hd]
  by_cases hi : k = i
  · subst hi
    rw [if_pos rfl, if_pos hk, List.map_append, List.getElem?_append_left (by simp; omega)]
    simp [List.getElem?_take, List.getElem?_eq_getElem hk]
  · rw [if_neg hi, List.map_append, List.map_append]
    by_cases h1 : i < k
    · rw [List.getElem?_append_left (by simp; omega), List.getElem?_append_left (by simp; omega)]
      simp [List.getElem?_take, h1, show i < k + 1 by omega]
    · rw [List.getElem?_append_right (by simp; omega), List.getElem?_append_right (by simp; omega)]
      simp only [List.getElem?_map, List.getElem?_drop, List.length_map, List.length_take]
      rw [Nat.min_eq_left (by omega), Nat.min_eq_left (by omega), show k + (i - k) = i by omega, show k + 1 + (i - (k + 1)) = i by omega]
end
theorem outsG_at {α : Type} (f : Int → α → α → α) (d : α) (c : Circ) (vs : List α) (k : Nat) (hk : k < c.outs.length) :
    (outsG f d c vs).getD k d = (runG f d c.gates vs).getD (c.outs.getD k 0).toNat d := by
  simp [outsG, List.getD_eq_getElem?_getD, List.getElem?_map, List.getElem?_eq_getElem hk]
end Go.Proofs.Ythmkcckoeodhnaa
