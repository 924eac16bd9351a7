/-
 A part.
-/
import Derived.Test.YtiemhbogbaamlaaYE2
import Derived.Test.YtiemhbogbaamlaaYE23
import Derived.Test.YtiemhbogbaamlaaYE24
import Derived.Test.YtiemhbogbaamlaaYE11
import Derived.Test.YtiemhbogbaamlaaYE7
import Derived.Deep.QuietTactic
import Derived.BigQuiet
import Derived.Deep.Light
import Derived.Test.YtiemhbogbaamlaaYE26
namespace Go.Proofs.Ytiemhbogbaamlaa
open Go.RowKit
set_option linter.unusedSimpArgs false
set_option linter.unusedVariables false
def rbit (row : List (BitVec 64)) (j : Int) : Bool := decide (0 ≤ j) && (row.getD (j.toNat / 64) 0#64).getLsbD (j.toNat % 64)
def shA (row : List (BitVec 64)) (step : Int) (rest i : Nat) : BitVec 64 :=
 if 0 ≤ (i : Int) + step ∧ (i : Int) + step < row.length then row.getD ((i : Int) + step).toNat 0#64 >>> rest else 0#64
def shB (row : List (BitVec 64)) (step : Int) (rest i : Nat) : BitVec 64 :=
 if 0 < rest ∧ 0 ≤ (i : Int) + step + 1 ∧ (i : Int) + step + 1 < row.length then row.getD ((i : Int) + step + 1).toNat 0#64 <<< (64 - rest) else 0#64
theorem getD_out (row : List (BitVec 64)) (k : Nat) (h : row.length ≤ k) : row.getD k 0#64 = 0#64 := by
 rw [List.getD_eq_getElem?_getD, List.getElem?_eq_none h]; rfl
theorem shA_eq (row : List (BitVec 64)) (step : Int) (rest i : Nat) : shA row step rest i = if 0 ≤ (i : Int) + step then row.getD ((i : Int) + step).toNat 0#64 >>> rest else 0#64 := by
 unfold shA
 by_cases h : 0 ≤ (i : Int) + step
 ·rw [if_pos h]
  by_cases h2 : (i : Int) + step < row.length
  ·rw [if_pos ⟨h, h2⟩]
  ·rw [if_neg (fun x => h2 x.2), getD_out _ _ (by omega)]; simp
 ·rw [if_neg h, if_neg (fun x => h x.1)]
theorem shB_eq (row : List (BitVec 64)) (step : Int) (rest i : Nat) : shB row step rest i = if 0 < rest ∧ 0 ≤ (i : Int) + step + 1 then row.getD ((i : Int) + step + 1).toNat 0#64 <<< (64 - rest) else 0#64 := by
 unfold shB
 by_cases h : 0 < rest ∧ 0 ≤ (i : Int) + step + 1
 ·rw [if_pos h]
  by_cases h2 : (i : Int) + step + 1 < row.length
  ·rw [if_pos ⟨h.1, h.2, h2⟩]
  ·rw [if_neg (fun x => h2 x.2.2), getD_out _ _ (by omega)]; simp
 ·rw [if_neg h, if_neg (fun x => h ⟨x.1, x.2.1⟩)]
theorem shAB_bit (row : List (BitVec 64)) (step : Int) (rest i t : Nat) (ht : t < 64) (hr : rest < 64) :
 (shA row step rest i ||| shB row step rest i).getLsbD t = rbit row (((64 * i + t : Nat) : Int) + (64 * step + rest)) := by
 rw [shA_eq, shB_eq, BitVec.getLsbD_or]
 unfold rbit
 by_cases h1 : t + rest < 64
 ·have hB : (if 0 < rest ∧ 0 ≤ (i : Int) + step + 1 then row.getD ((i : Int) + step + 1).toNat 0#64 <<< (64 - rest) else 0#64).getLsbD t = false := by
   split
   ·rw [BitVec.getLsbD_shiftLeft]
    have : t < 64 - rest := by omega
    simp [this]
   ·simp
  rw [hB, Bool.or_false]
  by_cases h2 : 0 ≤ (i : Int) + step
  ·obtain ⟨k, hk⟩ : ∃ k : Nat, (i : Int) + step = (k : Int) := ⟨_, (Int.toNat_of_nonneg h2).symm⟩
   have e : ((64 * i + t : Nat) : Int) + (64 * step + rest) = ((64 * k + (t + rest) : Nat) : Int) := by omega
   rw [if_pos h2, hk, Int.toNat_natCast, e, decide_eq_true (by omega), Bool.true_and, Int.toNat_natCast, show (64 * k + (t + rest)) / 64 = k by omega, show (64 * k + (t + rest)) % 64 = t + rest by omega, BitVec.getLsbD_ushiftRight, Nat.add_comm]
  ·rw [if_neg h2, decide_eq_false (by omega)]; simp
 ·have hA : (if 0 ≤ (i : Int) + step then row.getD ((i : Int) + step).toNat 0#64 >>> rest else 0#64).getLsbD t = false := by
   split
   ·rw [BitVec.getLsbD_ushiftRight]
    exact BitVec.getLsbD_of_ge _ _ (by omega)
   ·simp
  rw [hA, Bool.false_or]
  by_cases h2 : 0 ≤ (i : Int) + step + 1
  ·obtain ⟨k, hk⟩ : ∃ k : Nat, (i : Int) + step + 1 = (k : Int) := ⟨_, (Int.toNat_of_nonneg h2).symm⟩
   have e : ((64 * i + t : Nat) : Int) + (64 * step + rest) = ((64 * k + (t + rest - 64) : Nat) : Int) := by omega
   rw [if_pos ⟨by omega, h2⟩, hk, Int.toNat_natCast, e, decide_eq_true (by omega), Bool.true_and, Int.toNat_natCast, show (64 * k + (t + rest - 64)) / 64 = k by omega, show (64 * k + (t + rest - 64)) % 64 = t + rest - 64 by omega, BitVec.getLsbD_shiftLeft]
   have h3 : ¬ t < 64 - rest := by omega
   rw [show t - (64 - rest) = t + rest - 64 by omega]
   simp [ht, h3]
  ·rw [if_neg (fun x => h2 x.2), decide_eq_false (by omega)]; simp
def tgtB (row : List (BitVec 64)) (W : Nat) (dx : Int) (e : Int) (x : Nat) : Bool := decide (0 ≤ atF ((x : Int) + dx) W e) && rbit row (atF ((x : Int) + dx) W e)
theorem tgt_in (row : List (BitVec 64)) (W : Nat) (dx e : Int) (x : Nat) (h : 0 ≤ (x : Int) + dx ∧ (x : Int) + dx < W) : tgtB row W dx e x = rbit row ((x : Int) + dx) := by
 unfold tgtB atF
 rw [if_pos h, decide_eq_true h.1, Bool.true_and]
def shW (row : List (BitVec 64)) (W : Nat) (dx e : Int) (x0 i : Nat) : BitVec 64 := mkW (fun t => if 64 * i + t < x0 then tgtB row W dx e (64 * i + t) else rbit row (((64 * i + t : Nat) : Int) + dx))
def shTo (row : List (BitVec 64)) (W : Nat) (dx e : Int) (x0 : Nat) : List (BitVec 64) := (List.range row.length).map (shW row W dx e x0)
def shF (row : List (BitVec 64)) (W : Nat) (dx e : Int) : List (BitVec 64) := (List.range row.length).map (fun i => mkW (fun t => decide (64 * i + t < W) && tgtB row W dx e (64 * i + t)))
def shGo (row : List (BitVec 64)) (step : Int) (rest i : Nat) : List (BitVec 64) := (List.range row.length).map (fun j => if j < i then shA row step rest j ||| shB row step rest j else 0#64)
theorem shTo_length (row : List (BitVec 64)) (W : Nat) (dx e : Int) (x0 : Nat) : (shTo row W dx e x0).length = row.length := by simp [shTo]
theorem shGo_length (row : List (BitVec 64)) (step : Int) (rest i : Nat) : (shGo row step rest i).length = row.length := by simp [shGo]
theorem shF_length (row : List (BitVec 64)) (W : Nat) (dx e : Int) : (shF row W dx e).length = row.length := by simp [shF]
theorem shGo_zero (row : List (BitVec 64)) (step : Int) (rest : Nat) : shGo row step rest 0 = List.replicate row.length 0#64 := by
 unfold shGo
 apply List.ext_getElem (by simp)
 intro j h1 h2
 simp
theorem map_set_range {α} (n i : Nat) (f g : Nat → α) (x : α) (hi : i < n) (h1 : ∀ j, j < n → j ≠ i → f j = g j) (h2 : x = g i) : ((List.range n).map f).set i x = (List.range n).map g := by
 apply List.ext_getElem (by simp)
 intro j hj hj'
 rw [List.getElem_set]
 simp only [List.getElem_map, List.getElem_range]
 split
 ·rename_i e; subst e; exact h2
 ·rename_i e; exact h1 j (by simpa using hj') (fun h => e h.symm)
theorem shGo_set (row : List (BitVec 64)) (step : Int) (rest i : Nat) (x : BitVec 64) (hi : i < row.length) (hx : x = shA row step rest i ||| shB row step rest i) : (shGo row step rest i).set i x = shGo row step rest (i + 1) := by
 refine map_set_range _ _ _ _ _ hi (fun j _ hj => ?_) ?_
 ·by_cases h : j < i
  ·rw [if_pos h, if_pos (by omega)]
  ·rw [if_neg h, if_neg (by omega)]
 ·rw [if_pos (by omega)]; exact hx
theorem shGo_get (row : List (BitVec 64)) (step : Int) (rest i : Nat) (hi : i < row.length) : (shGo row step rest i).getD i 0#64 = 0#64 := by
 unfold shGo
 rw [List.getD_eq_getElem?_getD, List.getElem?_map, List.getElem?_range hi, Option.map_some, Option.getD_some, if_neg (Nat.lt_irrefl i)]
theorem shGo_all (row : List (BitVec 64)) (W : Nat) (step : Int) (rest : Nat) (dx e : Int) (hr : rest < 64) (hd : dx = 64 * step + rest) : shGo row step rest row.length = shTo row W dx e 0 := by
 unfold shGo shTo
 apply List.map_congr_left
 intro j hj
 rw [if_pos (List.mem_range.1 hj)]
 apply word_ext
 intro t ht
 rw [shAB_bit _ _ _ _ _ ht hr, shW, mkW_get, decide_eq_true ht, Bool.true_and, if_neg (Nat.not_lt_zero _), hd]
theorem shTo_get (row : List (BitVec 64)) (W : Nat) (dx e : Int) (x0 i : Nat) (hi : i < row.length) : (shTo row W dx e x0).getD i 0#64 = shW row W dx e x0 i := by
 unfold shTo
 rw [List.getD_eq_getElem?_getD, List.getElem?_map, List.getElem?_range hi]; rfl
theorem shTo_in (row : List (BitVec 64)) (W : Nat) (dx e : Int) (x : Nat) (h : 0 ≤ (x : Int) + dx ∧ (x : Int) + dx < W) : shTo row W dx e (x + 1) = shTo row W dx e x := by
 unfold shTo
 apply List.map_congr_left
 intro i _
 unfold shW
 congr 1
 funext t
 by_cases h1 : 64 * i + t < x
 ·rw [if_pos h1, if_pos (by omega)]
 ·by_cases h2 : 64 * i + t = x
  ·rw [if_neg h1, if_pos (by omega), h2, tgt_in _ _ _ _ _ h]
  ·rw [if_neg h1, if_neg (by omega)]
theorem shW_next (row : List (BitVec 64)) (W : Nat) (dx e : Int) (x : Nat) :
 (shW row W dx e x (x / 64) &&& ~~~(1#64 <<< (x % 64))) ||| (if tgtB row W dx e x = true then 1#64 <<< (x % 64) else 0#64) = shW row W dx e (x + 1) (x / 64) := by
 have hr : x % 64 < 64 := Nat.mod_lt _ (by omega)
 apply word_ext
 intro t ht
 rw [BitVec.getLsbD_or, BitVec.getLsbD_and, BitVec.getLsbD_not, shW, shW, mkW_get, mkW_get, decide_eq_true ht, Bool.true_and, Bool.true_and]
 by_cases e1 : t = x % 64
 ·subst e1
  have e2 : 64 * (x / 64) + x % 64 = x := by omega
  rw [e2, if_neg (Nat.lt_irrefl x), if_pos (Nat.lt_succ_self x)]
  generalize tgtB row W dx e x = v
  cases v <;> simp [hr]
 ·have hz : (1#64 <<< (x % 64)).getLsbD t = false := by
   rw [BitVec.getLsbD_shiftLeft, BitVec.getLsbD_one]
   by_cases h3 : t < x % 64
   ·simp [h3]
   ·have : ¬ (t - x % 64 = 0) := by omega
    simp [this]
  have hz2 : (if tgtB row W dx e x = true then 1#64 <<< (x % 64) else 0#64).getLsbD t = false := by
   split
   ·exact hz
   ·simp
  rw [hz, hz2, Bool.or_false]
  have hne : 64 * (x / 64) + t ≠ x := by omega
  by_cases h1 : 64 * (x / 64) + t < x
  ·rw [if_pos h1, if_pos (by omega)]; simp [ht]
  ·rw [if_neg h1, if_neg (by omega)]; simp [ht]
theorem shTo_next (row : List (BitVec 64)) (W : Nat) (dx e : Int) (x : Nat) (hx : x / 64 < row.length) (u : BitVec 64)
 (hu : u = (shW row W dx e x (x / 64) &&& ~~~(1#64 <<< (x % 64))) ||| (if tgtB row W dx e x = true then 1#64 <<< (x % 64) else 0#64)) : (shTo row W dx e x).set (x / 64) u = shTo row W dx e (x + 1) := by
 refine map_set_range _ _ _ _ _ hx (fun j _ hj => ?_) (hu.trans (shW_next row W dx e x))
 apply word_ext
 intro t ht
 rw [shW, shW, mkW_get, mkW_get]
 by_cases h1 : 64 * j + t < x
 ·rw [if_pos h1, if_pos (by omega)]
 ·rw [if_neg h1, if_neg (by omega)]
theorem shTo_end (row : List (BitVec 64)) (W : Nat) (dx e : Int) (h0 : W % 64 = 0) (hn : row.length = wpr W) : shTo row W dx e W = shF row W dx e := by
 unfold shTo shF
 apply List.map_congr_left
 intro i hi
 have hi := List.mem_range.1 hi
 rw [hn] at hi
 unfold wpr at hi
 apply word_ext
 intro t ht
 rw [shW, mkW_get, mkW_get, decide_eq_true ht, Bool.true_and, Bool.true_and, if_pos (by omega), decide_eq_true (by omega), Bool.true_and]
theorem mask_bit (r t : Nat) (hr : r < 64) (ht : t < 64) : ((1#64 <<< r) - 1#64).getLsbD t = decide (t < r) := by
 have h2 : (1#64 <<< r - 1#64).toNat = 2 ^ r - 1 := by
  have h3 : 2 ^ r < 2 ^ 64 := Nat.pow_lt_pow_right (by decide) hr
  have h4 : 0 < 2 ^ r := Nat.pow_pos (by decide)
  rw [BitVec.toNat_sub, BitVec.toNat_shiftLeft]
  simp only [BitVec.toNat_ofNat, Nat.shiftLeft_eq]
  omega
 rw [← BitVec.testBit_toNat, h2, Nat.testBit_two_pow_sub_one]
theorem shTo_last (row : List (BitVec 64)) (W : Nat) (dx e : Int) (h0 : W % 64 ≠ 0) (hn : row.length = wpr W) (u : BitVec 64) (hu : u = shW row W dx e W (row.length - 1) &&& ((1#64 <<< (W % 64)) - 1#64)) :
 (shTo row W dx e W).set (row.length - 1) u = shF row W dx e := by
 have hl : 1 ≤ row.length := by rw [hn]; unfold wpr; omega
 have hr : W % 64 < 64 := Nat.mod_lt _ (by omega)
 refine map_set_range _ _ _ _ _ (by omega) (fun j hj hjn => ?_) ?_
 ·apply word_ext
  intro t ht
  unfold wpr at hn
  rw [shW, mkW_get, mkW_get, decide_eq_true ht, Bool.true_and, Bool.true_and, if_pos (by omega), decide_eq_true (by omega), Bool.true_and]
 ·rw [hu]
  apply word_ext
  intro t ht
  unfold wpr at hn
  rw [BitVec.getLsbD_and, mask_bit _ _ hr ht, shW, mkW_get, mkW_get, decide_eq_true ht, Bool.true_and, Bool.true_and]
  by_cases h1 : t < W % 64
  ·rw [if_pos (by omega), decide_eq_true h1, decide_eq_true (by omega)]; simp
  ·rw [decide_eq_false h1, decide_eq_false (by omega)]; simp
end Go.Proofs.Ytiemhbogbaamlaa

/-
 A part.
-/
namespace Go.Proofs.Ytiemhbogbaamlaa
open Go.RowKit
set_option linter.unusedSimpArgs false
set_option linter.unusedVariables false
def inPair (v : Int) : Value := .tuple #[.int .i64 (if 0 ≤ v then v else 0), .bool (decide (0 ≤ v))]
theorem inPair_in {v : Int} (h : 0 ≤ v) : inPair v = .tuple #[.int .i64 v, .bool true] := by unfold inPair; rw [if_pos h, decide_eq_true h]
theorem inPair_out : inPair (-1) = .tuple #[.int .i64 0, .bool false] := rfl
set_option maxHeartbeats 1000000 in
theorem pInside_any (x s e : Int) (w : World) (h1 : 1 ≤ s) (h2 : s ≤ 256) (hx1 : -100000 ≤ x) (hx2 : x ≤ 100000) :
 Calls Try.prog 100 #[.int .i64 x, .int .i64 s, .int .i64 e] w fun en w' => en = .returned (inPair (atF x s e)) ∧ w = w' := by
 by_cases hx : 0 ≤ x ∧ x < s
 ·have hV : atF x s e = x := by unfold atF; rw [if_pos hx]
  obtain ⟨hx1, hx2⟩ := hx
  rw [hV, inPair_in hx1]
  clear hV
  go_enter Try.func100, Try.ntmps100
  go_wp2
  go_ret2
  exact ⟨rfl, rfl⟩
 ·by_cases e1 : e = 1
  ·subst e1
   have hV : atF x s 1 = x % s := by unfold atF; rw [if_neg hx, if_pos rfl]
   have hb := tmod_bd x s (by omega)
   have hm := mod_walk2 x s (by omega)
   have hm2 : Hid (Int.tmod x s % s = x % s) := by rw [Int.add_emod_right] at hm; exact hm
   obtain ⟨hb1, hb2⟩ := hb
   have hmb := mod_bd x s (by omega)
   rw [hV, inPair_in hmb.1]
   clear hV hm
   by_cases hx0 : 0 ≤ x
   ·generalize hk : x % s = k at hmb ⊢
    have hmb1 := hmb.1
    have hmb2 := hmb.2
    have hkk : k % s = k := Int.emod_eq_of_lt hmb1 hmb2
    clear hmb hm2 hb1 hb2
    go_enter Try.func100, Try.ntmps100
    go_wp2
    all_goals first | (exfalso; omega) | (go_ret2; exact ⟨ret_ib (by first | rfl | exact hkk | (rw [Int.add_emod_right]; exact hkk)) rfl, rfl⟩)
   ·clear hmb
    go_enter Try.func100, Try.ntmps100
    go_wp2
    all_goals first | (exfalso; omega) | (go_ret2; exact ⟨ret_ib hm2.out rfl, rfl⟩)
  ·by_cases e2 : e = 2
   ·subst e2
    have hV : atF x s 2 = foldF x s := by unfold atF; rw [if_neg hx, if_neg (by omega), if_pos rfl]
    have hb := tmod_bd x (2 * s) (by omega)
    have hm : (Int.tmod x (2 * s) + 2 * s) % (2 * s) = x % (2 * s) := mod_walk2 x (2 * s) (by omega)
    obtain ⟨hb1, hb2⟩ := hb
    have hfb := foldF_bd x s (by omega)
    have hf : foldF x s = min (x % (2 * s)) (2 * s - 1 - x % (2 * s)) := by unfold foldF; split <;> omega
    have hmb := mod_bd x (2 * s) (by omega)
    rw [hV, inPair_in hfb.1, hf]
    have hm2 := hm
    rw [Int.add_emod_right] at hm2
    generalize hk : x % (2 * s) = k at hm hm2 hmb ⊢
    have hmb1 := hmb.1
    have hmb2 := hmb.2
    clear hV hfb hf hmb
    by_cases hx0 : 0 ≤ x
    ·have hkk : k % (2 * s) = k := Int.emod_eq_of_lt hmb1 hmb2
     clear hm hm2 hb1 hb2
     go_enter Try.func100, Try.ntmps100
     go_wp2
     all_goals first | (exfalso; omega) | (go_ret2; refine ⟨ret_ib ?_ rfl, rfl⟩; omega)
    ·clear hk
     go_enter Try.func100, Try.ntmps100
     go_wp2
     all_goals first | (exfalso; omega) | (go_ret2; refine ⟨ret_ib ?_ rfl, rfl⟩; omega)
   ·have hV : atF x s e = -1 := by unfold atF; rw [if_neg hx, if_neg e1, if_neg e2]
    rw [hV, inPair_out]
    clear hV
    go_enter Try.func100, Try.ntmps100
    go_wp2
    all_goals first | (exfalso; omega) | (go_ret2; exact ⟨rfl, rfl⟩)
end Go.Proofs.Ytiemhbogbaamlaa

/-
 A part.
-/
namespace Go.Proofs.Ytiemhbogbaamlaa
open Go.RowKit
set_option linter.unusedSimpArgs false
set_option linter.unusedVariables false
def cellOf (W k t : Nat) : Nat := k / wpr W * W + (64 * (k % wpr W) + t)
def packW (W : Nat) (cs : List Int) (i : Nat) (inc : Bool) (j k : Nat) : BitVec 64 :=
 mkW (fun t => decide (64 * (k % wpr W) + t < W) && (decide (cellOf W k t < i) || (inc && decide (cellOf W k t = i))) && tbit (cs.getD (cellOf W k t) 0) j)
def packRow (W H : Nat) (cs : List Int) (i : Nat) (inc : Bool) (j : Nat) : List (BitVec 64) := (List.range (H * wpr W)).map (packW W cs i inc j)
def packTo (W H : Nat) (cs : List Int) (n i b : Nat) : List (List (BitVec 64)) := (List.range n).map (fun j => packRow W H cs i (decide (j < b)) j)
theorem packRow_length (W H : Nat) (cs : List Int) (i : Nat) (inc : Bool) (j : Nat) : (packRow W H cs i inc j).length = H * wpr W := by simp [packRow]
theorem packTo_length (W H : Nat) (cs : List Int) (n i b : Nat) : (packTo W H cs n i b).length = n := by simp [packTo]
theorem packTo_row (W H : Nat) (cs : List Int) (n i b j : Nat) (h : j < n) : (packTo W H cs n i b).getD j [] = packRow W H cs i (decide (j < b)) j := by
 unfold packTo
 rw [List.getD_eq_getElem?_getD, List.getElem?_map, List.getElem?_range h]; rfl
theorem packRow_word (W H : Nat) (cs : List Int) (i : Nat) (inc : Bool) (j k : Nat) (h : k < H * wpr W) : (packRow W H cs i inc j).getD k 0#64 = packW W cs i inc j k := by
 unfold packRow
 rw [List.getD_eq_getElem?_getD, List.getElem?_map, List.getElem?_range h]; rfl
theorem packW_bit (W : Nat) (cs : List Int) (i : Nat) (inc : Bool) (j k t : Nat) (ht : t < 64) : (packW W cs i inc j k).getLsbD t = (decide (64 * (k % wpr W) + t < W) && (decide (cellOf W k t < i) || (inc && decide (cellOf W k t = i))) && tbit (cs.getD (cellOf W k t) 0) j) := by
 unfold packW
 rw [mkW_get, decide_eq_true ht, Bool.true_and]
theorem cellOf_at {W k t X Y : Nat} (hX : X < W) (ht : t < 64) (hw : 64 * (k % wpr W) + t < W) (h : cellOf W k t = Y * W + X) : k = Y * wpr W + X / 64 ∧ t = X % 64 := by
 unfold cellOf at h
 obtain ⟨a1, a2⟩ := row_at (n := W) (y := k / wpr W) hw
 obtain ⟨b1, b2⟩ := row_at (n := W) (y := Y) hX
 rw [h] at a1 a2
 have e1 : k / wpr W = Y := by rw [← a1, b1]
 have e2 : 64 * (k % wpr W) + t = X := by rw [← a2, b2]
 have := Nat.div_add_mod' k (wpr W)
 rw [e1] at this
 constructor
 ·have h3 : k % wpr W = X / 64 := by omega
  rw [← h3]; exact this.symm
 ·omega
theorem cellOf_is {W X Y : Nat} (hX : X < W) (hq : X / 64 < wpr W) : cellOf W (Y * wpr W + X / 64) (X % 64) = Y * W + X := by
 unfold cellOf
 obtain ⟨a1, a2⟩ := row_at (n := wpr W) (y := Y) hq
 rw [a1, a2]; omega
theorem packRow_put (W H : Nat) (cs : List Int) (i j X Y : Nat) (hX : X < W) (hY : Y < H) (hq : X / 64 < wpr W) (hi : i = Y * W + X) :
 (packRow W H cs i false j).set (Y * wpr W + X / 64) (packW W cs i false j (Y * wpr W + X / 64) ||| (if tbit (cs.getD i 0) j = true then 1#64 <<< (X % 64) else 0#64)) = packRow W H cs i true j := by
 have hr64 : X % 64 < 64 := Nat.mod_lt _ (by omega)
 apply List.ext_getElem (by rw [List.length_set, packRow_length, packRow_length])
 intro k h1 h2
 rw [packRow_length] at h2
 rw [List.getElem_set]
 have g : ∀ inc, (packRow W H cs i inc j)[k]'(by rw [packRow_length]; exact h2) = packW W cs i inc j k := fun inc => by simp [packRow]
 rw [g true]
 split
 ·rename_i e
  subst e
  apply word_ext
  intro t ht
  rw [BitVec.getLsbD_or, packW_bit _ _ _ _ _ _ _ ht, packW_bit _ _ _ _ _ _ _ ht]
  obtain ⟨a1, a2⟩ := row_at (n := wpr W) (y := Y) hq
  by_cases e : t = X % 64
  ·subst e
   rw [cellOf_is hX hq, a2]
   have hw : 64 * (X / 64) + X % 64 < W := by omega
   rw [← hi]
   generalize tbit (cs.getD i 0) j = v
   have h9 : X % 64 < 64 := ht
   cases v <;> simp [hw, h9]
  ·have hne : 64 * ((Y * wpr W + X / 64) % wpr W) + t < W → cellOf W (Y * wpr W + X / 64) t ≠ i := fun hw hc => e (cellOf_at hX ht hw (by rw [hc, hi])).2
   have hz : (if tbit (cs.getD i 0) j = true then 1#64 <<< (X % 64) else 0#64).getLsbD t = false := by
    split
    ·rw [BitVec.getLsbD_shiftLeft, BitVec.getLsbD_one]
     by_cases h3 : t < X % 64
     ·simp [h3]
     ·have : ¬ (t - X % 64 = 0) := by omega
      simp [this]
    ·simp
   rw [hz, Bool.or_false]
   generalize cellOf W (Y * wpr W + X / 64) t = c at hne ⊢
   generalize (Y * wpr W + X / 64) % wpr W = z at hne ⊢
   by_cases hw : 64 * z + t < W
   ·simp [hne hw]
   ·simp [hw]
 ·rename_i e
  rw [g false]
  apply word_ext
  intro t ht
  rw [packW_bit _ _ _ _ _ _ _ ht, packW_bit _ _ _ _ _ _ _ ht]
  by_cases hw : 64 * (k % wpr W) + t < W
  ·have hne : cellOf W k t ≠ i := fun hc => e (cellOf_at hX ht hw (by rw [hc, hi])).1.symm
   simp [hne]
  ·simp [hw]
theorem packTo_put (W H : Nat) (cs : List Int) (n i b X Y : Nat) (hb : b < n) (hX : X < W) (hY : Y < H) (hq : X / 64 < wpr W) (hi : i = Y * W + X) :
 (packTo W H cs n i b).set b (((packTo W H cs n i b).getD b []).set (Y * wpr W + X / 64) (packW W cs i false b (Y * wpr W + X / 64) ||| (if tbit (cs.getD i 0) b = true then 1#64 <<< (X % 64) else 0#64))) = packTo W H cs n i (b + 1) := by
 rw [packTo_row _ _ _ _ _ _ _ hb, decide_eq_false (Nat.lt_irrefl b), packRow_put W H cs i b X Y hX hY hq hi]
 apply List.ext_getElem (by rw [List.length_set, packTo_length, packTo_length])
 intro j h1 h2
 rw [packTo_length] at h2
 rw [List.getElem_set]
 have g : ∀ b', (packTo W H cs n i b')[j]'(by rw [packTo_length]; exact h2) = packRow W H cs i (decide (j < b')) j := fun b' => by simp [packTo]
 rw [g (b + 1)]
 split
 ·rename_i e; subst e; rw [decide_eq_true (by omega)]
 ·rename_i e
  rw [g b]
  congr 1
  by_cases h3 : j < b
  ·rw [decide_eq_true h3, decide_eq_true (by omega)]
  ·rw [decide_eq_false h3, decide_eq_false (by omega)]
theorem packTo_next (W H : Nat) (cs : List Int) (n i : Nat) : packTo W H cs n i n = packTo W H cs n (i + 1) 0 := by
 unfold packTo
 apply List.map_congr_left
 intro j hj
 rw [decide_eq_true (List.mem_range.1 hj), decide_eq_false (Nat.not_lt_zero j)]
 unfold packRow
 apply List.map_congr_left
 intro k _
 unfold packW
 congr 1
 funext t
 have : (decide (cellOf W k t < i) || (true && decide (cellOf W k t = i))) = (decide (cellOf W k t < i + 1) || (false && decide (cellOf W k t = i + 1))) := by
  rw [Bool.true_and, Bool.false_and, Bool.or_false, Bool.eq_iff_iff]
  simp; omega
 rw [this]
theorem packTo_zero (W H : Nat) (cs : List Int) (n : Nat) : packTo W H cs n 0 0 = List.replicate n (List.replicate (H * wpr W) 0#64) := by
 have hz : ∀ inc j k, inc = false → packW W cs 0 inc j k = 0#64 := by
  intro inc j k e
  subst e
  apply word_ext
  intro t ht
  rw [packW_bit _ _ _ _ _ _ _ ht]; simp
 unfold packTo packRow
 apply List.ext_getElem (by simp)
 intro j h1 h2
 simp only [List.getElem_map, List.getElem_range, List.getElem_replicate]
 apply List.ext_getElem (by simp)
 intro k h3 h4
 simp only [List.getElem_map, List.getElem_range, List.getElem_replicate]
 exact hz _ _ _ (by simp)
theorem packTo_all (W H : Nat) (cs : List Int) (n : Nat) (hW : 1 ≤ W) : packTo W H cs n (H * W) 0 = (List.range n).map (planeF W H cs) := by
 unfold packTo
 apply List.map_congr_left
 intro j _
 unfold packRow planeF
 apply List.map_congr_left
 intro k hk
 have hk := List.mem_range.1 hk
 unfold packW
 congr 1
 funext t
 by_cases hw : 64 * (k % wpr W) + t < W
 ·have hy : k / wpr W < H := Nat.div_lt_of_lt_mul (by rw [Nat.mul_comm]; exact hk)
  have hc : cellOf W k t < H * W := row_ltP hw hy
  rw [decide_eq_true hc]
  simp [hw, cellOf]
 ·simp [hw]
end Go.Proofs.Ytiemhbogbaamlaa

/-
 A part.
-/
namespace Go.Proofs.Ytiemhbogbaamlaa
open Go.RowKit
set_option linter.unusedSimpArgs false
set_option linter.unusedVariables false
set_option maxHeartbeats 400000 in
theorem gState_any (x : Int) (w : World) :
 Calls Try.prog 76 #[.int .i64 x] w fun e w' => e = .returned (.bool (!stateOk x)) ∧ w = w' := by
 go_enter Try.func76, Try.ntmps76
 go_wp2
 all_goals go_ret
 all_goals refine ⟨ret_bool ?_, rfl⟩
 all_goals unfold stateOk
 all_goals first | (rw [Bool.eq_iff_iff]; simp; omega) | (rw [Bool.eq_iff_iff]; simp; done)
set_option maxHeartbeats 400000 in
theorem gRight_any (g : Grd) (A : Option Addr) (n c : Nat) (w : World) (h : GAt w g A n) :
 Calls Try.prog 42 #[.agg #[.int .i64 g.w, .int .i64 g.h, .int .i64 g.edge, .slice A n c]] w fun e w' => e = .returned (.bool (rightG g)) ∧ Below w.heap.size w w' := by
 have H : Hid (GAt w g A n) := h
 have HL : Hid (g.cells.length = n) := h.cl
 have hm := h.c63
 unfold maxLen at hm
 clear h
 cases hs : sizedF g.w g.h g.edge
 ·have hr : rightG g = false := by simp [rightG, hs]
  rw [hr]
  go_enter Try.func42, Try.ntmps42
  go_wp2_with fail
  refine (sized_any g.w g.h g.edge _).mono ?_
  rw [hs]
  rintro e w1 ⟨rfl, rfl⟩
  go_wp2
  go_ret
  exact ⟨rfl, by go_grown⟩
 ·obtain ⟨⟨q1, q2⟩, ⟨h1, h2⟩, hm', he1, he2⟩ := sizedF_parts hs
  obtain ⟨p1, p2⟩ := prod_bd ⟨q1, q2⟩ ⟨h1, h2⟩
  by_cases hl : (n : Int) = g.w * g.h
  ·have hr : rightG g = g.cells.all stateOk := by simp [rightG, hs, HL.out, hl]
   rw [hr]
   have hb1 : ((n : Int) == g.w * g.h) = true := by simpa using hl
   clear hr hl
   go_enter Try.func42, Try.ntmps42
   go_wp2_with fail
   refine (sized_any g.w g.h g.edge _).mono ?_
   rw [hs]
   rintro e w1 ⟨rfl, rfl⟩
   go_wp2_with fail
   refine (containsFunc_ints A n c g.cells _ _ (fun x => !stateOk x) _ (enters Try.func76 (by kernel_rfl) rfl) (H.out.up (by go_grown)).cells (by omega) ?_).mono ?_
   ·intro W x hx hb
    refine (gState_any x W).mono ?_
    rintro e w' ⟨rfl, rfl⟩
    exact ⟨rfl, hb⟩
   ·rintro e w' ⟨rfl, hb⟩
    have HB : Hid (Below w.heap.size w w') := below_next hb (by go_grown)
    clear hb
    go_wp2
    go_ret
    refine ⟨ret_bool ?_, HB.out⟩
    simp [List.all_eq_not_any_not]
  ·have hr : rightG g = false := by simp [rightG, hs, HL.out, hl]
   rw [hr]
   have hb1 : ((n : Int) == g.w * g.h) = false := by simpa using hl
   clear hr
   go_enter Try.func42, Try.ntmps42
   go_wp2_with fail
   refine (sized_any g.w g.h g.edge _).mono ?_
   rw [hs]
   rintro e w1 ⟨rfl, rfl⟩
   go_wp2
   all_goals go_ret
   all_goals exact ⟨rfl, by go_grown⟩
end Go.Proofs.Ytiemhbogbaamlaa

/-
 A part.
-/
namespace Go.Proofs.Ytiemhbogbaamlaa
open Go.RowKit
set_option linter.unusedSimpArgs false
set_option linter.unusedVariables false
def PPost (r : Pln) (k : Int) (w : World) (e : Ending) (w' : World) : Prop :=
 ∃ (A : Option Addr) (n c M : Nat) (gs : List Nat), e = .returned (.tuple #[.agg #[.int .i64 r.w, .int .i64 r.h, .int .i64 r.edge, .slice A n c], .int .i64 k]) ∧ POwn w' w.heap.size (.slice A n c) M gs r.words ∧ (r.words.length = n ∧ n ≤ 3 ∧ M ≤ 1024) ∧ Below w.heap.size w w'
theorem ppost_err {r : Pln} {k k' : Int} {w w' : World} (hr : r = noPln) (hk : k' = k) (hb : Below w.heap.size w w') : PPost r k' w (.returned (.tuple #[.agg #[.int .i64 0, .int .i64 0, .int .i64 0, .slice none 0 0], .int .i64 k])) w' := by
 subst hr hk
 exact ⟨none, 0, 0, 0, [], rfl, POwn.nil _ _ _, ⟨rfl, by omega, by omega⟩, hb⟩
theorem packBad {g : Grd} {b : Int} (h : ¬ (rightG g = true ∧ 1 ≤ b ∧ b ≤ 3)) : packR g b = noPln ∧ packErr g b = 2 := by
 have h2 : packErr g b = 2 := by unfold packErr; rw [if_neg h]
 exact ⟨by unfold packR; rw [h2]; rfl, h2⟩
set_option maxRecDepth 100000 in
set_option maxHeartbeats 2000000 in
theorem plPack_bad (g : Grd) (A : Option Addr) (n c : Nat) (b : Int) (w : World) (h : GAt w g A n) (hbad : ¬ (rightG g = true ∧ 1 ≤ b ∧ b ≤ 3)) :
 Calls Try.prog 24 #[.agg #[.int .i64 g.w, .int .i64 g.h, .int .i64 g.edge, .slice A n c], .int .i64 b] w (PPost (packR g b) (packErr g b) w) := by
 have H : Hid (GAt w g A n) := h
 have HCE : Hid (packR g b = noPln ∧ packErr g b = 2) := packBad hbad
 go_enter Try.func24, Try.ntmps24
 go_wp2_with fail
 refine (gRight_any g A n c _ (H.out.up (by go_grown))).mono ?_
 rintro e w1 ⟨rfl, hb⟩
 have HB : Hid (Below w.heap.size w w1) := below_next hb (by go_grown)
 have RZ : Hid (Row w1 (w.heap.size + 1) 42 [.int .i64 0, .int .i64 0, .int .i64 0, .slice none 0 0]) := rowCells (rowNew1 w _ 42 [.int .i64 0, .int .i64 0, .int .i64 0, .slice none 0 0]) hb
 clear hb h
 have HBAD : Hid (¬ (rightG g = true ∧ 1 ≤ b ∧ b ≤ 3)) := hbad
 obtain ⟨d0, d1, d2, d3, dl⟩ := RZ.out.cells4
 have f0 := RZ.out.frozen 0
 have f1 := RZ.out.frozen 1
 have f2 := RZ.out.frozen 2
 have f3 := RZ.out.frozen 3
 have BB := HB.out
 cases hr : rightG g
 ·clear hbad hr
  go_wp2
  exact bodyPost_ret (v := .tuple #[.agg #[.int .i64 0, .int .i64 0, .int .i64 0, .slice none 0 0], .int .i64 2]) (by simp [results, Try.results24, go_sem, d0, d1, d2, d3]) rfl (ppost_err HCE.out.1 HCE.out.2 (by go_grown))
 ·have hbb : b < 1 ∨ 3 < b := by
   rcases Int.lt_or_le b 1 with h1 | h1
   ·exact .inl h1
   ·rcases Int.lt_or_le 3 b with h3 | h3
    ·exact .inr h3
    ·exact absurd ⟨hr, h1, h3⟩ hbad
  clear hbad hr
  rcases hbb with h1 | h1
  ·go_wp2
   exact bodyPost_ret (v := .tuple #[.agg #[.int .i64 0, .int .i64 0, .int .i64 0, .slice none 0 0], .int .i64 2]) (by simp [results, Try.results24, go_sem, d0, d1, d2, d3]) rfl (ppost_err HCE.out.1 HCE.out.2 (by go_grown))
  ·have h2 : ¬ b < 1 := by omega
   go_wp2
   exact bodyPost_ret (v := .tuple #[.agg #[.int .i64 0, .int .i64 0, .int .i64 0, .slice none 0 0], .int .i64 2]) (by simp [results, Try.results24, go_sem, d0, d1, d2, d3]) rfl (ppost_err HCE.out.1 HCE.out.2 (by go_grown))
end Go.Proofs.Ytiemhbogbaamlaa
