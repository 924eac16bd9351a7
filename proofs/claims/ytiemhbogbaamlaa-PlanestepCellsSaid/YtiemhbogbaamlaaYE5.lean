/-
 A part.
-/
import Derived.Test.YtiemhbogbaamlaaYE4
namespace Go.Proofs.Ytiemhbogbaamlaa
open Go.RowKit
set_option linter.unusedSimpArgs false
set_option linter.unusedVariables false
theorem setT_get (nd : List Bool) (z : Int) (w : Nat) : (setT nd z).getD w false = true ↔ (w = z.toNat ∧ w < nd.length) ∨ nd.getD w false = true := by
 unfold setT
 rw [List.getD_eq_getElem?_getD, List.getD_eq_getElem?_getD, List.getElem?_set]
 by_cases h : z.toNat = w
 ·rw [if_pos h]
  subst h
  by_cases h2 : z.toNat < nd.length
  ·simp [h2]
  ·simp [h2]
 ·rw [if_neg h]
  have h3 : ¬ w = z.toNat := fun e => h e.symm
  simp [h3]
theorem needG_get {n : Int} {nd : List Bool} {i : Nat} {g : Gt} (ho : g.op = 0 ∨ g.op = 1 ∨ g.op = 2 ∨ g.op = 3 ∨ g.op = 4 ∨ g.op = 5) (w : Nat) :
 (needG n nd i g).getD w false = true ↔ nd.getD w false = true ∨ (needAt nd (n + (i : Int)) = true ∧ w < nd.length ∧ ((2 ≤ g.op ∧ w = g.a.toNat) ∨ (3 ≤ g.op ∧ w = g.b.toNat))) := by
 have hop := operandsO_of ho
 unfold needG
 by_cases h : needAt nd (n + (i : Int)) = true
 ·rw [if_pos h]
  simp only [h, true_and]
  by_cases h3 : 3 ≤ g.op
  ·rw [if_pos (by rw [hop, if_neg (by omega), if_neg (by omega)]), setT_get, setT_get]
   have hl : (setT nd g.a).length = nd.length := by simp [setT]
   rw [hl]
   have h2 : 2 ≤ g.op := by omega
   simp only [h2, h3, true_and]
   constructor
   ·rintro (⟨e, l⟩ | ⟨e, l⟩ | e)
    ·exact .inr ⟨l, .inr e⟩
    ·exact .inr ⟨l, .inl e⟩
    ·exact .inl e
   ·rintro (e | ⟨l, e | e⟩)
    ·exact .inr (.inr e)
    ·exact .inr (.inl ⟨e, l⟩)
    ·exact .inl ⟨e, l⟩
  ·rw [if_neg (by rw [hop]; split <;> (try split) <;> omega)]
   by_cases h2 : 2 ≤ g.op
   ·rw [if_pos (by rw [hop, if_neg (by omega), if_pos (by omega)]), setT_get]
    simp only [h2, h3, true_and, false_and, or_false]
    constructor
    ·rintro (⟨e, l⟩ | e)
     ·exact .inr ⟨l, e⟩
     ·exact .inl e
    ·rintro (e | ⟨l, e⟩)
     ·exact .inr e
     ·exact .inl ⟨e, l⟩
   ·rw [if_neg (by rw [hop, if_pos (by omega)]; omega)]
    simp [h2, h3]
 ·rw [if_neg h]
  simp [h]
structure Closed (c : Circ) (P : Int → Prop) : Prop where
 outs : ∀ k, k < c.outs.length → P (c.outs.getD k 0)
 fst : ∀ k, k < c.gates.length → P (c.inputs + (k : Int)) → 2 ≤ (gateAt c k).op → P (gateAt c k).a
 snd : ∀ k, k < c.gates.length → P (c.inputs + (k : Int)) → 3 ≤ (gateAt c k).op → P (gateAt c k).b
theorem need_min {c : Circ} (h : rightC c = true) {P : Int → Prop} (hc : Closed c P) (w : Nat) (hw : (needC c).getD w false = true) : P (w : Int) := by
 obtain ⟨⟨h0, h1, _⟩, hg, ho⟩ := rightC_parts h
 have hout : ∀ k, k ≤ c.outs.length → ∀ w : Nat, (needOuts c k).getD w false = true → P (w : Int) := fun k => by
  induction k with
  | zero =>
   intro _ w hw
   rw [needOuts, List.getD_eq_getElem?_getD, List.getElem?_replicate] at hw
   split at hw <;> cases hw
  | succ k ih =>
   intro hk w hw
   rw [needOuts, setT_get] at hw
   rcases hw with ⟨e, _⟩ | hw
   ·have := outOk_at ho (show k < c.outs.length by omega)
    rw [e, Int.toNat_of_nonneg this.1]
    exact hc.outs k (by omega)
   ·exact ih (by omega) w hw
 have hto : ∀ j, j ≤ c.gates.length → ∀ w : Nat, (needTo c j).getD w false = true → P (w : Int) := fun j => by
  induction j with
  | zero => intro _ w hw; exact hout _ (Nat.le_refl _) w hw
  | succ j ih =>
   intro hj w hw
   have hk : c.gates.length - 1 - j < c.gates.length := by omega
   obtain ⟨hop, ha, hb, _, _⟩ := gateOk_parts (gateAt_ok h hk)
   rw [needTo, needG_get hop] at hw
   rcases hw with hw | ⟨hn, _, hw⟩
   ·exact ih (by omega) w hw
   ·have hP : P (c.inputs + ((c.gates.length - 1 - j : Nat) : Int)) := by
     have := ih (by omega) _ hn
     rw [Int.toNat_of_nonneg (by omega)] at this
     exact this
    rcases hw with ⟨h2, e⟩ | ⟨h3, e⟩
    ·rw [e, Int.toNat_of_nonneg (ha h2).1]; exact hc.fst _ hk hP h2
    ·rw [e, Int.toNat_of_nonneg (hb h3).1]; exact hc.snd _ hk hP h3
 exact hto _ (Nat.le_refl _) w hw
def Ned (c : Circ) (w : Int) : Prop := needAt (needC c) w = true
theorem need_closed {c : Circ} (h : rightC c = true) : Closed c (Ned c) := by
 obtain ⟨⟨h0, h1, _⟩, hg, ho⟩ := rightC_parts h
 have hmono : ∀ j, j ≤ c.gates.length → ∀ d, d ≤ j → ∀ w, (needTo c d).getD w false = true → (needTo c j).getD w false = true := fun j => by
  induction j with
  | zero =>
   intro _ d hd w hw
   obtain rfl : d = 0 := by omega
   exact hw
  | succ j ih =>
   intro hj d hd w hw
   rcases Nat.lt_or_ge d (j + 1) with h1 | h1
   ·rw [needTo, needG_get (gateOk_parts (gateAt_ok h (show c.gates.length - 1 - j < c.gates.length by omega))).1]
    exact .inl (ih (by omega) d (by omega) w hw)
   ·obtain rfl : d = j + 1 := by omega
    exact hw
 have hout : ∀ k, k ≤ c.outs.length → ∀ i, i < k → (needOuts c k).getD (c.outs.getD i 0).toNat false = true := fun k => by
  induction k with
  | zero => intro _ i hi; omega
  | succ k ih =>
   intro hk i hi
   rw [needOuts, setT_get]
   rcases Nat.lt_or_ge i k with h1 | h1
   ·exact .inr (ih (by omega) i h1)
   ·obtain rfl : i = k := by omega
    have := outOk_at ho (show i < c.outs.length by omega)
    exact .inl ⟨rfl, by rw [needOuts_len]; omega⟩
 have hops : ∀ j, j ≤ c.gates.length → ∀ k, k < c.gates.length → c.gates.length - j ≤ k → (needTo c j).getD (c.inputs + (k : Int)).toNat false = true →
  (2 ≤ (gateAt c k).op → (needTo c j).getD (gateAt c k).a.toNat false = true) ∧ (3 ≤ (gateAt c k).op → (needTo c j).getD (gateAt c k).b.toNat false = true) := fun j => by
  induction j with
  | zero => intro _ k hk h2; omega
  | succ j ih =>
   intro hj k hk h2 hn
   have hi : c.gates.length - 1 - j < c.gates.length := by omega
   obtain ⟨hop, ha, hb, _, _⟩ := gateOk_parts (gateAt_ok h hi)
   have hn2 := hn
   rw [needTo, needG_get hop] at hn2
   have hn3 : (needTo c j).getD (c.inputs + (k : Int)).toNat false = true := by
    rcases hn2 with e | ⟨_, _, ⟨h3, e⟩ | ⟨h3, e⟩⟩
    ·exact e
    ·have := ha h3; omega
    ·have := hb h3; omega
   rcases Nat.lt_or_ge (c.gates.length - 1 - j) k with h4 | h4
   ·obtain ⟨p1, p2⟩ := ih (by omega) k hk (by omega) hn3
    exact ⟨fun q => hmono _ hj j (by omega) _ (p1 q), fun q => hmono _ hj j (by omega) _ (p2 q)⟩
   ·obtain rfl : k = c.gates.length - 1 - j := by omega
    have hl : (needTo c j).length = (c.inputs + c.gates.length).toNat := needTo_len c j
    rw [needTo, needG_get hop, needG_get hop]
    exact ⟨fun q => .inr ⟨hn3, by have := ha q; omega, .inl ⟨q, rfl⟩⟩, fun q => .inr ⟨hn3, by have := hb q; omega, .inr ⟨q, rfl⟩⟩⟩
 refine ⟨fun k hk => ?_, fun k hk hP h2 => ?_, fun k hk hP h3 => ?_⟩
 ·exact hmono _ (Nat.le_refl _) 0 (Nat.zero_le _) _ (hout _ (Nat.le_refl _) k hk)
 ·exact (hops _ (Nat.le_refl _) k hk (by omega) hP).1 h2
 ·exact (hops _ (Nat.le_refl _) k hk (by omega) hP).2 h3
def ndg (c : Circ) (i : Nat) : Bool := needAt (needC c) (c.inputs + (i : Int))
def rank (c : Circ) (i : Nat) : Nat := ((List.range i).filter (ndg c)).length
theorem rank_succ (c : Circ) (i : Nat) : rank c (i + 1) = if ndg c i = true then rank c i + 1 else rank c i := by
 unfold rank
 rw [List.range_succ, List.filter_append, List.length_append]
 split
 ·rename_i h; simp [h]
 ·rename_i h; simp [h]
theorem rank_le (c : Circ) (i : Nat) : rank c i ≤ i := by
 unfold rank
 exact Nat.le_trans (List.length_filter_le _ _) (by simp)
theorem rank_mono (c : Circ) {i j : Nat} (h : i ≤ j) : rank c i ≤ rank c j := by
 induction j with
 | zero => obtain rfl : i = 0 := by omega
           exact Nat.le_refl _
 | succ j ih =>
  rcases Nat.lt_or_ge i (j + 1) with h1 | h1
  ·have := ih (by omega)
   rw [rank_succ]; split <;> omega
  ·obtain rfl : i = j + 1 := by omega
   exact Nat.le_refl _
theorem trimTo_succ (c : Circ) (k : Nat) : trimTo c (k + 1) = if ndg c k = true then addW c.inputs (trimTo c k) (moveG (trimTo c k).to (gateAt c k), -1) else ⟨(trimTo c k).gates, (trimTo c k).to ++ [0]⟩ := rfl
theorem trim_gl (c : Circ) (k : Nat) : (trimTo c k).gates.length = rank c k := by
 induction k with
 | zero => rfl
 | succ k ih =>
  rw [trimTo_succ, rank_succ]
  split
  ·rw [(addW_len _ _ _).1, ih]
  ·exact ih
theorem trim_to_keep (c : Circ) {k k' : Nat} (h : k ≤ k') {w : Nat} (hw : w < c.inputs.toNat + k) : (trimTo c k').to.getD w 0 = (trimTo c k).to.getD w 0 := by
 induction k' with
 | zero => obtain rfl : k = 0 := by omega
           rfl
 | succ j ih =>
  rcases Nat.lt_or_ge k (j + 1) with h1 | h1
  ·have hl := (trimTo_len c j).2
   rw [← ih (by omega), trimTo_succ]
   split
   ·exact snocZ_lt _ _ _ (by omega)
   ·exact snocZ_lt _ _ _ (by omega)
  ·obtain rfl : k = j + 1 := by omega
   rfl
theorem start_at (n : Int) {w : Nat} (h : w < n.toNat) : (startW n).to.getD w 0 = (w : Int) := by
 simp [startW, List.getD_eq_getElem?_getD, List.getElem?_map, List.getElem?_range h]
theorem trim_to_in (c : Circ) (k : Nat) {w : Nat} (h : w < c.inputs.toNat) : (trimTo c k).to.getD w 0 = (w : Int) :=
 (trim_to_keep c (Nat.zero_le k) (by omega)).trans (start_at _ h)
theorem trim_to_gate (c : Circ) (h0 : 0 ≤ c.inputs) {k i : Nat} (h : i < k) : (trimTo c k).to.getD (c.inputs.toNat + i) 0 = if ndg c i = true then c.inputs + (rank c i : Int) else 0 := by
 rw [trim_to_keep c (show i + 1 ≤ k by omega) (by omega), trimTo_succ]
 have hl := (trimTo_len c i).2
 rw [← hl]
 split
 ·rw [show (addW c.inputs (trimTo c i) (moveG (trimTo c i).to (gateAt c i), -1)).to.getD (trimTo c i).to.length 0 = _ from snocZ_eq _ _ _, if_pos (show (-1 : Int) < 0 by decide), trim_gl]
 ·exact snocZ_eq _ _ _
theorem moveG_congr {to to' : List Int} {L : Nat} (h : ∀ w, w < L → to.getD w 0 = to'.getD w 0) {lim : Int} {g : Gt} (hg : gateOk lim g = true) (hl : lim ≤ (L : Int)) : moveG to g = moveG to' g := by
 obtain ⟨ho, ha, hb, _, _⟩ := gateOk_parts hg
 have hop := operandsO_of ho
 have e1 : (moveG to g).a = (moveG to' g).a := by
  rcases (by omega : g.op < 2 ∨ 2 ≤ g.op) with h2 | h2
  ·rw [moveG_a0 ho h2, moveG_a0 ho h2]
  ·rw [moveG_a ho h2, moveG_a ho h2]; exact h _ (by have := ha h2; omega)
 have e2 : (moveG to g).b = (moveG to' g).b := by
  rcases (by omega : g.op < 3 ∨ 3 ≤ g.op) with h3 | h3
  ·rw [moveG_b0 ho h3, moveG_b0 ho h3]
  ·rw [moveG_b ho h3, moveG_b ho h3]; exact h _ (by have := hb h3; omega)
 have e : ∀ x y : Gt, x.op = y.op → x.a = y.a → x.b = y.b → x = y := fun x y p q r => by cases x; cases y; cases p; cases q; cases r; rfl
 exact e _ _ rfl e1 e2
theorem trim_gates {c : Circ} (h : rightC c = true) (k : Nat) (hk : k ≤ c.gates.length) : (trimTo c k).gates = ((List.range k).filter (ndg c)).map (fun i => moveG (trimTo c k).to (gateAt c i)) := by
 obtain ⟨⟨h0, h1, _⟩, _⟩ := rightC_parts h
 induction k with
 | zero => rfl
 | succ k ih =>
  have hkeep : ∀ i, i ≤ k → moveG (trimTo c (k + 1)).to (gateAt c i) = moveG (trimTo c k).to (gateAt c i) := fun i hi =>
   moveG_congr (L := c.inputs.toNat + k) (fun w hw => trim_to_keep c (Nat.le_succ k) hw) (gateAt_ok h (show i < c.gates.length by omega)) (by omega)
  rw [List.range_succ, List.filter_append, List.map_append]
  have e : ((List.range k).filter (ndg c)).map (fun i => moveG (trimTo c (k + 1)).to (gateAt c i)) = (trimTo c k).gates := by
   rw [ih (by omega)]
   apply List.map_congr_left
   intro i hi
   rw [List.mem_filter, List.mem_range] at hi
   exact hkeep i (by omega)
  rw [e]
  by_cases hn : ndg c k = true
  ·have e2 : List.filter (ndg c) [k] = [k] := by simp [hn]
   rw [e2, List.map_singleton, hkeep k (Nat.le_refl _), trimTo_succ, if_pos hn]; rfl
  ·have e2 : List.filter (ndg c) [k] = [] := by simp [hn]
   rw [e2, List.map_nil, List.append_nil, trimTo_succ, if_neg hn]
theorem trimTo_ok {c : Circ} (h : rightC c = true) (k : Nat) (hk : k ≤ c.gates.length) : WkOk c.inputs (fun w => c.inputs ≤ (w : Int) → Ned c (w : Int)) (trimTo c k) := by
 obtain ⟨⟨h0, h1, _⟩, _⟩ := rightC_parts h
 have hcl := need_closed h
 induction k with
 | zero => exact startOk h0 _
 | succ k ih =>
  have hs := ih (by omega)
  have l2 := (trimTo_len c k).2
  rw [trimTo_succ]
  split
  ·rename_i hn
   have hg := gateAt_ok h (show k < c.gates.length by omega)
   obtain ⟨ho, ha, hb, _, _⟩ := gateOk_parts hg
   have hm := moveG_ok hs hg (by omega) (fun h2 _ => by rw [Int.toNat_of_nonneg (ha h2).1]; exact hcl.fst k (by omega) hn h2) (fun h3 _ => by rw [Int.toNat_of_nonneg (hb h3).1]; exact hcl.snd k (by omega) hn h3)
   exact hs.add hm ⟨by show (-1 : Int) ≤ -1; omega, by show (-1 : Int) < _; omega⟩ h0 (fun _ _ q => q)
  ·rename_i hn
   refine ⟨hs.gok, fun w hw hq => ?_⟩
   have hw : w < ((trimTo c k).to ++ [(0 : Int)]).length := hw
   rw [List.length_append, List.length_singleton] at hw
   rcases Nat.lt_or_ge w (trimTo c k).to.length with h2 | h2
   ·show 0 ≤ ((trimTo c k).to ++ [(0 : Int)]).getD w 0 ∧ _
    rw [snocZ_lt _ _ _ h2]
    exact hs.tok w h2 hq
   ·obtain rfl : w = (trimTo c k).to.length := by omega
    have := hq (by omega)
    have e : (((trimTo c k).to.length : Nat) : Int) = c.inputs + (k : Int) := by omega
    rw [e] at this
    exact absurd this hn
theorem trim_outs {c : Circ} (h : rightC c = true) : ∀ k, k < c.outs.length → c.inputs ≤ (((c.outs.getD k 0).toNat : Nat) : Int) → Ned c (((c.outs.getD k 0).toNat : Nat) : Int) := fun k hk _ => by
 rw [Int.toNat_of_nonneg (outOk_at (rightC_parts h).2.2 hk).1]
 exact (need_closed h).outs k hk
theorem trim_right {c : Circ} (h : rightC c = true) : rightC (trimC c) = true := by
 rw [trimC, if_pos h]
 obtain ⟨⟨h0, h1, _⟩, _⟩ := rightC_parts h
 obtain ⟨l1, l2⟩ := trimTo_len c c.gates.length
 exact done_ok h (trimTo_ok h _ (Nat.le_refl _)) (by omega) (by omega) (trim_outs h)
theorem trim_sem {c : Circ} (h : rightC c = true) {vs : List Bool} (hv : (vs.length : Int) = c.inputs) : outsG evalB false (trimC c) vs = outsG evalB false c vs := by
 obtain ⟨⟨h0, h1, _⟩, _⟩ := rightC_parts h
 obtain ⟨N, hN⟩ : ∃ N : Nat, c.inputs = (N : Int) := ⟨c.inputs.toNat, by omega⟩
 have hvN : vs.length = N := by omega
 have hcl := need_closed h
 have key : ∀ k, k ≤ c.gates.length → SemOk vs (fun w => c.inputs ≤ (w : Int) → Ned c (w : Int)) (trimTo c k) (c.gates.take k) := fun k hk => by
  induction k with
  | zero => rw [trimTo, hN]; exact V_start hvN _
  | succ k ih =>
   have hs := trimTo_ok h k (by omega)
   have l2 := (trimTo_len c k).2
   have hg := gateAt_ok h (show k < c.gates.length by omega)
   rw [take_snoc_getD c.gates k (by omega), trimTo_succ]
   split
   ·rename_i hn
    obtain ⟨ho, ha, hb, _, _⟩ := gateOk_parts hg
    have q1 : 2 ≤ (gateAt c k).op → (c.inputs ≤ (((gateAt c k).a.toNat : Nat) : Int) → Ned c (((gateAt c k).a.toNat : Nat) : Int)) := fun h2 _ => by rw [Int.toNat_of_nonneg (ha h2).1]; exact hcl.fst k (by omega) hn h2
    have q2 : 3 ≤ (gateAt c k).op → (c.inputs ≤ (((gateAt c k).b.toNat : Nat) : Int) → Ned c (((gateAt c k).b.toNat : Nat) : Int)) := fun h3 _ => by rw [Int.toNat_of_nonneg (hb h3).1]; exact hcl.snd k (by omega) hn h3
    have hmv := move_val (ih (by omega)) hg (by omega) q1 q2
    have hp : (-1 : Int) ≤ -1 ∧ (-1 : Int) < (N : Int) + ((trimTo c k).gates.length : Int) := ⟨by omega, by omega⟩
    have hs2 : WkOk (N : Int) (fun w => c.inputs ≤ (w : Int) → Ned c (w : Int)) (trimTo c k) := hN ▸ hs
    have := (ih (by omega)).add (p := (moveG (trimTo c k).to (gateAt c k), -1)) (g := gateAt c k) hvN hs2 (by rw [l2, List.length_take]; omega) hp (.gate hmv)
    rw [hN] at this ⊢
    exact this
   ·rename_i hn
    intro w hw hq
    have hw : w < ((trimTo c k).to ++ [(0 : Int)]).length := hw
    rw [List.length_append, List.length_singleton] at hw
    show V vs (trimTo c k).gates (((trimTo c k).to ++ [(0 : Int)]).getD w 0) = _
    rcases Nat.lt_or_ge w (trimTo c k).to.length with h2 | h2
    ·rw [snocZ_lt _ _ _ h2, ih (by omega) w h2 hq, V_ext hvN (Ext.snoc _ _) (by unfold okW; rw [List.length_take]; omega)]
    ·obtain rfl : w = (trimTo c k).to.length := by omega
     have := hq (by omega)
     have e : (((trimTo c k).to.length : Nat) : Int) = c.inputs + (k : Int) := by omega
     rw [e] at this
     exact absurd this hn
 rw [trimC, if_pos h]
 have := key c.gates.length (Nat.le_refl _)
 rw [List.take_length] at this
 obtain ⟨l1, l2⟩ := trimTo_len c c.gates.length
 exact done_sem h this (by omega) (trim_outs h)
end Go.Proofs.Ytiemhbogbaamlaa

/-
 A part.
-/
namespace Go.Proofs.Ytiemhbogbaamlaa
open Go.RowKit
set_option linter.unusedSimpArgs false
set_option linter.unusedVariables false
theorem gt_ext {x y : Gt} (p : x.op = y.op) (q : x.a = y.a) (r : x.b = y.b) : x = y := by
 cases x; cases y; cases p; cases q; cases r; rfl
structure Chain (n : Int) (T : Nat → Wk) (p : Nat → Gt × Int) : Prop where
 z : T 0 = startW n
 s : ∀ k, T (k + 1) = addW n (T k) (p k)
section
variable {n : Int} {T : Nat → Wk} {p : Nat → Gt × Int}
theorem Chain.len (h : Chain n T p) (k : Nat) : (T k).gates.length = k ∧ (T k).to.length = n.toNat + k := by
 induction k with
 | zero => rw [h.z]; exact startW_len _
 | succ k ih =>
  have := addW_len n (T k) (p k)
  rw [h.s]; omega
theorem Chain.to_keep (h : Chain n T p) {k k' : Nat} (hk : k ≤ k') {w : Nat} (hw : w < n.toNat + k) : (T k').to.getD w 0 = (T k).to.getD w 0 := by
 induction k' with
 | zero =>
  obtain rfl : k = 0 := by omega
  rfl
 | succ j ih =>
  rcases Nat.lt_or_ge k (j + 1) with h1 | h1
  ·have hl := (h.len j).2
   rw [← ih (by omega), h.s]
   exact snocZ_lt _ _ _ (by omega)
  ·obtain rfl : k = j + 1 := by omega
   rfl
theorem Chain.g_keep (h : Chain n T p) {k k' : Nat} (hk : k ≤ k') {i : Nat} (hi : i < k) : (T k').gates.getD i default = (T k).gates.getD i default := by
 induction k' with
 | zero =>
  obtain rfl : k = 0 := by omega
  rfl
 | succ j ih =>
  rcases Nat.lt_or_ge k (j + 1) with h1 | h1
  ·have hl := (h.len j).1
   rw [← ih (by omega), h.s]
   exact snocZ_lt _ _ _ (by omega)
  ·obtain rfl : k = j + 1 := by omega
   rfl
theorem Chain.to_in (h : Chain n T p) (k : Nat) {w : Nat} (hw : w < n.toNat) : (T k).to.getD w 0 = (w : Int) := by
 rw [h.to_keep (Nat.zero_le k) (by omega), h.z]; exact start_at _ hw
theorem Chain.to_at (h : Chain n T p) {k i : Nat} (hi : i < k) : (T k).to.getD (n.toNat + i) 0 = if (p i).2 < 0 then n + (i : Int) else (p i).2 := by
 have l := h.len i
 rw [h.to_keep (show i + 1 ≤ k by omega) (by omega), h.s, ← l.2, show (addW n (T i) (p i)).to.getD (T i).to.length 0 = _ from snocZ_eq _ _ _, l.1]
theorem Chain.g_at (h : Chain n T p) {k i : Nat} (hi : i < k) : (T k).gates.getD i default = (p i).1 := by
 have l := h.len i
 rw [h.g_keep (show i + 1 ≤ k by omega) (by omega), h.s]
 have e := snocZ_eq (T i).gates (p i).1 default
 rw [l.1] at e
 exact e
def Fx (n : Int) (s : Wk) (k : Nat) (x : Int) : Prop := 0 ≤ x ∧ x < n + (k : Int) ∧ s.to.getD x.toNat 0 = x
theorem Chain.fx (h : Chain n T p) (hn : 0 ≤ n) {k k' : Nat} (hk : k ≤ k') {x : Int} (hx : Fx n (T k) k x) : Fx n (T k') k' x := by
 obtain ⟨a, b, e⟩ := hx
 exact ⟨a, by omega, by rw [h.to_keep hk (by omega)]; exact e⟩
structure Idem (n : Int) (s : Wk) (k : Nat) : Prop where
 to : ∀ w, w < n.toNat + k → Fx n s k (s.to.getD w 0)
 ga : ∀ i, i < k → 2 ≤ (s.gates.getD i default).op → Fx n s k (s.gates.getD i default).a
 gb : ∀ i, i < k → 3 ≤ (s.gates.getD i default).op → Fx n s k (s.gates.getD i default).b
theorem Chain.idem (h : Chain n T p) (hn : 0 ≤ n) (K : Nat) (hp : ∀ k, k < K → Idem n (T k) k → (2 ≤ (p k).1.op → Fx n (T k) k (p k).1.a) ∧ (3 ≤ (p k).1.op → Fx n (T k) k (p k).1.b) ∧ (0 ≤ (p k).2 → Fx n (T k) k (p k).2)) : ∀ k, k ≤ K → Idem n (T k) k := fun k => by
 induction k with
 | zero =>
  intro _
  refine ⟨fun w hw => ?_, fun i hi => by omega, fun i hi => by omega⟩
  have hw : w < n.toNat := by omega
  rw [h.to_in 0 hw]
  exact ⟨by omega, by omega, by rw [Int.toNat_natCast]; exact h.to_in 0 hw⟩
 | succ k ih =>
  intro hk
  have hI := ih (by omega)
  obtain ⟨p1, p2, p3⟩ := hp k (by omega) hI
  have up : ∀ {x}, Fx n (T k) k x → Fx n (T (k + 1)) (k + 1) x := fun hx => h.fx hn (Nat.le_succ k) hx
  refine ⟨fun w hw => ?_, fun i hi ho => ?_, fun i hi ho => ?_⟩
  ·rcases Nat.lt_or_ge w (n.toNat + k) with h1 | h1
   ·rw [h.to_keep (Nat.le_succ k) h1]
    exact up (hI.to w h1)
   ·obtain rfl : w = n.toNat + k := by omega
    rw [h.to_at (Nat.lt_succ_self k)]
    split
    ·rename_i hz
     refine ⟨by omega, by omega, ?_⟩
     have e : (n + (k : Int)).toNat = n.toNat + k := by omega
     rw [e, h.to_at (Nat.lt_succ_self k), if_pos hz]
    ·exact up (p3 (by omega))
  ·rcases Nat.lt_or_ge i k with h1 | h1
   ·rw [h.g_keep (Nat.le_succ k) h1] at ho ⊢
    exact up (hI.ga i h1 ho)
   ·obtain rfl : i = k := by omega
    rw [h.g_at (Nat.lt_succ_self i)] at ho ⊢
    exact up (p1 ho)
  ·rcases Nat.lt_or_ge i k with h1 | h1
   ·rw [h.g_keep (Nat.le_succ k) h1] at ho ⊢
    exact up (hI.gb i h1 ho)
   ·obtain rfl : i = k := by omega
    rw [h.g_at (Nat.lt_succ_self i)] at ho ⊢
    exact up (p2 ho)
end
theorem foldChain (c : Circ) : Chain c.inputs (foldTo c) (fun k => foldG c.inputs (foldTo c k).gates (moveG (foldTo c k).to (gateAt c k))) := ⟨rfl, fun _ => rfl⟩
theorem shareChain (c : Circ) : Chain c.inputs (shareTo c) (fun k => shareG c.inputs (shareTo c k) (gateAt c k)) := ⟨rfl, fun _ => rfl⟩
theorem notF_P {n : Int} {gs : List Gt} {P : Int → Prop} {a : Int} (ha : P a) (hlt : a < n + (gs.length : Int)) (harg : ∀ x, P x → isW n gs x 2 = true → x < n + (gs.length : Int) → P (argW n gs x)) :
 (2 ≤ (notF n gs a).1.op → P (notF n gs a).1.a) ∧ (3 ≤ (notF n gs a).1.op → P (notF n gs a).1.b) ∧ (0 ≤ (notF n gs a).2 → P (notF n gs a).2) := by
 unfold notF
 split
 ·exact ⟨fun h => by have h : (2 : Int) ≤ 1 := h
                     omega, fun h => by have h : (3 : Int) ≤ 1 := h
                                        omega, fun h => by have h : (0 : Int) ≤ -1 := h
                                                           omega⟩
 ·split
  ·exact ⟨fun h => by have h : (2 : Int) ≤ 0 := h
                      omega, fun h => by have h : (3 : Int) ≤ 0 := h
                                         omega, fun h => by have h : (0 : Int) ≤ -1 := h
                                                            omega⟩
  ·split
   ·rename_i h
    exact ⟨fun _ => ha, fun h => by have h : (3 : Int) ≤ 2 := h
                                    omega, fun _ => harg a ha h hlt⟩
   ·exact ⟨fun _ => ha, fun h => by have h : (3 : Int) ≤ 2 := h
                                    omega, fun h => by have h : (0 : Int) ≤ -1 := h
                                                       omega⟩
theorem foldG_P {n : Int} {gs : List Gt} {P : Int → Prop} {g : Gt} (hg : gateOk (n + (gs.length : Int)) g = true) (pa : 2 ≤ g.op → P g.a) (pb : 3 ≤ g.op → P g.b) (harg : ∀ x, P x → isW n gs x 2 = true → x < n + (gs.length : Int) → P (argW n gs x)) :
 (2 ≤ (foldG n gs g).1.op → P (foldG n gs g).1.a) ∧ (3 ≤ (foldG n gs g).1.op → P (foldG n gs g).1.b) ∧ (0 ≤ (foldG n gs g).2 → P (foldG n gs g).2) := by
 obtain ⟨ho, ha, hb, ha0, hb0⟩ := gateOk_parts hg
 have hc : ∀ o : Int, o = 0 ∨ o = 1 → (2 ≤ ((⟨o, 0, 0⟩, -1) : Gt × Int).1.op → P ((⟨o, 0, 0⟩, -1) : Gt × Int).1.a) ∧ (3 ≤ ((⟨o, 0, 0⟩, -1) : Gt × Int).1.op → P ((⟨o, 0, 0⟩, -1) : Gt × Int).1.b) ∧ (0 ≤ ((⟨o, 0, 0⟩, -1) : Gt × Int).2 → P ((⟨o, 0, 0⟩, -1) : Gt × Int).2) := fun o ho =>
  ⟨fun h => by have h : (2 : Int) ≤ o := h
               omega, fun h => by have h : (3 : Int) ≤ o := h
                                  omega, fun h => by have h : (0 : Int) ≤ -1 := h
                                                     omega⟩
 have hself : ∀ z : Int, (0 ≤ z → P z) → (2 ≤ ((g, z) : Gt × Int).1.op → P ((g, z) : Gt × Int).1.a) ∧ (3 ≤ ((g, z) : Gt × Int).1.op → P ((g, z) : Gt × Int).1.b) ∧ (0 ≤ ((g, z) : Gt × Int).2 → P ((g, z) : Gt × Int).2) := fun z hz => ⟨pa, pb, hz⟩
 have hm : (0 : Int) ≤ -1 → P (-1) := fun h => by omega
 have heither : ∀ ab ne : Int, (ab = 0 ∨ ab = 1) → 3 ≤ g.op → (2 ≤ (eitherF n gs g ab ne).1.op → P (eitherF n gs g ab ne).1.a) ∧ (3 ≤ (eitherF n gs g ab ne).1.op → P (eitherF n gs g ab ne).1.b) ∧ (0 ≤ (eitherF n gs g ab ne).2 → P (eitherF n gs g ab ne).2) := fun ab ne hab h3 => by
  unfold eitherF
  split
  ·exact hc ab hab
  ·split
   ·exact hself _ (fun _ => pb h3)
   ·split
    ·exact hself _ (fun _ => pa (by omega))
    ·split
     ·exact hc ab hab
     ·exact hself _ hm
 unfold foldG
 split
 ·rename_i h
  exact notF_P (pa (by omega)) (ha (by omega)).2 harg
 ·split
  ·exact heither 0 1 (.inl rfl) (by omega)
  ·split
   ·exact heither 1 0 (.inr rfl) (by omega)
   ·split
    ·unfold xorF
     split
     ·exact hself _ (fun _ => pb (by omega))
     ·split
      ·exact hself _ (fun _ => pa (by omega))
      ·split
       ·exact hc 0 (.inl rfl)
       ·split
        ·exact hc 1 (.inr rfl)
        ·split
         ·exact notF_P (pb (by omega)) (hb (by omega)).2 harg
         ·split
          ·exact notF_P (pa (by omega)) (ha (by omega)).2 harg
          ·exact hself _ hm
    ·exact hself _ hm
def baseW (g : Gt) : Nat := if operandsO g.op = 0 then 1 else if operandsO g.op = 1 then 2 else 3
theorem baseW_le (g : Gt) : baseW g ≤ gateWt g := by
 unfold baseW gateWt
 split
 ·omega
 ·split
  ·omega
  ·split <;> omega
theorem baseW_move (to : List Int) (g : Gt) : baseW (moveG to g) = baseW g := rfl
theorem swapG_wt {g : Gt} : gateWt (swapG g) = baseW g := by
 unfold swapG
 split
 ·rename_i h
  have e1 : gateWt ⟨g.op, g.b, g.a⟩ = 3 := by unfold gateWt; dsimp only; rw [if_neg (by omega), if_neg (by omega), if_pos (by omega)]
  have e2 : baseW g = 3 := by unfold baseW; rw [if_neg (by omega), if_neg (by omega)]
  rw [e1, e2]
 ·rename_i h
  unfold gateWt baseW
  split
  ·rfl
  ·split
   ·rfl
   ·have := operandsO_bd g.op
    rw [if_pos (by omega)]
theorem sorted_of_wt {g : Gt} (h : gateWt g = baseW g) : swapG g = g := by
 unfold swapG
 split
 ·rename_i h2
  have e1 : gateWt g = 4 := by unfold gateWt; rw [if_neg (by omega), if_neg (by omega), if_neg (by omega)]
  have e2 : baseW g = 3 := by unfold baseW; rw [if_neg (by omega), if_neg (by omega)]
  omega
 ·rfl
theorem foldG_wt {n : Int} {gs : List Gt} {g : Gt} {lim : Int} (hg : gateOk lim g = true) : baseW (foldG n gs g).1 ≤ baseW g ∧ (baseW (foldG n gs g).1 = baseW g → (foldG n gs g).1 = g) := by
 obtain ⟨ho, ha, hb, ha0, hb0⟩ := gateOk_parts hg
 have hop := operandsO_of ho
 have hw2 : g.op = 2 → baseW g = 2 := fun e => by unfold baseW; rw [e]; rfl
 have hw3 : 3 ≤ g.op → baseW g = 3 := fun e => by
  unfold baseW
  have e : operandsO g.op = 2 := by rw [hop, if_neg (by omega), if_neg (by omega)]
  rw [e]; rfl
 have hconst : ∀ o : Int, o = 0 ∨ o = 1 → 2 ≤ g.op → baseW ((⟨o, 0, 0⟩, -1) : Gt × Int).1 ≤ baseW g ∧ (baseW ((⟨o, 0, 0⟩, -1) : Gt × Int).1 = baseW g → ((⟨o, 0, 0⟩, -1) : Gt × Int).1 = g) := fun o ho2 h2 => by
  have e : baseW ((⟨o, 0, 0⟩, -1) : Gt × Int).1 = 1 := by rcases ho2 with rfl | rfl <;> rfl
  rw [e]
  rcases (by omega : g.op = 2 ∨ 3 ≤ g.op) with h | h
  ·rw [hw2 h]; exact ⟨by omega, fun q => by omega⟩
  ·rw [hw3 h]; exact ⟨by omega, fun q => by omega⟩
 have hself : ∀ z : Int, baseW ((g, z) : Gt × Int).1 ≤ baseW g ∧ (baseW ((g, z) : Gt × Int).1 = baseW g → ((g, z) : Gt × Int).1 = g) := fun z => ⟨Nat.le_refl _, fun _ => rfl⟩
 have hnot : ∀ a, baseW (notF n gs a).1 ≤ 2 := fun a => by
  unfold notF
  split
  ·exact (by decide : 1 ≤ 2)
  ·split
   ·exact (by decide : 1 ≤ 2)
   ·split
    ·exact Nat.le_refl 2
    ·exact Nat.le_refl 2
 unfold foldG
 split
 ·rename_i h
  have h2 := h
  unfold notF
  split
  ·exact hconst 1 (.inr rfl) (by omega)
  ·split
   ·exact hconst 0 (.inl rfl) (by omega)
   ·have e : (⟨2, g.a, 0⟩ : Gt) = g := gt_ext h.symm rfl (hb0 (by omega)).symm
    split
    ·show baseW (⟨2, g.a, 0⟩ : Gt) ≤ _ ∧ (_ → (⟨2, g.a, 0⟩ : Gt) = g)
     rw [e]; exact ⟨Nat.le_refl _, fun _ => rfl⟩
    ·show baseW (⟨2, g.a, 0⟩ : Gt) ≤ _ ∧ (_ → (⟨2, g.a, 0⟩ : Gt) = g)
     rw [e]; exact ⟨Nat.le_refl _, fun _ => rfl⟩
 ·split
  ·unfold eitherF
   split
   ·exact hconst 0 (.inl rfl) (by omega)
   ·split
    ·exact hself _
    ·split
     ·exact hself _
     ·split
      ·exact hconst 0 (.inl rfl) (by omega)
      ·exact hself _
  ·split
   ·unfold eitherF
    split
    ·exact hconst 1 (.inr rfl) (by omega)
    ·split
     ·exact hself _
     ·split
      ·exact hself _
      ·split
       ·exact hconst 1 (.inr rfl) (by omega)
       ·exact hself _
   ·split
    ·have h3 := hw3 (by omega)
     unfold xorF
     split
     ·exact hself _
     ·split
      ·exact hself _
      ·split
       ·exact hconst 0 (.inl rfl) (by omega)
       ·split
        ·exact hconst 1 (.inr rfl) (by omega)
        ·split
         ·have := hnot g.b
          exact ⟨by omega, fun q => by omega⟩
         ·split
          ·have := hnot g.a
           exact ⟨by omega, fun q => by omega⟩
          ·exact hself _
    ·exact hself _
theorem moveG_id {to : List Int} {L : Nat} (h : ∀ w, w < L → to.getD w 0 = (w : Int)) {lim : Int} {g : Gt} (hg : gateOk lim g = true) (hl : lim ≤ (L : Int)) : moveG to g = g := by
 obtain ⟨ho, ha, hb, _, _⟩ := gateOk_parts hg
 refine gt_ext rfl ?_ ?_
 ·rcases (by omega : g.op < 2 ∨ 2 ≤ g.op) with h2 | h2
  ·exact moveG_a0 ho h2
  ·have := ha h2
   rw [moveG_a ho h2]
   show to.getD _ 0 = _
   rw [h _ (by omega)]; omega
 ·rcases (by omega : g.op < 3 ∨ 3 ≤ g.op) with h3 | h3
  ·exact moveG_b0 ho h3
  ·have := hb h3
   rw [moveG_b ho h3]
   show to.getD _ 0 = _
   rw [h _ (by omega)]; omega
theorem outs_id {c : Circ} (hr : rightC c = true) {to : List Int} (h : ∀ w, w < c.inputs.toNat + c.gates.length → to.getD w 0 = (w : Int)) : c.outs.map (toAt to) = c.outs := by
 obtain ⟨⟨h0, h1, _⟩, _, ho⟩ := rightC_parts hr
 have : c.outs.map (toAt to) = c.outs.map id := by
  apply List.map_congr_left
  intro o hm
  obtain ⟨k, hk, rfl⟩ := List.getElem_of_mem hm
  have hb := outOk_at ho hk
  have e : c.outs.getD k 0 = c.outs[k] := by rw [List.getD_eq_getElem?_getD, List.getElem?_eq_getElem hk]; rfl
  rw [e] at hb
  show to.getD _ 0 = c.outs[k]
  rw [h _ (by omega)]; omega
 rw [this, List.map_id]
theorem gates_ext {l m : List Gt} (hl : l.length = m.length) (h : ∀ i, i < l.length → l.getD i default = m.getD i default) : l = m := by
 apply List.ext_getElem hl
 intro i h1 h2
 have := h i h1
 rwa [List.getD_eq_getElem?_getD, List.getD_eq_getElem?_getD, List.getElem?_eq_getElem h1, List.getElem?_eq_getElem h2] at this
theorem sum_range_le (f g : Nat → Nat) (K : Nat) (h : ∀ i, i < K → f i ≤ g i) : ((List.range K).map f).sum ≤ ((List.range K).map g).sum ∧ (((List.range K).map f).sum = ((List.range K).map g).sum → ∀ i, i < K → f i = g i) := by
 induction K with
 | zero => exact ⟨Nat.le_refl _, fun _ i hi => by omega⟩
 | succ K ih =>
  obtain ⟨h1, h2⟩ := ih (fun i hi => h i (by omega))
  have h3 := h K (by omega)
  have e : ∀ f : Nat → Nat, ((List.range (K + 1)).map f).sum = ((List.range K).map f).sum + f K := fun f => by
   rw [List.range_succ, List.map_append, List.sum_append]; simp
  rw [e f, e g]
  refine ⟨by omega, fun q i hi => ?_⟩
  rcases Nat.lt_or_ge i K with h4 | h4
  ·exact h2 (by omega) i h4
  ·obtain rfl : i = K := by omega
   omega
theorem sum_filter_le (q : Nat → Bool) (f g : Nat → Nat) (K : Nat) (h : ∀ i, i < K → q i = true → f i ≤ g i) (h1 : ∀ i, 1 ≤ g i) :
 (((List.range K).filter q).map f).sum + (K - ((List.range K).filter q).length) ≤ ((List.range K).map g).sum := by
 induction K with
 | zero => exact Nat.le_refl _
 | succ K ih =>
  have ih := ih (fun i hi => h i (by omega))
  have hl : ((List.range K).filter q).length ≤ K := Nat.le_trans (List.length_filter_le _ _) (by simp)
  rw [List.range_succ, List.filter_append, List.map_append, List.map_append, List.sum_append, List.sum_append, List.length_append]
  by_cases hq : q K = true
  ·have e : List.filter q [K] = [K] := by simp [hq]
   have := h K (by omega) hq
   rw [e]
   simp only [List.map_cons, List.map_nil, List.sum_cons, List.sum_nil, List.length_cons, List.length_nil]
   omega
  ·have e : List.filter q [K] = [] := by simp [hq]
   have := h1 K
   rw [e]
   simp only [List.map_cons, List.map_nil, List.sum_cons, List.sum_nil, List.length_nil]
   omega
theorem gates_map (c : Circ) : c.gates = (List.range c.gates.length).map (gateAt c) := by
 apply gates_ext (by simp)
 intro i hi
 have e : ((List.range c.gates.length).map (gateAt c)).getD i default = gateAt c i := by
  rw [List.getD_eq_getElem?_getD, List.getElem?_map, List.getElem?_range hi]; rfl
 rw [e]; rfl
theorem meas_sum (c : Circ) : measC c = ((List.range c.gates.length).map (fun i => gateWt (gateAt c i))).sum := by
 unfold measC
 conv => lhs; rw [gates_map c]
 rw [List.map_map]; rfl
theorem gateWt_pos (g : Gt) : 1 ≤ gateWt g := by unfold gateWt; split <;> (try split) <;> (try split) <;> omega
theorem trim_mono {c : Circ} (h : rightC c = true) {x y : Int} (hx : 0 ≤ x) (hxy : x ≤ y) (hy : y < c.inputs + (c.gates.length : Int)) (nx : Ned c x) (ny : Ned c y) : toAt (trimTo c c.gates.length).to x ≤ toAt (trimTo c c.gates.length).to y := by
 obtain ⟨⟨h0, h1, _⟩, _⟩ := rightC_parts h
 have at_ : ∀ z, 0 ≤ z → z < c.inputs + (c.gates.length : Int) → Ned c z → (z < c.inputs ∧ toAt (trimTo c c.gates.length).to z = z) ∨ ∃ i : Nat, z = c.inputs + (i : Int) ∧ toAt (trimTo c c.gates.length).to z = c.inputs + (rank c i : Int) := fun z hz hz2 nz => by
  rcases (by omega : z < c.inputs ∨ c.inputs ≤ z) with h2 | h2
  ·refine .inl ⟨h2, ?_⟩
   show (trimTo c c.gates.length).to.getD z.toNat 0 = z
   rw [trim_to_in c _ (by omega)]; omega
  ·obtain ⟨i, hi⟩ : ∃ i : Nat, z = c.inputs + (i : Int) := ⟨(z - c.inputs).toNat, by omega⟩
   refine .inr ⟨i, hi, ?_⟩
   show (trimTo c c.gates.length).to.getD z.toNat 0 = _
   have e : z.toNat = c.inputs.toNat + i := by omega
   rw [e, trim_to_gate c h0 (by omega), if_pos]
   show needAt _ _ = true
   rw [← hi]; exact nz
 rcases at_ x hx (by omega) nx with ⟨a1, a2⟩ | ⟨i, a1, a2⟩
 ·rcases at_ y (by omega) hy ny with ⟨b1, b2⟩ | ⟨j, b1, b2⟩
  ·omega
  ·omega
 ·rcases at_ y (by omega) hy ny with ⟨b1, b2⟩ | ⟨j, b1, b2⟩
  ·omega
  ·have := rank_mono c (show i ≤ j by omega)
   omega
theorem trim_meas {c : Circ} (h : rightC c = true) : measC (trimC c) + (c.gates.length - rank c c.gates.length) ≤ measC c := by
 obtain ⟨⟨h0, h1, _⟩, _⟩ := rightC_parts h
 have hcl := need_closed h
 have e : (trimC c).gates = ((List.range c.gates.length).filter (ndg c)).map (fun i => moveG (trimTo c c.gates.length).to (gateAt c i)) := by
  rw [trimC, if_pos h]; exact trim_gates h _ (Nat.le_refl _)
 rw [meas_sum c]
 unfold measC
 rw [e, List.map_map]
 refine sum_filter_le (ndg c) _ _ _ (fun i hi hn => ?_) (fun i => gateWt_pos _)
 show gateWt (moveG _ _) ≤ gateWt _
 obtain ⟨ho, ha, hb, _, _⟩ := gateOk_parts (gateAt_ok h hi)
 have hop := operandsO_of ho
 unfold gateWt
 rw [moveG_op]
 split
 ·exact Nat.le_refl _
 ·split
  ·exact Nat.le_refl _
  ·rename_i q1 q2
   have h3 : 3 ≤ (gateAt c i).op := by
    rw [hop] at q1 q2
    split at q1
    ·omega
    ·rename_i r
     rw [if_neg r] at q2
     split at q2 <;> omega
   rw [moveG_a ho (by omega), moveG_b ho h3]
   have x1 := ha (by omega)
   have y1 := hb h3
   split
   ·split <;> omega
   ·rename_i hne
    split
    ·rename_i hle
     exact absurd (trim_mono h x1.1 hle (by omega) (hcl.fst i hi hn (by omega)) (hcl.snd i hi hn h3)) hne
    ·exact Nat.le_refl _
theorem rank_all {c : Circ} (k : Nat) (h : rank c k = k) : ∀ i, i < k → ndg c i = true := by
 induction k with
 | zero => intro i hi; omega
 | succ k ih =>
  intro i hi
  have hle := rank_le c k
  rw [rank_succ] at h
  split at h
  ·rename_i hn
   rcases Nat.lt_or_ge i k with h1 | h1
   ·exact ih (by omega) i h1
   ·obtain rfl : i = k := by omega
    exact hn
  ·omega
theorem all_rank {c : Circ} (k : Nat) (h : ∀ i, i < k → ndg c i = true) : rank c k = k := by
 induction k with
 | zero => rfl
 | succ k ih => rw [rank_succ, if_pos (h k (by omega)), ih (fun i hi => h i (by omega))]
theorem trim_all {c : Circ} (h : rightC c = true) (hn : ∀ i, i < c.gates.length → ndg c i = true) : trimC c = c := by
 obtain ⟨⟨h0, h1, _⟩, _⟩ := rightC_parts h
 have hid : ∀ w, w < c.inputs.toNat + c.gates.length → (trimTo c c.gates.length).to.getD w 0 = (w : Int) := fun w hw => by
  rcases Nat.lt_or_ge w c.inputs.toNat with h2 | h2
  ·exact trim_to_in c _ h2
  ·obtain ⟨i, rfl⟩ : ∃ i, w = c.inputs.toNat + i := ⟨w - c.inputs.toNat, by omega⟩
   rw [trim_to_gate c h0 (by omega), if_pos (hn i (by omega)), all_rank i (fun j hj => hn j (by omega))]; omega
 rw [trimC, if_pos h]
 have e1 : (trimTo c c.gates.length).gates = c.gates := by
  rw [trim_gates h _ (Nat.le_refl _)]
  have e : (List.range c.gates.length).filter (ndg c) = List.range c.gates.length := List.filter_eq_self.2 (fun i hi => hn i (List.mem_range.1 hi))
  rw [e]
  conv => rhs; rw [gates_map c]
  apply List.map_congr_left
  intro i hi
  exact moveG_id hid (gateAt_ok h (List.mem_range.1 hi)) (by have := List.mem_range.1 hi; omega)
 show (⟨c.inputs, (trimTo c c.gates.length).gates, c.outs.map (toAt (trimTo c c.gates.length).to)⟩ : Circ) = c
 rw [e1, outs_id h hid]
end Go.Proofs.Ytiemhbogbaamlaa
