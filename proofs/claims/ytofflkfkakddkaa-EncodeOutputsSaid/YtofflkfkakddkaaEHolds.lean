/-
  Which values satisfy the clauses of a circuit: plain laws. Nothing of the program stands here.
-/
import Derived.Test.YtofflkfkakddkaaEPlain
import Derived.Test.YtofflkfkakddkaaCRunG
namespace Go.Proofs.Ytofflkfkakddkaa
open Go.RowKit
set_option linter.unusedSimpArgs false
set_option linter.unusedVariables false

def litB (v : List Bool) (x : Int) : Bool := decide (1 ≤ max x (-x) ∧ max x (-x) ≤ (v.length : Int)) && (v.getD (max x (-x) - 1).toNat false == decide (0 < x))
def clB (v : List Bool) (c : List Int) : Bool := c.any (litB v)
def holdsL (cls : List (List Int)) (v : List Bool) : Bool := cls.all (clB v)
theorem litB_pos {v : List Bool} {g : Int} (h1 : 1 ≤ g) (h2 : g ≤ v.length) : litB v g = v.getD (g - 1).toNat false := by
  unfold litB
  rw [show max g (-g) = g by omega, decide_eq_true (⟨h1, h2⟩ : 1 ≤ g ∧ g ≤ (v.length : Int)), decide_eq_true (by omega : 0 < g)]
  simp
theorem litB_neg {v : List Bool} {g : Int} (h1 : 1 ≤ g) (h2 : g ≤ v.length) : litB v (-g) = !v.getD (g - 1).toNat false := by
  unfold litB
  rw [show max (-g) (- -g) = g by omega, decide_eq_true (⟨h1, h2⟩ : 1 ≤ g ∧ g ≤ (v.length : Int)), decide_eq_false (by omega : ¬ 0 < -g)]
  simp
theorem clausesF_holds {op g a b : Int} {v : List Bool} (ho : op = 0 ∨ op = 1 ∨ op = 2 ∨ op = 3 ∨ op = 4 ∨ op = 5) (hg : 1 ≤ g ∧ g ≤ v.length) (ha : 2 ≤ op → 1 ≤ a ∧ a ≤ v.length) (hb : 3 ≤ op → 1 ≤ b ∧ b ≤ v.length) :
    holdsL (clausesF op g a b) v = (v.getD (g - 1).toNat false == evalB op (v.getD (a - 1).toNat false) (v.getD (b - 1).toNat false)) := by
  have g1 := litB_pos hg.1 hg.2
  have g2 := litB_neg hg.1 hg.2
  rcases ho with rfl | rfl | rfl | rfl | rfl | rfl
  · show holdsL [[-g]] v = (v.getD (g - 1).toNat false == (false))
    simp only [holdsL, clB, List.all_cons, List.all_nil, List.any_cons, List.any_nil, g1, g2]
    generalize v.getD (g - 1).toNat false = x
    cases x <;> rfl
  · show holdsL [[g]] v = (v.getD (g - 1).toNat false == (true))
    simp only [holdsL, clB, List.all_cons, List.all_nil, List.any_cons, List.any_nil, g1, g2]
    generalize v.getD (g - 1).toNat false = x
    cases x <;> rfl
  · show holdsL [[g, a], [-g, -a]] v = (v.getD (g - 1).toNat false == (!(v.getD (a - 1).toNat false)))
    have a1 := litB_pos (ha (by omega)).1 (ha (by omega)).2
    have a2 := litB_neg (ha (by omega)).1 (ha (by omega)).2
    simp only [holdsL, clB, List.all_cons, List.all_nil, List.any_cons, List.any_nil, g1, g2, a1, a2]
    generalize v.getD (g - 1).toNat false = x
    generalize v.getD (a - 1).toNat false = y
    cases x <;> cases y <;> rfl
  · show holdsL [[-g, a], [-g, b], [g, -a, -b]] v = (v.getD (g - 1).toNat false == (((v.getD (a - 1).toNat false) && (v.getD (b - 1).toNat false))))
    have a1 := litB_pos (ha (by omega)).1 (ha (by omega)).2
    have a2 := litB_neg (ha (by omega)).1 (ha (by omega)).2
    have b1 := litB_pos (hb (by omega)).1 (hb (by omega)).2
    have b2 := litB_neg (hb (by omega)).1 (hb (by omega)).2
    simp only [holdsL, clB, List.all_cons, List.all_nil, List.any_cons, List.any_nil, g1, g2, a1, a2, b1, b2]
    generalize v.getD (g - 1).toNat false = x
    generalize v.getD (a - 1).toNat false = y
    generalize v.getD (b - 1).toNat false = z
    cases x <;> cases y <;> cases z <;> rfl
  · show holdsL [[g, -a], [g, -b], [-g, a, b]] v = (v.getD (g - 1).toNat false == (((v.getD (a - 1).toNat false) || (v.getD (b - 1).toNat false))))
    have a1 := litB_pos (ha (by omega)).1 (ha (by omega)).2
    have a2 := litB_neg (ha (by omega)).1 (ha (by omega)).2
    have b1 := litB_pos (hb (by omega)).1 (hb (by omega)).2
    have b2 := litB_neg (hb (by omega)).1 (hb (by omega)).2
    simp only [holdsL, clB, List.all_cons, List.all_nil, List.any_cons, List.any_nil, g1, g2, a1, a2, b1, b2]
    generalize v.getD (g - 1).toNat false = x
    generalize v.getD (a - 1).toNat false = y
    generalize v.getD (b - 1).toNat false = z
    cases x <;> cases y <;> cases z <;> rfl
  · show holdsL [[-g, a, b], [-g, -a, -b], [g, -a, b], [g, a, -b]] v = (v.getD (g - 1).toNat false == (((v.getD (a - 1).toNat false) != (v.getD (b - 1).toNat false))))
    have a1 := litB_pos (ha (by omega)).1 (ha (by omega)).2
    have a2 := litB_neg (ha (by omega)).1 (ha (by omega)).2
    have b1 := litB_pos (hb (by omega)).1 (hb (by omega)).2
    have b2 := litB_neg (hb (by omega)).1 (hb (by omega)).2
    simp only [holdsL, clB, List.all_cons, List.all_nil, List.any_cons, List.any_nil, g1, g2, a1, a2, b1, b2]
    generalize v.getD (g - 1).toNat false = x
    generalize v.getD (a - 1).toNat false = y
    generalize v.getD (b - 1).toNat false = z
    cases x <;> cases y <;> cases z <;> rfl
theorem holdsL_append (a b : List (List Int)) (v : List Bool) : holdsL (a ++ b) v = (holdsL a v && holdsL b v) := by simp [holdsL, List.all_append]
theorem placeTo_holds {nv : Int} {ins : List Int} {gs : List Gt} {v : List Bool} (k : Nat) (h : ∀ i, i < k → holdsL (gateCls nv ins gs i) v = true) : holdsL (placeTo nv ins gs k) v = true := by
  induction k with
  | zero => rfl
  | succ k ih => rw [placeTo_succ, holdsL_append, ih (fun i hi => h i (by omega)), h k (by omega)]; rfl
theorem placeTo_fails {nv : Int} {ins : List Int} {gs : List Gt} {v : List Bool} (k i : Nat) (hi : i < k) (h : holdsL (gateCls nv ins gs i) v = false) : holdsL (placeTo nv ins gs k) v = false := by
  induction k with
  | zero => omega
  | succ k ih =>
    rw [placeTo_succ, holdsL_append]
    by_cases e : i = k
    · rw [← e, h]; simp
    · rw [ih (by omega)]; rfl
/-! the values of the wires -/
theorem runG_pre {α : Type} (f : Int → α → α → α) (d : α) (gs : List Gt) (vs : List α) (j w : Nat) (hj : j ≤ gs.length) (hw : w < vs.length + j) : ∀ k, j ≤ k → k ≤ gs.length → (runG f d (gs.take k) vs).getD w d = (runG f d (gs.take j) vs).getD w d := by
  intro k
  induction k with
  | zero => intro h1 h2; rw [show j = 0 by omega]
  | succ k ih =>
    intro h1 h2
    by_cases e : j = k + 1
    · rw [e]
    · rw [runG_take f d gs vs k (by omega), List.getD_eq_getElem?_getD, List.getElem?_append_left (by rw [runG_length, List.length_take]; omega), ← List.getD_eq_getElem?_getD, ih (by omega) (by omega)]
theorem runG_pre' {α : Type} (f : Int → α → α → α) (d : α) (gs : List Gt) (vs : List α) (j w : Nat) (hj : j ≤ gs.length) (hw : w < vs.length + j) : (runG f d gs vs).getD w d = (runG f d (gs.take j) vs).getD w d := by
  have := runG_pre f d gs vs j w hj hw gs.length hj (Nat.le_refl _)
  rw [List.take_length] at this
  exact this
theorem evalB_congr {op : Int} {x y x' y' : Bool} (ho : op = 0 ∨ op = 1 ∨ op = 2 ∨ op = 3 ∨ op = 4 ∨ op = 5) (hx : 2 ≤ op → x = x') (hy : 3 ≤ op → y = y') : evalB op x y = evalB op x' y' := by
  rcases ho with rfl | rfl | rfl | rfl | rfl | rfl
  · rfl
  · rfl
  · rw [hx (by omega)]; rfl
  all_goals rw [hx (by omega), hy (by omega)]
theorem runG_in {α : Type} (f : Int → α → α → α) (d : α) (gs : List Gt) (vs : List α) (w : Nat) (hw : w < vs.length) : (runG f d gs vs).getD w d = vs.getD w d := by
  rw [runG_pre' f d gs vs 0 w (Nat.zero_le _) (by omega)]; rfl
theorem runB_at (gs : List Gt) (vs : List Bool) (i : Nat) (hi : i < gs.length) (hok : gateOk ((vs.length : Int) + i) (gs.getD i default) = true) :
    (runG evalB false gs vs).getD (vs.length + i) false = evalB (gs.getD i default).op ((runG evalB false gs vs).getD (gs.getD i default).a.toNat false) ((runG evalB false gs vs).getD (gs.getD i default).b.toNat false) := by
  obtain ⟨ho, ga, gb, _, _⟩ := gateOk_parts hok
  rw [runG_pre' evalB false gs vs (i + 1) (vs.length + i) (by omega) (by omega), runG_take evalB false gs vs i hi]
  have hl : (runG evalB false (gs.take i) vs).length = vs.length + i := by rw [runG_length, List.length_take]; omega
  rw [List.getD_eq_getElem?_getD, List.getElem?_append_right (by omega), hl, Nat.sub_self]
  refine evalB_congr ho (fun h => ?_) (fun h => ?_)
  · have := ga h
    exact (runG_pre' evalB false gs vs i _ (by omega) (by omega)).symm
  · have := gb h
    exact (runG_pre' evalB false gs vs i _ (by omega) (by omega)).symm
/-! values of the variables that follow the values of the wires -/
theorem wiresV_gate (nv : Int) (ins : List Int) (k i : Nat) (hi : i < k) : (wiresV nv ins k).getD (ins.length + i) 0 = nv + (i : Int) + 1 := by
  unfold wiresV
  rw [List.getD_eq_getElem?_getD, List.getElem?_append_right (by omega), Nat.add_sub_cancel_left, List.getElem?_map, List.getElem?_range hi]; rfl
structure Follows (nv : Int) (ins : List Int) (gs : List Gt) (vs all : List Bool) : Prop where
  len : vs.length = ins.length
  ok : ∀ i, i < gs.length → gateOk ((ins.length : Int) + i) (gs.getD i default) = true
  at_ : ∀ w, w < ins.length + gs.length → 1 ≤ (wiresV nv ins gs.length).getD w 0 ∧ (wiresV nv ins gs.length).getD w 0 ≤ (all.length : Int)
section
variable {nv : Int} {ins : List Int} {gs : List Gt} {vs all : List Bool}
theorem Follows.gate (h : Follows nv ins gs vs all) {i : Nat} (hi : i < gs.length) :
    holdsL (gateCls nv ins gs i) all = (all.getD ((wiresV nv ins gs.length).getD (ins.length + i) 0 - 1).toNat false == evalB (gs.getD i default).op (all.getD ((wiresV nv ins gs.length).getD (gs.getD i default).a.toNat 0 - 1).toNat false) (all.getD ((wiresV nv ins gs.length).getD (gs.getD i default).b.toNat 0 - 1).toNat false)) := by
  obtain ⟨ho, ga, gb, _, _⟩ := gateOk_parts (h.ok i hi)
  have hg := h.at_ (ins.length + i) (by omega)
  rw [wiresV_gate nv ins gs.length i hi] at hg ⊢
  unfold gateCls
  have ha : 2 ≤ (gs.getD i default).op → (wiresV nv ins i).getD (gs.getD i default).a.toNat 0 = (wiresV nv ins gs.length).getD (gs.getD i default).a.toNat 0 := fun e => (wiresV_more nv ins i gs.length _ (by have := ga e; omega) (by omega)).symm
  have hb : 3 ≤ (gs.getD i default).op → (wiresV nv ins i).getD (gs.getD i default).b.toNat 0 = (wiresV nv ins gs.length).getD (gs.getD i default).b.toNat 0 := fun e => (wiresV_more nv ins i gs.length _ (by have := gb e; omega) (by omega)).symm
  rw [clausesF_holds ho hg (fun e => by rw [ha e]; exact h.at_ _ (by have := ga e; omega)) (fun e => by rw [hb e]; exact h.at_ _ (by have := gb e; omega))]
  rw [evalB_congr ho (fun e => by rw [ha e]) (fun e => by rw [hb e])]
theorem Follows.all_ (h : Follows nv ins gs vs all) (hv : ∀ w, w < ins.length + gs.length → all.getD ((wiresV nv ins gs.length).getD w 0 - 1).toNat false = (runG evalB false gs vs).getD w false) :
    holdsL (placeTo nv ins gs gs.length) all = true := by
  refine placeTo_holds _ (fun i hi => ?_)
  obtain ⟨ho, ga, gb, _, _⟩ := gateOk_parts (h.ok i hi)
  rw [h.gate hi, hv _ (by omega), ← h.len, runB_at gs vs i hi (by rw [h.len]; exact h.ok i hi), beq_iff_eq]
  exact evalB_congr ho (fun e => (hv _ (by have := ga e; omega)).symm) (fun e => (hv _ (by have := gb e; omega)).symm)
end
/-! EncodeValues -/
theorem wiresV_upto1 (n k : Nat) : wiresV n (upto1 n) k = upto1 (n + k) := by
  induction k with
  | zero => rw [wiresV_zero]; rfl
  | succ k ih => rw [wiresV_succ, ih, ← Nat.add_assoc, upto1_succ]; rw [show ((n + k : Nat) : Int) = (n : Int) + (k : Int) by omega]
theorem upto1_getD (n w : Nat) (h : w < n) : (upto1 n).getD w 0 = (w : Int) + 1 := by
  unfold upto1
  rw [List.getD_eq_getElem?_getD, List.getElem?_map, List.getElem?_range h]; rfl
theorem follows_up {n : Nat} {gs : List Gt} {vs all : List Bool} (hn : vs.length = n) (hok : ∀ i, i < gs.length → gateOk ((n : Int) + i) (gs.getD i default) = true) (hl : all.length = n + gs.length) : Follows n (upto1 n) gs vs all where
  len := by rw [upto1_length]; exact hn
  ok := fun i hi => by rw [upto1_length]; exact hok i hi
  at_ := fun w hw => by rw [upto1_length] at hw; rw [wiresV_upto1, upto1_getD _ _ hw, hl]; omega
theorem values_hold {n : Nat} {gs : List Gt} {vs : List Bool} (hn : vs.length = n) (hok : ∀ i, i < gs.length → gateOk ((n : Int) + i) (gs.getD i default) = true) : holdsL (placeTo n (upto1 n) gs gs.length) (runG evalB false gs vs) = true := by
  refine (follows_up hn hok (by rw [runG_length, hn])).all_ (fun w hw => ?_)
  rw [upto1_length] at hw
  rw [wiresV_upto1, upto1_getD _ _ hw, show ((w : Int) + 1 - 1).toNat = w by omega]
theorem getD_set_ne {α} (l : List α) (i w : Nat) (x d : α) (h : w ≠ i) : (l.set i x).getD w d = l.getD w d := by
  rw [List.getD_eq_getElem?_getD, List.getElem?_set_ne (Ne.symm h), ← List.getD_eq_getElem?_getD]
theorem getD_set_eq {α} (l : List α) (i : Nat) (x d : α) (h : i < l.length) : (l.set i x).getD i d = x := by
  rw [List.getD_eq_getElem?_getD, List.getElem?_set_self h]; rfl
theorem other_fails {n : Nat} {gs : List Gt} {vs : List Bool} (hn : vs.length = n) (hok : ∀ i, i < gs.length → gateOk ((n : Int) + i) (gs.getD i default) = true) (i : Nat) (hi : i < gs.length) :
    holdsL (placeTo n (upto1 n) gs gs.length) ((runG evalB false gs vs).set (n + i) (!(runG evalB false gs vs).getD (n + i) false)) = false := by
  refine placeTo_fails _ i hi ?_
  have hrl : (runG evalB false gs vs).length = n + gs.length := by rw [runG_length, hn]
  obtain ⟨ho, ga, gb, _, _⟩ := gateOk_parts (hok i hi)
  rw [(follows_up (all := (runG evalB false gs vs).set (n + i) (!(runG evalB false gs vs).getD (n + i) false)) hn hok (by rw [List.length_set, hrl])).gate hi]
  have hR := runB_at gs vs i hi (by rw [hn]; exact hok i hi)
  rw [hn] at hR
  rw [wiresV_upto1, upto1_length, upto1_getD _ _ (by omega), show (((n + i : Nat) : Int) + 1 - 1).toNat = n + i by omega, getD_set_eq _ _ _ _ (by omega)]
  have hK : ∀ z : Int, 0 ≤ z → z < n + i → ((runG evalB false gs vs).set (n + i) (!(runG evalB false gs vs).getD (n + i) false)).getD ((upto1 (n + gs.length)).getD z.toNat 0 - 1).toNat false = (runG evalB false gs vs).getD z.toNat false := fun z h1 h2 => by
    rw [upto1_getD _ _ (by omega), show ((z.toNat : Int) + 1 - 1).toNat = z.toNat by omega, getD_set_ne _ _ _ _ _ (by omega)]
  rw [evalB_congr (x' := (runG evalB false gs vs).getD (gs.getD i default).a.toNat false) (y' := (runG evalB false gs vs).getD (gs.getD i default).b.toNat false) ho (fun e => hK _ (ga e).1 (ga e).2) (fun e => hK _ (gb e).1 (gb e).2), ← hR]
  generalize (runG evalB false gs vs).getD (n + i) false = x
  cases x <;> rfl
/-! EncodeOutputs -/
/-- n, n - 1, .. 1. -/
def down1 (n : Nat) : List Int := (List.range n).map (fun (i : Nat) => (n : Int) - (i : Int))
theorem down1_length (n : Nat) : (down1 n).length = n := by simp [down1]
theorem down1_getD (n w : Nat) (h : w < n) : (down1 n).getD w 0 = (n : Int) - w := by
  unfold down1
  rw [List.getD_eq_getElem?_getD, List.getElem?_map, List.getElem?_range h]; rfl
theorem varsOk_down1 (n k : Nat) : varsOk ((n : Int) + k) (down1 n) = true := by
  unfold varsOk
  rw [List.all_eq_true]
  intro x hx
  simp only [down1, List.mem_map, List.mem_range] at hx
  obtain ⟨i, hi, rfl⟩ := hx
  simp [varOk]; omega
/-- The values of the variables of a circuit placed with its inputs backwards. -/
def allB (gs : List Gt) (vs : List Bool) : List Bool := vs.reverse ++ (runG evalB false gs vs).drop vs.length
theorem allB_length (gs : List Gt) (vs : List Bool) : (allB gs vs).length = vs.length + gs.length := by simp [allB, runG_length]
theorem allB_in (gs : List Gt) (vs : List Bool) (i : Nat) (hi : i < vs.length) : (allB gs vs).getD (vs.length - 1 - i) false = vs.getD i false := by
  unfold allB
  rw [List.getD_eq_getElem?_getD, List.getElem?_append_left (by rw [List.length_reverse]; omega), List.getElem?_reverse (by omega), ← List.getD_eq_getElem?_getD]
  congr 1; omega
theorem allB_gate (gs : List Gt) (vs : List Bool) (i : Nat) : (allB gs vs).getD (vs.length + i) false = (runG evalB false gs vs).getD (vs.length + i) false := by
  unfold allB
  rw [List.getD_eq_getElem?_getD, List.getElem?_append_right (by rw [List.length_reverse]; omega), List.length_reverse, Nat.add_sub_cancel_left, List.getElem?_drop, ← List.getD_eq_getElem?_getD]
theorem wires_down {n : Nat} (k w : Nat) (hw : w < n + k) : (wiresV n (down1 n) k).getD w 0 = if w < n then (n : Int) - w else (w : Int) + 1 := by
  by_cases e : w < n
  · rw [if_pos e]
    unfold wiresV
    rw [List.getD_eq_getElem?_getD, List.getElem?_append_left (by rw [down1_length]; exact e), ← List.getD_eq_getElem?_getD, down1_getD _ _ e]
  · rw [if_neg e]
    have := wiresV_gate (n : Int) (down1 n) k (w - n) (by omega)
    rw [down1_length, show n + (w - n) = w by omega] at this
    rw [this]; omega
theorem down_val {n : Nat} {gs : List Gt} {vs : List Bool} (hn : vs.length = n) (w : Nat) (hw : w < n + gs.length) :
    (1 ≤ (wiresV n (down1 n) gs.length).getD w 0 ∧ (wiresV n (down1 n) gs.length).getD w 0 ≤ (n : Int) + gs.length) ∧ (allB gs vs).getD ((wiresV n (down1 n) gs.length).getD w 0 - 1).toNat false = (runG evalB false gs vs).getD w false := by
  rw [wires_down _ _ hw]
  by_cases e : w < n
  · rw [if_pos e, runG_in evalB false gs vs w (by omega), ← allB_in gs vs w (by omega), hn, show ((n : Int) - w - 1).toNat = n - 1 - w by omega]
    exact ⟨by omega, rfl⟩
  · rw [if_neg e, show ((w : Int) + 1 - 1).toNat = w by omega]
    have := allB_gate gs vs (w - n)
    rw [hn, show n + (w - n) = w by omega] at this
    exact ⟨by omega, this⟩
theorem outs_hold {n : Nat} {gs : List Gt} {vs : List Bool} (hn : vs.length = n) (hok : ∀ i, i < gs.length → gateOk ((n : Int) + i) (gs.getD i default) = true) : holdsL (placeTo n (down1 n) gs gs.length) (allB gs vs) = true := by
  have hF : Follows n (down1 n) gs vs (allB gs vs) :=
    { len := by rw [down1_length]; exact hn
      ok := fun i hi => by rw [down1_length]; exact hok i hi
      at_ := fun w hw => by
        rw [down1_length] at hw
        have := (down_val (gs := gs) hn w hw).1
        rw [allB_length]; omega }
  refine hF.all_ (fun w hw => ?_)
  rw [down1_length] at hw
  exact (down_val hn w hw).2
theorem fix_hold {n : Nat} {gs : List Gt} {vs : List Bool} (hn : vs.length = n) : holdsL (fixTo (down1 n) vs n) (allB gs vs) = true := by
  unfold holdsL
  rw [List.all_eq_true]
  intro c hc
  simp only [fixTo, List.mem_map, List.mem_range] at hc
  obtain ⟨i, hi, rfl⟩ := hc
  have h1 := allB_in gs vs i (by omega)
  have h2 : (n : Int) - i ≤ (allB gs vs).length := by rw [allB_length]; omega
  rw [down1_getD _ _ hi]
  have hp := litB_pos (v := allB gs vs) (g := (n : Int) - i) (by omega) h2
  have hq := litB_neg (v := allB gs vs) (g := (n : Int) - i) (by omega) h2
  rw [show ((n : Int) - i - 1).toNat = vs.length - 1 - i by omega, h1] at hp hq
  cases e : vs.getD i false
  · simp only [Bool.false_eq_true, if_false, clB, List.any_cons, List.any_nil, hq, e]; rfl
  · simp only [if_true, clB, List.any_cons, List.any_nil, hp, e]; rfl
/-! a placed formula is right -/
theorem clausesF_right {op g a b V : Int} (ho : op = 0 ∨ op = 1 ∨ op = 2 ∨ op = 3 ∨ op = 4 ∨ op = 5) (hg : 1 ≤ g ∧ g ≤ V) (ha : 2 ≤ op → 1 ≤ a ∧ a ≤ V) (hb : 3 ≤ op → 1 ≤ b ∧ b ≤ V) :
    (clausesF op g a b).all (fun c => c.all (litOk V)) = true := by
  have g1 : litOk V g = true := decide_eq_true (by omega)
  have g2 : litOk V (-g) = true := decide_eq_true (by omega)
  rcases ho with rfl | rfl | rfl | rfl | rfl | rfl
  · simp [clausesF, g1, g2]
  · simp [clausesF, g1, g2]
  · have a1 : litOk V a = true := decide_eq_true (by have := ha (by omega); omega)
    have a2 : litOk V (-a) = true := decide_eq_true (by have := ha (by omega); omega)
    simp [clausesF, g1, g2, a1, a2]
  all_goals
    have a1 : litOk V a = true := decide_eq_true (by have := ha (by omega); omega)
    have a2 : litOk V (-a) = true := decide_eq_true (by have := ha (by omega); omega)
    have b1 : litOk V b = true := decide_eq_true (by have := hb (by omega); omega)
    have b2 : litOk V (-b) = true := decide_eq_true (by have := hb (by omega); omega)
    simp [clausesF, g1, g2, a1, a2, b1, b2]
theorem placeTo_right {nv V : Int} {ins : List Int} {gs : List Gt} (hok : ∀ i, i < gs.length → gateOk ((ins.length : Int) + i) (gs.getD i default) = true)
    (hw : ∀ w, w < ins.length + gs.length → 1 ≤ (wiresV nv ins gs.length).getD w 0 ∧ (wiresV nv ins gs.length).getD w 0 ≤ V) : ∀ k, k ≤ gs.length → (placeTo nv ins gs k).all (fun c => c.all (litOk V)) = true := by
  intro k
  induction k with
  | zero => intro _; rfl
  | succ k ih =>
    intro hk
    rw [placeTo_succ, List.all_append, ih (by omega), Bool.true_and]
    obtain ⟨ho, ga, gb, _, _⟩ := gateOk_parts (hok k (by omega))
    have hg := hw (ins.length + k) (by omega)
    rw [wiresV_gate nv ins gs.length k (by omega)] at hg
    unfold gateCls
    refine clausesF_right ho hg (fun e => ?_) (fun e => ?_)
    · rw [← wiresV_more nv ins k gs.length _ (by have := ga e; omega) (by omega)]
      exact hw _ (by have := ga e; omega)
    · rw [← wiresV_more nv ins k gs.length _ (by have := gb e; omega) (by omega)]
      exact hw _ (by have := gb e; omega)
end Go.Proofs.Ytofflkfkakddkaa
