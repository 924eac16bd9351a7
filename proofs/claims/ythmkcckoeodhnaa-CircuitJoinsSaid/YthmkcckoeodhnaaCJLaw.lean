/-
  Plain: a joined circuit composes; it is right; its depth is at most the sum.
-/
import Derived.Test.YthmkcckoeodhnaaCJPlain
import Derived.Test.YthmkcckoeodhnaaCBits
import Derived.Test.YthmkcckoeodhnaaCEval
namespace Go.Proofs.Ythmkcckoeodhnaa
open Go.RowKit
set_option linter.unusedSimpArgs false
set_option linter.unusedVariables false

theorem joinWire_lt (a b : Circ) (x : Int) (k : Nat) (h : 0 ≤ x) (hk : x < b.inputs + k) (hr : (a.outs.length : Int) = b.inputs) (ho : a.outs.all (outOk (a.inputs + a.gates.length)) = true) (ha : 0 ≤ a.inputs) :
    0 ≤ joinWire a b x ∧ joinWire a b x < a.inputs + a.gates.length + k := by
  unfold joinWire
  split
  · rename_i hlt
    have := outOk_at ho (k := x.toNat) (by omega)
    omega
  · omega

theorem getD_left {α : Type} (xs ys : List α) (k : Nat) (d : α) (h : k < xs.length) : (xs ++ ys).getD k d = xs.getD k d := by
  rw [List.getD_eq_getElem?_getD, List.getElem?_append_left h, List.getD_eq_getElem?_getD]
theorem getD_last {α : Type} (xs : List α) (y d : α) (k : Nat) (h : k = xs.length) : (xs ++ [y]).getD k d = y := by
  subst h; simp [List.getD_eq_getElem?_getD]

/-- What does not read an operand that the gate has not. -/
def Resp {α : Type} (f : Int → α → α → α) : Prop := ∀ op x y x' y', (operandsF op = 0 → f op x y = f op x' y') ∧ (operandsF op = 1 → f op x y = f op x y')
theorem operandsF_one {op : Int} (h : operandsF op = 1) : op = 2 := by
  unfold operandsF at h
  split at h
  · omega
  · split at h
    · assumption
    · split at h <;> omega
theorem operandsF_zero {op : Int} (h : operandsF op = 0) : op = 0 ∨ op = 1 := by
  unfold operandsF at h
  split at h
  · assumption
  · split at h
    · omega
    · split at h <;> omega
theorem resp_evalB : Resp evalB := by
  intro op x y x' y'
  refine ⟨fun h => ?_, fun h => ?_⟩
  · rcases operandsF_zero h with e | e <;> subst e <;> rfl
  · have e := operandsF_one h; subst e; rfl
theorem resp_depthF : Resp depthF := by
  intro op x y x' y'
  refine ⟨fun h => ?_, fun h => ?_⟩
  · simp [depthF, h]
  · simp [depthF, h]

structure Joins (a b : Circ) : Prop where
  ra : rightC a = true
  rb : rightC b = true
  io : (a.outs.length : Int) = b.inputs
  sum : a.gates.length + b.gates.length ≤ 20000
theorem joins_of {a b : Circ} (h : joinErr a b = 0) : Joins a b := by
  unfold joinErr at h
  split at h
  · rename_i h1
    split at h
    · rename_i h2
      exact ⟨h1.1, h1.2.1, h1.2.2, h2⟩
    · omega
  · omega

theorem runG_append {α : Type} (f : Int → α → α → α) (d : α) (gs hs : List Gt) (vs : List α) : runG f d (gs ++ hs) vs = runG f d hs (runG f d gs vs) := by simp [runG, List.foldl_append]

theorem join_run {α : Type} (f : Int → α → α → α) (d : α) (hf : Resp f) (a b : Circ) (h : Joins a b) (vs : List α) (hv : (vs.length : Int) = a.inputs) (k : Nat) (hk : k ≤ b.gates.length) :
    ∀ x : Nat, x < a.outs.length + k → (runG f d ((b.gates.take k).map (joinGate a b)) (runG f d a.gates vs)).getD (joinWire a b x).toNat d = (runG f d (b.gates.take k) (outsG f d a vs)).getD x d := by
  obtain ⟨⟨a0, a1, a2, a3⟩, ag, ao⟩ := rightC_parts h.ra
  obtain ⟨⟨b0, b1, b2, b3⟩, bg, bo⟩ := rightC_parts h.rb
  have hio := h.io
  have LV : (runG f d a.gates vs).length = vs.length + a.gates.length := runG_length f d _ _
  have LA : (outsG f d a vs).length = a.outs.length := by simp [outsG]
  induction k with
  | zero =>
    intro x hx
    simp only [List.take_zero, List.map_nil, runG, List.foldl_nil]
    have : joinWire a b x = a.outs.getD x 0 := by unfold joinWire; rw [if_pos (by omega), Int.toNat_natCast]
    rw [this]
    simp only [outsG, List.getD_eq_getElem?_getD, List.getElem?_map, List.getElem?_eq_getElem (show x < a.outs.length by omega), Option.map_some, Option.getD_some, runG]
  | succ k ih =>
    have ih := ih (by omega)
    have hkl : k < b.gates.length := by omega
    have hg := bg k hkl
    rw [show (b.gates.take (k + 1)).map (joinGate a b) = (b.gates.take k).map (joinGate a b) ++ [joinGate a b (b.gates.getD k default)] from map_take_g _ _ _ hkl, runG_snoc, runG_take f d _ _ _ hkl]
    generalize hgd : b.gates.getD k default = g at hg
    have LR : (runG f d ((b.gates.take k).map (joinGate a b)) (runG f d a.gates vs)).length = vs.length + a.gates.length + k := by
      rw [runG_length, LV, List.length_map, List.length_take]; omega
    have LB : (runG f d (b.gates.take k) (outsG f d a vs)).length = a.outs.length + k := by
      rw [runG_length, LA, List.length_take]; omega
    generalize hR : runG f d ((b.gates.take k).map (joinGate a b)) (runG f d a.gates vs) = R at ih LR
    generalize hB : runG f d (b.gates.take k) (outsG f d a vs) = B at ih LB
    have key : f (joinGate a b g).op (R.getD (joinGate a b g).a.toNat d) (R.getD (joinGate a b g).b.toNat d) = f g.op (B.getD g.a.toNat d) (B.getD g.b.toNat d) := by
      rcases gateOk_ops hg with h0 | ⟨h1, x0, x1⟩ | ⟨h2, x0, x1, y0, y1⟩
      · rw [joinGate0 a b g h0]
        exact (hf _ _ _ _ _).1 h0
      · rw [joinGate1 a b g h1]
        have e := ih g.a.toNat (by omega)
        rw [Int.toNat_of_nonneg x0] at e
        show f g.op (R.getD (joinWire a b g.a).toNat d) _ = _
        rw [e]
        exact (hf _ _ _ (B.getD g.a.toNat d) _).2 h1
      · rw [joinGate2 a b g h2]
        have e := ih g.a.toNat (by omega)
        have e' := ih g.b.toNat (by omega)
        rw [Int.toNat_of_nonneg x0] at e
        rw [Int.toNat_of_nonneg y0] at e'
        show f g.op (R.getD (joinWire a b g.a).toNat d) (R.getD (joinWire a b g.b).toNat d) = _
        rw [e, e']
    rw [key]
    generalize f g.op (B.getD g.a.toNat d) (B.getD g.b.toNat d) = u
    intro x hx
    by_cases hxk : x < a.outs.length + k
    · have hj := joinWire_lt a b x k (by omega) (by omega) hio ao a0
      rw [getD_left _ _ _ _ (by omega), getD_left _ _ _ _ (by omega)]
      exact ih x hxk
    · have hj : joinWire a b x = a.inputs + a.gates.length + k := by unfold joinWire; rw [if_neg (by omega)]; omega
      rw [getD_last _ _ _ _ (by omega), getD_last _ _ _ _ (by omega)]

theorem join_outs {α : Type} (f : Int → α → α → α) (d : α) (hf : Resp f) (a b : Circ) (h : Joins a b) (vs : List α) (hv : (vs.length : Int) = a.inputs) :
    outsG f d (joinC a b) vs = outsG f d b (outsG f d a vs) := by
  have key := join_run f d hf a b h vs hv b.gates.length (Nat.le_refl _)
  rw [List.take_length] at key
  obtain ⟨_, _, bo⟩ := rightC_parts h.rb
  have hio := h.io
  show (b.outs.map (joinWire a b)).map (fun o => (runG f d (a.gates ++ b.gates.map (joinGate a b)) vs).getD o.toNat d) = b.outs.map (fun o => (runG f d b.gates (outsG f d a vs)).getD o.toNat d)
  rw [runG_append, List.map_map]
  apply List.map_congr_left
  intro o ho
  rw [List.all_eq_true] at bo
  have hb := bo o ho
  simp only [outOk, decide_eq_true_eq] at hb
  have e := key o.toNat (by omega)
  rw [Int.toNat_of_nonneg hb.1] at e
  exact e

theorem gateOk_mk {lim : Int} {op x y : Int} (h : operandsF op = 0 ∧ x = 0 ∧ y = 0 ∨ operandsF op = 1 ∧ (0 ≤ x ∧ x < lim) ∧ y = 0 ∨ operandsF op = 2 ∧ (0 ≤ x ∧ x < lim) ∧ (0 ≤ y ∧ y < lim)) : gateOk lim ⟨op, x, y⟩ = true := by
  simp only [gateOk, wireOk, Bool.and_eq_true, decide_eq_true_eq]
  omega
theorem gateOk_split {lim : Int} {g : Gt} (h : gateOk lim g = true) :
    operandsF g.op = 0 ∧ g.a = 0 ∧ g.b = 0 ∨ operandsF g.op = 1 ∧ (0 ≤ g.a ∧ g.a < lim) ∧ g.b = 0 ∨ operandsF g.op = 2 ∧ (0 ≤ g.a ∧ g.a < lim) ∧ (0 ≤ g.b ∧ g.b < lim) := by
  have hb := operandsF_bd g.op
  simp only [gateOk, wireOk, Bool.and_eq_true, decide_eq_true_eq] at h
  omega

theorem right_join (a b : Circ) (h : Joins a b) : rightC (joinC a b) = true := by
  obtain ⟨⟨a0, a1, a2, a3⟩, ag, ao⟩ := rightC_parts h.ra
  obtain ⟨⟨b0, b1, b2, b3⟩, bg, bo⟩ := rightC_parts h.rb
  have hio := h.io
  have hs := h.sum
  have LG : (joinC a b).gates.length = a.gates.length + b.gates.length := by simp [joinC]
  rw [right_true_gates (joinC a b) ⟨a0, a1, by rw [LG]; exact hs, by simpa [joinC] using b3⟩]
  · rw [List.all_eq_true]
    intro o ho
    obtain ⟨o', ho', rfl⟩ := List.mem_map.1 (show o ∈ b.outs.map (joinWire a b) from ho)
    rw [List.all_eq_true] at bo
    have hb := bo o' ho'
    simp only [outOk, decide_eq_true_eq] at hb
    have := joinWire_lt a b o' b.gates.length hb.1 hb.2 hio ao a0
    simp only [outOk, decide_eq_true_eq, LG]
    show 0 ≤ joinWire a b o' ∧ joinWire a b o' < a.inputs + ((a.gates.length + b.gates.length : Nat) : Int)
    omega
  · intro k hk
    rw [LG] at hk
    show gateOk (a.inputs + k) ((a.gates ++ b.gates.map (joinGate a b)).getD k default) = true
    by_cases hka : k < a.gates.length
    · rw [getD_left _ _ _ _ hka]; exact ag k hka
    · obtain ⟨j, rfl⟩ : ∃ j, k = a.gates.length + j := ⟨k - a.gates.length, by omega⟩
      have e : (a.gates ++ b.gates.map (joinGate a b)).getD (a.gates.length + j) default = joinGate a b (b.gates.getD j default) := by
        rw [List.getD_eq_getElem?_getD, List.getElem?_append_right (by omega), List.getElem?_map, Nat.add_sub_cancel_left, List.getElem?_eq_getElem (show j < b.gates.length by omega), List.getD_eq_getElem?_getD, List.getElem?_eq_getElem (show j < b.gates.length by omega)]
        rfl
      rw [e]
      have hg := bg j (by omega)
      generalize b.gates.getD j default = g at hg
      rcases gateOk_split hg with ⟨h0, x0, y0⟩ | ⟨h1, x0, y0⟩ | ⟨h2, x0, y0⟩
      · rw [joinGate0 a b g h0]; exact gateOk_mk (.inl ⟨h0, x0, y0⟩)
      · rw [joinGate1 a b g h1]
        have := joinWire_lt a b g.a j x0.1 x0.2 hio ao a0
        exact gateOk_mk (.inr (.inl ⟨h1, by omega, y0⟩))
      · rw [joinGate2 a b g h2]
        have := joinWire_lt a b g.a j x0.1 x0.2 hio ao a0
        have := joinWire_lt a b g.b j y0.1 y0.2 hio ao a0
        exact gateOk_mk (.inr (.inr ⟨h2, by omega, by omega⟩))

/-- Depths above other beginnings. -/
theorem depth_mono (gs : List Gt) (D : Int) (hD : 0 ≤ D) (vs us : List Int) (hl : vs.length = us.length) (h : ∀ k, vs.getD k 0 ≤ D + us.getD k 0) : ∀ k, (runG depthF 0 gs vs).getD k 0 ≤ D + (runG depthF 0 gs us).getD k 0 := by
  induction gs generalizing vs us with
  | nil => exact h
  | cons g l ih =>
    simp only [runG, List.foldl_cons]
    refine ih _ _ (by simp [hl]) ?_
    have hx := h g.a.toNat
    have hy := h g.b.toNat
    have key : depthF g.op (vs.getD g.a.toNat 0) (vs.getD g.b.toNat 0) ≤ D + depthF g.op (us.getD g.a.toNat 0) (us.getD g.b.toNat 0) := by
      unfold depthF; split
      · omega
      · split <;> omega
    generalize depthF g.op (vs.getD g.a.toNat 0) (vs.getD g.b.toNat 0) = u at key
    generalize depthF g.op (us.getD g.a.toNat 0) (us.getD g.b.toNat 0) = t at key
    intro k
    by_cases hk : k < vs.length
    · rw [getD_left _ _ _ _ hk, getD_left _ _ _ _ (by omega)]; exact h k
    · by_cases hk' : k = vs.length
      · rw [getD_last _ _ _ _ hk', getD_last _ _ _ _ (by omega)]; exact key
      · rw [List.getD_eq_getElem?_getD, List.getD_eq_getElem?_getD, List.getElem?_eq_none (by simp; omega), List.getElem?_eq_none (by simp; omega)]
        simp; omega

theorem foldl_max_le (xs : List Int) (m M : Int) (hm : m ≤ M) (h : ∀ x ∈ xs, x ≤ M) : xs.foldl max m ≤ M := by
  induction xs generalizing m with
  | nil => exact hm
  | cons x l ih =>
    rw [List.foldl_cons]
    have := h x (List.mem_cons_self ..)
    exact ih _ (by omega) (fun y hy => h y (List.mem_cons_of_mem _ hy))
theorem le_foldl_max (xs : List Int) (m : Int) : m ≤ xs.foldl max m ∧ ∀ x ∈ xs, x ≤ xs.foldl max m := by
  induction xs generalizing m with
  | nil => simp
  | cons x l ih =>
    rw [List.foldl_cons]
    obtain ⟨h1, h2⟩ := ih (max m x)
    refine ⟨by omega, fun y hy => ?_⟩
    rcases List.mem_cons.1 hy with rfl | hy
    · omega
    · exact h2 y hy

theorem depth_join (a b : Circ) (h : Joins a b) : depthC (joinC a b) ≤ depthC a + depthC b := by
  obtain ⟨⟨a0, a1, a2, a3⟩, ag, ao⟩ := rightC_parts h.ra
  obtain ⟨⟨b0, b1, b2, b3⟩, bg, bo⟩ := rightC_parts h.rb
  have hio := h.io
  rw [depthC, if_pos (right_join a b h), depthC, if_pos h.ra, depthC, if_pos h.rb]
  have hin : (joinC a b).inputs = a.inputs := rfl
  have e := join_outs depthF 0 resp_depthF a b h (List.replicate a.inputs.toNat 0) (by simp; omega)
  have e1 : ((joinC a b).outs.map (fun o => (depths (joinC a b)).getD o.toNat 0)) = outsG depthF 0 (joinC a b) (List.replicate a.inputs.toNat 0) := rfl
  have e2 : (a.outs.map (fun o => (depths a).getD o.toNat 0)) = outsG depthF 0 a (List.replicate a.inputs.toNat 0) := rfl
  have e3 : (b.outs.map (fun o => (depths b).getD o.toNat 0)) = outsG depthF 0 b (List.replicate b.inputs.toNat 0) := rfl
  rw [e1, e2, e3, e]
  generalize hA : outsG depthF 0 a (List.replicate a.inputs.toNat 0) = A
  have LA : A.length = a.outs.length := by rw [← hA]; simp [outsG]
  obtain ⟨p0, p1⟩ := le_foldl_max A 0
  generalize A.foldl max 0 = D at p0 p1
  obtain ⟨q0, q1⟩ := le_foldl_max (outsG depthF 0 b (List.replicate b.inputs.toNat 0)) 0
  have hm := depth_mono b.gates D p0 A (List.replicate b.inputs.toNat 0) (by simp; omega) (fun k => by
    rw [List.getD_eq_getElem?_getD, List.getD_eq_getElem?_getD]
    have z : (List.replicate b.inputs.toNat (0 : Int))[k]?.getD 0 = 0 := by
      rw [List.getElem?_replicate]; split <;> rfl
    rw [z]
    by_cases hk : k < A.length
    · rw [List.getElem?_eq_getElem hk]
      have := p1 _ (List.getElem_mem hk)
      simp only [Option.getD_some]; omega
    · rw [List.getElem?_eq_none (by omega)]
      simp only [Option.getD_none]; omega)
  refine foldl_max_le _ _ _ (by omega) ?_
  intro x hx
  obtain ⟨o, ho, rfl⟩ := List.mem_map.1 (show x ∈ b.outs.map (fun o => (runG depthF 0 b.gates A).getD o.toNat 0) from hx)
  have h1 := hm o.toNat
  have h2 := q1 _ (List.mem_map.2 ⟨o, ho, rfl⟩)
  omega

theorem lo_bit : lo = bitOf 0 := rfl
theorem bit_bw (b : Bool) : bitOf 0 (bw b) = b := by cases b <;> rfl
theorem eval_lo (c : Circ) (ins : List Bool) : (outsG evalW 0 c (ins.map bw)).map lo = outsG evalB false c ins := by
  rw [lo_bit, outsG_bit _ _ _ (by omega), List.map_map]
  congr 1
  rw [show bitOf 0 ∘ bw = id from funext bit_bw, List.map_id]
theorem okC_join (a b : Circ) (h : Joins a b) (n : Nat) (hn : okC a n = true) : okC (joinC a b) n = true := by
  simp only [okC, Bool.and_eq_true, decide_eq_true_eq] at *
  exact ⟨right_join a b h, hn.2⟩
end Go.Proofs.Ythmkcckoeodhnaa
