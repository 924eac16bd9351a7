/-
  What a circuit's gates compute, over whatever values the wires have: words, Bools, depths. Plain.
-/
import Derived.Test.YtamijjpnklbgnaaCPlain
namespace Go.Proofs.Ytamijjpnklbgnaa
open Go.RowKit
set_option linter.unusedSimpArgs false
set_option linter.unusedVariables false

/-- One gate after the other: the value of each is appended. -/
def runG {α : Type} (f : Int → α → α → α) (d : α) (gs : List Gt) (vs : List α) : List α :=
  gs.foldl (fun v g => v ++ [f g.op (v.getD g.a.toNat d) (v.getD g.b.toNat d)]) vs
section
variable {α : Type} (f : Int → α → α → α) (d : α)
theorem runG_snoc (gs : List Gt) (g : Gt) (vs : List α) : runG f d (gs ++ [g]) vs = runG f d gs vs ++ [f g.op ((runG f d gs vs).getD g.a.toNat d) ((runG f d gs vs).getD g.b.toNat d)] := by
  simp [runG, List.foldl_append]
theorem runG_length (gs : List Gt) (vs : List α) : (runG f d gs vs).length = vs.length + gs.length := by
  induction gs generalizing vs with
  | nil => simp [runG]
  | cons g l ih =>
    have := ih (vs ++ [f g.op (vs.getD g.a.toNat d) (vs.getD g.b.toNat d)])
    simp only [runG, List.foldl_cons, List.length_append, List.length_cons, List.length_nil] at *
    omega
theorem take_snoc_getD {β : Type} [Inhabited β] (l : List β) (k : Nat) (h : k < l.length) : l.take (k + 1) = l.take k ++ [l.getD k default] := by
  rw [List.take_succ_eq_append_getElem h, List.getD_eq_getElem?_getD, List.getElem?_eq_getElem h]; rfl
theorem runG_take (gs : List Gt) (vs : List α) (k : Nat) (h : k < gs.length) :
    runG f d (gs.take (k + 1)) vs = runG f d (gs.take k) vs ++ [f (gs.getD k default).op ((runG f d (gs.take k) vs).getD (gs.getD k default).a.toNat d) ((runG f d (gs.take k) vs).getD (gs.getD k default).b.toNat d)] := by
  rw [take_snoc_getD gs k h, runG_snoc]
end

def evalW (op : Int) (x y : BitVec 64) : BitVec 64 := if op = 1 then BitVec.allOnes 64 else if op = 2 then ~~~x else if op = 3 then x &&& y else if op = 4 then x ||| y else if op = 5 then x ^^^ y else 0
def evalB (op : Int) (x y : Bool) : Bool := if op = 1 then true else if op = 2 then !x else if op = 3 then x && y else if op = 4 then x || y else if op = 5 then x != y else false
def depthF (op : Int) (x y : Int) : Int := (if operandsF op = 2 then max x y else if operandsF op = 1 then x else 0) + 1
/-- What rightC says of one gate. -/
theorem rightC_parts {c : Circ} (h : rightC c = true) : (0 ≤ c.inputs ∧ c.inputs ≤ 1000 ∧ c.gates.length ≤ 20000 ∧ c.outs.length ≤ 1000) ∧ (∀ k, k < c.gates.length → gateOk (c.inputs + k) (c.gates.getD k default) = true) ∧ c.outs.all (outOk (c.inputs + c.gates.length)) = true := by
  simp only [rightC, gatesOk, Bool.and_eq_true, decide_eq_true_eq] at h
  exact ⟨h.1.1, h.1.2, h.2⟩
theorem gateOk_parts {lim : Int} {g : Gt} (h : gateOk lim g = true) :
    (g.op = 0 ∨ g.op = 1 ∨ g.op = 2 ∨ g.op = 3 ∨ g.op = 4 ∨ g.op = 5) ∧ (2 ≤ g.op → 0 ≤ g.a ∧ g.a < lim) ∧ (3 ≤ g.op → 0 ≤ g.b ∧ g.b < lim) ∧ (g.op < 2 → g.a = 0) ∧ (g.op < 3 → g.b = 0) := by
  simp only [gateOk, wireOk, Bool.and_eq_true, decide_eq_true_eq] at h
  obtain ⟨⟨h1, h2⟩, h3⟩ := h
  have ho : g.op = 0 ∨ g.op = 1 ∨ g.op = 2 ∨ g.op = 3 ∨ g.op = 4 ∨ g.op = 5 := by
    unfold operandsF at h1
    split at h1
    · omega
    · split at h1
      · omega
      · split at h1 <;> omega
  have hop : operandsF g.op = if g.op < 2 then 0 else if g.op < 3 then 1 else 2 := by
    rcases ho with e | e | e | e | e | e <;> rw [e] <;> rfl
  rw [hop] at h2 h3
  refine ⟨ho, fun h => ?_, fun h => ?_, fun h => ?_, fun h => ?_⟩
  · rw [if_neg (by omega)] at h2
    split at h2 <;> omega
  · rw [if_neg (by omega), if_neg (by omega)] at h3
    omega
  · rw [if_pos h] at h2
    omega
  · split at h3
    · omega
    · omega
/-- Depths. -/
def depths (c : Circ) : List Int := runG depthF 0 c.gates (List.replicate c.inputs.toNat 0)
def depthC (c : Circ) : Int := if rightC c = true then (c.outs.map (fun o => (depths c).getD o.toNat 0)).foldl max 0 else 0
theorem depth_bd (gs : List Gt) (vs : List Int) (m : Int) (hm : 0 ≤ m) (h : ∀ k, 0 ≤ vs.getD k 0 ∧ vs.getD k 0 ≤ m) : ∀ k, 0 ≤ (runG depthF 0 gs vs).getD k 0 ∧ (runG depthF 0 gs vs).getD k 0 ≤ m + gs.length := by
  induction gs generalizing vs m with
  | nil => intro k; have := h k; simp only [runG, List.foldl_nil, List.length_nil]; omega
  | cons g l ih =>
    have key : ∀ k, 0 ≤ (vs ++ [depthF g.op (vs.getD g.a.toNat 0) (vs.getD g.b.toNat 0)]).getD k 0 ∧ (vs ++ [depthF g.op (vs.getD g.a.toNat 0) (vs.getD g.b.toNat 0)]).getD k 0 ≤ m + 1 := by
      intro k
      have h1 := h g.a.toNat
      have h2 := h g.b.toNat
      by_cases hk : k < vs.length
      · have := h k
        rw [List.getD_eq_getElem?_getD, List.getElem?_append_left hk, ← List.getD_eq_getElem?_getD]
        omega
      · rw [List.getD_eq_getElem?_getD, List.getElem?_append_right (by omega)]
        by_cases hk2 : k - vs.length = 0
        · rw [hk2]
          simp only [List.getElem?_cons_zero, Option.getD_some, depthF]
          split
          · omega
          · split <;> omega
        · rw [List.getElem?_eq_none (by simp; omega)]
          simp; omega
    intro k
    have := ih _ (m + 1) (by omega) key k
    simp only [runG, List.foldl_cons, List.length_cons] at *
    omega
theorem getD_replicate_zero (n k : Nat) : (List.replicate n (0 : Int)).getD k 0 = 0 := by
  rw [List.getD_eq_getElem?_getD, List.getElem?_replicate]
  split <;> rfl
/-- The values of a circuit's outputs. -/
def outsG {α : Type} (f : Int → α → α → α) (d : α) (c : Circ) (vs : List α) : List α := c.outs.map (fun o => (runG f d c.gates vs).getD o.toNat d)
theorem map_take_snoc {β : Type} (f : Int → β) (os : List Int) (k : Nat) (h : k < os.length) : (os.take (k + 1)).map f = (os.take k).map f ++ [f (os.getD k 0)] := by
  rw [List.take_succ_eq_append_getElem h, List.map_append, List.getD_eq_getElem?_getD, List.getElem?_eq_getElem h]; rfl
end Go.Proofs.Ytamijjpnklbgnaa
