/-
  Plain: what Join makes.
-/
import Derived.Test.YtamijjpnklbgnaaCRunG
namespace Go.Proofs.Ytamijjpnklbgnaa
open Go.RowKit
set_option linter.unusedSimpArgs false
set_option linter.unusedVariables false

def joinWire (a b : Circ) (x : Int) : Int := if x < b.inputs then a.outs.getD x.toNat 0 else x - b.inputs + a.inputs + a.gates.length
def joinGate (a b : Circ) (g : Gt) : Gt := ⟨g.op, if 1 ≤ operandsF g.op then joinWire a b g.a else g.a, if operandsF g.op = 2 then joinWire a b g.b else g.b⟩
def joinC (a b : Circ) : Circ := ⟨a.inputs, a.gates ++ b.gates.map (joinGate a b), b.outs.map (joinWire a b)⟩
def joinErr (a b : Circ) : Int := if rightC a = true ∧ rightC b = true ∧ (a.outs.length : Int) = b.inputs then (if a.gates.length + b.gates.length ≤ 20000 then 0 else 6) else 2
def noCirc : Circ := ⟨0, [], []⟩
def joinR (a b : Circ) : Circ := if joinErr a b = 0 then joinC a b else noCirc
theorem gatesCells_append (xs ys : List Gt) : gatesCells (xs ++ ys) = gatesCells xs ++ gatesCells ys := by simp [gatesCells]
theorem gatesCells_one (g : Gt) : gatesCells [g] = gtCells g := by simp [gatesCells]
theorem map_take_g (f : Gt → Gt) (gs : List Gt) (k : Nat) (h : k < gs.length) : (gs.take (k + 1)).map f = (gs.take k).map f ++ [f (gs.getD k default)] := by
  rw [take_snoc_getD gs k h, List.map_append]; rfl
theorem map_take_i (f : Int → Int) (os : List Int) (k : Nat) (h : k < os.length) : (os.take (k + 1)).map f = (os.take k).map f ++ [f (os.getD k 0)] := map_take_snoc f os k h
theorem gatesCells_one' (gs : List Gt) : ∀ u ∈ gatesCells gs, u.oneCell' = true := by
  intro u hu
  simp only [gatesCells, List.mem_flatMap, gtCells] at hu
  obtain ⟨g, _, hg⟩ := hu
  simp at hg
  rcases hg with rfl | rfl | rfl <;> rfl
theorem noCirc_at (w : World) : CAt w noCirc none none 0 0 := ⟨Rd.empty none, Rd.empty none, by unfold maxLen; omega, by unfold maxLen; omega⟩
theorem joinWire_bd (a b : Circ) (x : Int) (h : 0 ≤ x) (hr : (a.outs.length : Int) = b.inputs) (ho : a.outs.all (outOk (a.inputs + a.gates.length)) = true) (ha : 0 ≤ a.inputs) :
    0 ≤ joinWire a b x ∧ joinWire a b x ≤ a.inputs + a.gates.length + x := by
  unfold joinWire
  split
  · rename_i hlt
    have := outOk_at ho (k := x.toNat) (by omega)
    omega
  · omega
theorem gateOk_ops {lim : Int} {g : Gt} (h : gateOk lim g = true) :
    operandsF g.op = 0 ∨ (operandsF g.op = 1 ∧ 0 ≤ g.a ∧ g.a < lim) ∨ (operandsF g.op = 2 ∧ 0 ≤ g.a ∧ g.a < lim ∧ 0 ≤ g.b ∧ g.b < lim) := by
  obtain ⟨ho, ha, hb, _, _⟩ := gateOk_parts h
  rcases ho with e | e | e | e | e | e
  · exact .inl (by rw [e]; rfl)
  · exact .inl (by rw [e]; rfl)
  · exact .inr (.inl ⟨by rw [e]; rfl, ha (by omega)⟩)
  · exact .inr (.inr ⟨by rw [e]; rfl, (ha (by omega)).1, (ha (by omega)).2, hb (by omega)⟩)
  · exact .inr (.inr ⟨by rw [e]; rfl, (ha (by omega)).1, (ha (by omega)).2, hb (by omega)⟩)
  · exact .inr (.inr ⟨by rw [e]; rfl, (ha (by omega)).1, (ha (by omega)).2, hb (by omega)⟩)
theorem joinGate0 (a b : Circ) (g : Gt) (h : operandsF g.op = 0) : joinGate a b g = ⟨g.op, g.a, g.b⟩ := by simp [joinGate, h]
theorem joinGate1 (a b : Circ) (g : Gt) (h : operandsF g.op = 1) : joinGate a b g = ⟨g.op, joinWire a b g.a, g.b⟩ := by simp [joinGate, h]
theorem joinGate2 (a b : Circ) (g : Gt) (h : operandsF g.op = 2) : joinGate a b g = ⟨g.op, joinWire a b g.a, joinWire a b g.b⟩ := by simp [joinGate, h]
/-- The wires of b in the joined circuit, one after the other. -/
def toL (a : Circ) (k : Nat) : List Int := a.outs ++ (List.range k).map (fun i : Nat => a.inputs + a.gates.length + i)
theorem toL_succ (a : Circ) (k : Nat) : toL a (k + 1) = toL a k ++ [a.inputs + a.gates.length + k] := by simp [toL, List.range_succ]
theorem toL_len (a : Circ) (k : Nat) : (toL a k).length = a.outs.length + k := by simp [toL]
theorem toL_at (a b : Circ) (k x : Nat) (hio : (a.outs.length : Int) = b.inputs) (hx : x < a.outs.length + k) : (toL a k).getD x 0 = joinWire a b x := by
  unfold toL joinWire
  by_cases h : x < a.outs.length
  · rw [if_pos (by omega), List.getD_eq_getElem?_getD, List.getElem?_append_left h, Int.toNat_natCast, List.getD_eq_getElem?_getD]
  · rw [if_neg (by omega), List.getD_eq_getElem?_getD, List.getElem?_append_right (by omega), List.getElem?_map, List.getElem?_range (by omega)]
    simp only [Option.map_some, Option.getD_some]
    omega
end Go.Proofs.Ytamijjpnklbgnaa
