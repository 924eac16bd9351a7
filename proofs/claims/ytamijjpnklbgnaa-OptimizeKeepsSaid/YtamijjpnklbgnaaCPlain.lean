/-
  Circuits as plain data, and what the functions of package circuit and of its reference compute. Nothing of the program stands here.
-/
import Derived.Test.YtamijjpnklbgnaaBase
namespace Go.Proofs.Ytamijjpnklbgnaa
open Go.RowKit
set_option linter.unusedSimpArgs false
set_option linter.unusedVariables false

structure Gt where
  op : Int
  a : Int
  b : Int
instance : Inhabited Gt := ⟨⟨0, 0, 0⟩⟩
structure Circ where
  inputs : Int
  gates : List Gt
  outs : List Int

def gtEq (x y : Gt) : Bool := x.op == y.op && (x.a == y.a && x.b == y.b)
theorem gtEq_iff (x y : Gt) : gtEq x y = true ↔ x = y := by
  cases x; cases y; simp [gtEq]
instance : DecidableEq Gt := fun x y => if h : gtEq x y = true then isTrue ((gtEq_iff x y).1 h) else isFalse (fun e => h ((gtEq_iff x y).2 e))
def gtCells (g : Gt) : List Value := [.int .i64 g.op, .int .i64 g.a, .int .i64 g.b]
def gatesCells (gs : List Gt) : List Value := gs.flatMap gtCells

theorem gatesCells_length (gs : List Gt) : (gatesCells gs).length = gs.length * 3 := by
  induction gs with
  | nil => rfl
  | cons g l ih => simp only [gatesCells, List.flatMap_cons, List.length_append, List.length_cons] at *; rw [ih]; simp [gtCells]; omega
theorem gatesCells_get (gs : List Gt) (k : Nat) (h : k < gs.length) : (gatesCells gs)[k * 3]? = some (.int .i64 (gs.getD k default).op) ∧ (gatesCells gs)[k * 3 + 1]? = some (.int .i64 (gs.getD k default).a) ∧ (gatesCells gs)[k * 3 + 2]? = some (.int .i64 (gs.getD k default).b) := by
  induction gs generalizing k with
  | nil => simp at h
  | cons g l ih =>
    cases k with
    | zero => simp [gatesCells, gtCells]
    | succ k =>
      have := ih k (by simpa using h)
      have e : (k + 1) * 3 = k * 3 + 3 := by omega
      have hh : ∀ j, (gatesCells (g :: l))[k * 3 + 3 + j]? = (gatesCells l)[k * 3 + j]? := fun j => by
        simp only [gatesCells, List.flatMap_cons]
        rw [List.getElem?_append_right (by simp [gtCells]; omega)]
        congr 1
        simp [gtCells]; omega
      rw [e]
      refine ⟨(hh 0).trans ?_, (hh 1).trans ?_, (hh 2).trans ?_⟩
      · simpa using this.1
      · simpa using this.2.1
      · simpa using this.2.2

theorem Rd.gate {w : World} {B n : Nat} {A : Option Addr} {gs : List Gt} (h : Rd w B 3 A n (gatesCells gs)) {k : Nat} (hk : k < n) :
    ∃ ad, A = some ad ∧ ad.block < B ∧ w.cell? (ad.add (k * 3)) = some (.int .i64 (gs.getD k default).op) ∧ w.cell? ⟨(ad.add (k * 3)).block, (ad.add (k * 3)).off + 1, none⟩ = some (.int .i64 (gs.getD k default).a) ∧ w.cell? ⟨(ad.add (k * 3)).block, (ad.add (k * 3)).off + 2, none⟩ = some (.int .i64 (gs.getD k default).b) := by
  have hl : k < gs.length := by have := h.1; rw [gatesCells_length] at this; omega
  obtain ⟨h0, h1, h2⟩ := gatesCells_get gs k hl
  exact h.row3 hk h0 h1 h2

def sameC (c d : Circ) : Bool := c.inputs == d.inputs && (decide (c.gates = d.gates) && decide (c.outs = d.outs))

def operandsF (op : Int) : Int := if op = 0 ∨ op = 1 then 0 else if op = 2 then 1 else if op = 3 ∨ op = 4 ∨ op = 5 then 2 else -1
theorem operandsF_bd (op : Int) : -1 ≤ operandsF op ∧ operandsF op ≤ 2 := by unfold operandsF; split <;> (try split) <;> (try split) <;> omega

/-- The closure 'wire' of circuit.Right: n operands, wire w at place k, below lim. -/
def wireOk (n w k lim : Int) : Bool := decide (n < k ∧ w = 0 ∨ k ≤ n ∧ 0 ≤ w ∧ w < lim)
def gateOk (lim : Int) (g : Gt) : Bool := decide (0 ≤ operandsF g.op) && wireOk (operandsF g.op) g.a 1 lim && wireOk (operandsF g.op) g.b 2 lim
def outOk (lim w : Int) : Bool := decide (0 ≤ w ∧ w < lim)
def gatesOk (inputs : Int) (gs : List Gt) : Bool := decide (∀ i, i < gs.length → gateOk (inputs + i) (gs.getD i default) = true)
def rightC (c : Circ) : Bool :=
  decide (0 ≤ c.inputs ∧ c.inputs ≤ 1000 ∧ c.gates.length ≤ 20000 ∧ c.outs.length ≤ 1000) && gatesOk c.inputs c.gates && c.outs.all (outOk (c.inputs + c.gates.length))
theorem right_false_gate (c : Circ) (k : Nat) (hk : k < c.gates.length) (h : gateOk (c.inputs + k) (c.gates.getD k default) = false) : rightC c = false := by
  have hg : gatesOk c.inputs c.gates = false := decide_eq_false (fun hh => by have := hh k hk; rw [h] at this; cases this)
  simp [rightC, hg]
theorem right_true_gates (c : Circ) (hs : 0 ≤ c.inputs ∧ c.inputs ≤ 1000 ∧ c.gates.length ≤ 20000 ∧ c.outs.length ≤ 1000) (h : ∀ k, k < c.gates.length → gateOk (c.inputs + k) (c.gates.getD k default) = true) :
    rightC c = c.outs.all (outOk (c.inputs + c.gates.length)) := by
  have hg : gatesOk c.inputs c.gates = true := decide_eq_true h
  simp [rightC, hg, hs]
theorem all_false_at (p : Int → Bool) (zs : List Int) (k : Nat) (hk : k < zs.length) (h : p (zs.getD k 0) = false) : zs.all p = false := by
  rw [List.all_eq_false]
  refine ⟨zs[k], List.getElem_mem hk, ?_⟩
  simp [List.getD_eq_getElem?_getD, List.getElem?_eq_getElem hk] at h
  simp [h]
theorem all_true_at (p : Int → Bool) (zs : List Int) (h : ∀ k, k < zs.length → p (zs.getD k 0) = true) : zs.all p = true := by
  rw [List.all_eq_true]
  intro x hx
  obtain ⟨j, hj, rfl⟩ := List.getElem_of_mem hx
  have := h j hj
  simpa [List.getD_eq_getElem?_getD, List.getElem?_eq_getElem hj] using this
/-- A circuit's slices as they lie in memory. -/
structure CAt (w : World) (c : Circ) (GA OA : Option Addr) (gn on : Nat) : Prop where
  gates : Rd w w.heap.size 3 GA gn (gatesCells c.gates)
  outs : Rd w w.heap.size 1 OA on (ints c.outs)
  g63 : gn ≤ maxLen
  o63 : on ≤ maxLen
theorem CAt.up {w w' : World} {c : Circ} {GA OA : Option Addr} {gn on : Nat} (h : CAt w c GA OA gn on) (hb : Below w.heap.size w w') : CAt w' c GA OA gn on :=
  ⟨h.gates.up hb, h.outs.up hb, h.g63, h.o63⟩
theorem CAt.gl {w : World} {c : Circ} {GA OA : Option Addr} {gn on : Nat} (h : CAt w c GA OA gn on) : c.gates.length = gn := by have := h.gates.1; rw [gatesCells_length] at this; omega
theorem CAt.ol {w : World} {c : Circ} {GA OA : Option Addr} {gn on : Nat} (h : CAt w c GA OA gn on) : c.outs.length = on := by have := h.outs.1; simp at this; omega
def okC (c : Circ) (n : Nat) : Bool := rightC c && decide ((n : Int) = c.inputs)
theorem outOk_at {lim : Int} {os : List Int} (h : os.all (outOk lim) = true) {k : Nat} (hk : k < os.length) : 0 ≤ os.getD k 0 ∧ os.getD k 0 < lim := by
  rw [List.all_eq_true] at h
  have := h _ (List.getElem_mem hk)
  rw [List.getD_eq_getElem?_getD, List.getElem?_eq_getElem hk]
  simpa [outOk] using this
end Go.Proofs.Ytamijjpnklbgnaa
