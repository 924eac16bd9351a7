/-
  The steps that make a circuit smaller, as plain data. Nothing of the program stands here.
-/
import Derived.Test.YtamijjpnklbgnaaCJPlain
namespace Go.Proofs.Ytamijjpnklbgnaa
open Go.RowKit
set_option linter.unusedSimpArgs false
set_option linter.unusedVariables false
/-- The gates so far, and the wire that stands for each wire. -/
structure Wk where
  gates : List Gt
  to : List Int
def operandsO (op : Int) : Int := if op = 0 ∨ op = 1 then 0 else if op = 2 then 1 else 2
theorem operandsO_bd (op : Int) : 0 ≤ operandsO op ∧ operandsO op ≤ 2 := by unfold operandsO; split <;> (try split) <;> omega
def toAt (to : List Int) (w : Int) : Int := to.getD w.toNat 0
def moveG (to : List Int) (g : Gt) : Gt := ⟨g.op, if 1 ≤ operandsO g.op then toAt to g.a else g.a, if operandsO g.op = 2 then toAt to g.b else g.b⟩
def startW (n : Int) : Wk := ⟨[], (List.range n.toNat).map Int.ofNat⟩
def addW (n : Int) (s : Wk) (p : Gt × Int) : Wk := ⟨s.gates ++ [p.1], s.to ++ [if p.2 < 0 then n + s.gates.length else p.2]⟩
def doneW (c : Circ) (s : Wk) : Circ := ⟨c.inputs, s.gates, c.outs.map (toAt s.to)⟩
def isW (n : Int) (gs : List Gt) (w op : Int) : Bool := decide (n ≤ w) && decide ((gs.getD (w - n).toNat default).op = op)
def argW (n : Int) (gs : List Gt) (w : Int) : Int := (gs.getD (w - n).toNat default).a
def negW (n : Int) (gs : List Gt) (x y : Int) : Bool := isW n gs x 2 && decide (argW n gs x = y)
def oppW (n : Int) (gs : List Gt) (a b : Int) : Bool := negW n gs a b || negW n gs b a
def notF (n : Int) (gs : List Gt) (a : Int) : Gt × Int :=
  if isW n gs a 0 = true then (⟨1, 0, 0⟩, -1) else if isW n gs a 1 = true then (⟨0, 0, 0⟩, -1) else if isW n gs a 2 = true then (⟨2, a, 0⟩, argW n gs a) else (⟨2, a, 0⟩, -1)
def eitherF (n : Int) (gs : List Gt) (g : Gt) (ab ne : Int) : Gt × Int :=
  if (isW n gs g.a ab || isW n gs g.b ab) = true then (⟨ab, 0, 0⟩, -1) else if isW n gs g.a ne = true then (g, g.b) else if (isW n gs g.b ne || decide (g.a = g.b)) = true then (g, g.a)
  else if oppW n gs g.a g.b = true then (⟨ab, 0, 0⟩, -1) else (g, -1)
def xorF (n : Int) (gs : List Gt) (g : Gt) : Gt × Int :=
  if isW n gs g.a 0 = true then (g, g.b) else if isW n gs g.b 0 = true then (g, g.a) else if g.a = g.b then (⟨0, 0, 0⟩, -1) else if oppW n gs g.a g.b = true then (⟨1, 0, 0⟩, -1)
  else if isW n gs g.a 1 = true then notF n gs g.b else if isW n gs g.b 1 = true then notF n gs g.a else (g, -1)
def foldG (n : Int) (gs : List Gt) (g : Gt) : Gt × Int :=
  if g.op = 2 then notF n gs g.a else if g.op = 3 then eitherF n gs g 0 1 else if g.op = 4 then eitherF n gs g 1 0 else if g.op = 5 then xorF n gs g else (g, -1)
def gateAt (c : Circ) (k : Nat) : Gt := c.gates.getD k default
def foldTo (c : Circ) : Nat → Wk
  | 0 => startW c.inputs
  | k + 1 => addW c.inputs (foldTo c k) (foldG c.inputs (foldTo c k).gates (moveG (foldTo c k).to (gateAt c k)))
def foldC (c : Circ) : Circ := if rightC c = true then doneW c (foldTo c c.gates.length) else noCirc
def swapG (g : Gt) : Gt := if operandsO g.op = 2 ∧ g.b < g.a then ⟨g.op, g.b, g.a⟩ else g
/-- The wire of the first gate that is equal, or -1. -/
def knownW (n : Int) (gs : List Gt) (g : Gt) : Int := match gs.findIdx? (fun x => gtEq x g) with | some k => n + (k : Int) | none => -1
def shareG (n : Int) (s : Wk) (g : Gt) : Gt × Int := (swapG (moveG s.to g), knownW n s.gates (swapG (moveG s.to g)))
def shareTo (c : Circ) : Nat → Wk
  | 0 => startW c.inputs
  | k + 1 => addW c.inputs (shareTo c k) (shareG c.inputs (shareTo c k) (gateAt c k))
def shareC (c : Circ) : Circ := if rightC c = true then doneW c (shareTo c c.gates.length) else noCirc
def setT (l : List Bool) (w : Int) : List Bool := l.set w.toNat true
def needAt (nd : List Bool) (w : Int) : Bool := nd.getD w.toNat false
def needG (n : Int) (nd : List Bool) (i : Nat) (g : Gt) : List Bool :=
  if needAt nd (n + (i : Int)) = true then (if operandsO g.op = 2 then setT (setT nd g.a) g.b else if operandsO g.op = 1 then setT nd g.a else nd) else nd
def needOuts (c : Circ) : Nat → List Bool
  | 0 => List.replicate (c.inputs + c.gates.length).toNat false
  | k + 1 => setT (needOuts c k) (c.outs.getD k 0)
/-- The wires that are needed, the last j gates having been looked at. -/
def needTo (c : Circ) : Nat → List Bool
  | 0 => needOuts c c.outs.length
  | j + 1 => needG c.inputs (needTo c j) (c.gates.length - 1 - j) (gateAt c (c.gates.length - 1 - j))
def needC (c : Circ) : List Bool := needTo c c.gates.length
def trimTo (c : Circ) : Nat → Wk
  | 0 => startW c.inputs
  | k + 1 => if needAt (needC c) (c.inputs + (k : Int)) = true then addW c.inputs (trimTo c k) (moveG (trimTo c k).to (gateAt c k), -1) else ⟨(trimTo c k).gates, (trimTo c k).to ++ [0]⟩
def trimC (c : Circ) : Circ := if rightC c = true then doneW c (trimTo c c.gates.length) else noCirc
def oneC (c : Circ) : Circ := trimC (shareC (foldC c))
def gateWt (g : Gt) : Nat := if operandsO g.op = 0 then 1 else if operandsO g.op = 1 then 2 else if g.a ≤ g.b then 3 else 4
def measC (c : Circ) : Nat := (c.gates.map gateWt).sum
def iterC : Nat → Circ → Circ
  | 0, c => c
  | k + 1, c => if sameC (oneC c) c = true then c else iterC k (oneC c)
def allC (c : Circ) : Circ := if rightC c = true then iterC (measC c) c else noCirc
/-- The length of the work. -/
theorem addW_len (n : Int) (s : Wk) (p : Gt × Int) : (addW n s p).gates.length = s.gates.length + 1 ∧ (addW n s p).to.length = s.to.length + 1 := ⟨by simp [addW], by simp [addW]⟩
theorem startW_len (n : Int) : (startW n).gates.length = 0 ∧ (startW n).to.length = n.toNat := ⟨rfl, by simp [startW]⟩
theorem foldTo_len (c : Circ) (k : Nat) : (foldTo c k).gates.length = k ∧ (foldTo c k).to.length = c.inputs.toNat + k := by
  induction k with
  | zero => exact startW_len _
  | succ k ih => have := addW_len c.inputs (foldTo c k) (foldG c.inputs (foldTo c k).gates (moveG (foldTo c k).to (gateAt c k))); rw [foldTo]; omega
theorem shareTo_len (c : Circ) (k : Nat) : (shareTo c k).gates.length = k ∧ (shareTo c k).to.length = c.inputs.toNat + k := by
  induction k with
  | zero => exact startW_len _
  | succ k ih => have := addW_len c.inputs (shareTo c k) (shareG c.inputs (shareTo c k) (gateAt c k)); rw [shareTo]; omega
theorem trimTo_len (c : Circ) (k : Nat) : (trimTo c k).gates.length ≤ k ∧ (trimTo c k).to.length = c.inputs.toNat + k := by
  induction k with
  | zero => exact ⟨Nat.le_of_eq (startW_len _).1, (startW_len _).2⟩
  | succ k ih =>
    rw [trimTo]
    split
    · have := addW_len c.inputs (trimTo c k) (moveG (trimTo c k).to (gateAt c k), -1); omega
    · exact ⟨by show (trimTo c k).gates.length ≤ _; omega, by simp; omega⟩
theorem needG_len (n : Int) (nd : List Bool) (i : Nat) (g : Gt) : (needG n nd i g).length = nd.length := by
  unfold needG setT
  split
  · split
    · simp
    · split <;> simp
  · rfl
theorem needOuts_len (c : Circ) (k : Nat) : (needOuts c k).length = (c.inputs + c.gates.length).toNat := by
  induction k with
  | zero => simp [needOuts]
  | succ k ih => simp [needOuts, setT, ih]
theorem needTo_len (c : Circ) (j : Nat) : (needTo c j).length = (c.inputs + c.gates.length).toNat := by
  induction j with
  | zero => exact needOuts_len _ _
  | succ j ih => rw [needTo, needG_len, ih]
end Go.Proofs.Ytamijjpnklbgnaa
