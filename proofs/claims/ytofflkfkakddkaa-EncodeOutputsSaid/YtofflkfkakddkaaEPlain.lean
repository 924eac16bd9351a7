/-
  Formulas as plain data, and what the functions of package encode and of its reference compute. Nothing of the program stands here.
-/
import Derived.Test.YtofflkfkakddkaaCPlain
namespace Go.Proofs.Ytofflkfkakddkaa
open Go.RowKit
set_option linter.unusedSimpArgs false
set_option linter.unusedVariables false

structure Fml where
  vars : Int
  cls : List (List Int)
def noFml : Fml := ⟨0, []⟩
theorem Fml.ext' {a b : Fml} (h1 : a.vars = b.vars) (h2 : a.cls = b.cls) : a = b := by
  cases a; cases b; simp only at h1 h2; rw [h1, h2]
def sameF (a b : Fml) : Bool := decide (a.vars = b.vars ∧ a.cls = b.cls)
theorem sameF_self (a : Fml) : sameF a a = true := decide_eq_true ⟨rfl, rfl⟩
def litOk (v x : Int) : Bool := decide (x ≠ 0 ∧ -v ≤ x ∧ x ≤ v)
def sizesF (f : Fml) : Bool := decide (0 ≤ f.vars ∧ f.vars ≤ 65536 ∧ f.cls.length ≤ 262144)
def rightF (f : Fml) : Bool := sizesF f && f.cls.all (fun c => c.all (litOk f.vars))
def varOk (v x : Int) : Bool := decide (1 ≤ x ∧ x ≤ v)
def varsOk (v : Int) (l : List Int) : Bool := l.all (varOk v)
def fitsErr (f : Fml) : Int := if f.vars ≤ 65536 ∧ f.cls.length ≤ 262144 then 0 else 6
def fitsR (f : Fml) : Fml := if fitsErr f = 0 then f else noFml
/-- The clauses of a gate. -/
def clausesF (op g a b : Int) : List (List Int) :=
  if op = 0 then [[-g]] else if op = 1 then [[g]] else if op = 2 then [[g, a], [-g, -a]] else if op = 3 then [[-g, a], [-g, b], [g, -a, -b]]
  else if op = 4 then [[g, -a], [g, -b], [-g, a, b]] else [[-g, a, b], [-g, -a, -b], [g, -a, b], [g, a, -b]]
theorem clausesF_len (op g a b : Int) : (clausesF op g a b).length ≤ 4 := by
  unfold clausesF; split <;> (try split) <;> (try split) <;> (try split) <;> (try split) <;> simp
/-- Operands that an operation does not have do not matter. -/
theorem clausesF_0 {op : Int} (h : op = 0 ∨ op = 1) (g a b a' b' : Int) : clausesF op g a b = clausesF op g a' b' := by
  rcases h with rfl | rfl <;> rfl
theorem clausesF_1 (g a b b' : Int) : clausesF 2 g a b = clausesF 2 g a b' := rfl

/-- The variables of the wires while k gates are placed. -/
def wiresV (nv : Int) (ins : List Int) (k : Nat) : List Int := ins ++ (List.range k).map (fun i => nv + ((i : Nat) : Int) + 1)
theorem wiresV_length (nv : Int) (ins : List Int) (k : Nat) : (wiresV nv ins k).length = ins.length + k := by simp [wiresV]
theorem wiresV_succ (nv : Int) (ins : List Int) (k : Nat) : wiresV nv ins (k + 1) = wiresV nv ins k ++ [nv + k + 1] := by simp [wiresV, List.range_succ]
theorem wiresV_zero (nv : Int) (ins : List Int) : wiresV nv ins 0 = ins := by simp [wiresV]
theorem wiresV_more (nv : Int) (ins : List Int) (k j w : Nat) (h : w < ins.length + k) (hk : k ≤ j) : (wiresV nv ins j).getD w 0 = (wiresV nv ins k).getD w 0 := by
  induction j with
  | zero => have : k = 0 := by omega
            rw [this]
  | succ j ih =>
    by_cases e : k = j + 1
    · rw [e]
    · rw [wiresV_succ, List.getD_eq_getElem?_getD, List.getElem?_append_left (by rw [wiresV_length]; omega), ← List.getD_eq_getElem?_getD, ih (by omega)]
/-- The clauses of gate i, its wires' variables as wiresV says. -/
def gateCls (nv : Int) (ins : List Int) (gs : List Gt) (i : Nat) : List (List Int) :=
  clausesF (gs.getD i default).op (nv + (i : Int) + 1) ((wiresV nv ins i).getD (gs.getD i default).a.toNat 0) ((wiresV nv ins i).getD (gs.getD i default).b.toNat 0)
def placeTo (nv : Int) (ins : List Int) (gs : List Gt) (k : Nat) : List (List Int) := (List.range k).flatMap (gateCls nv ins gs)
theorem placeTo_succ (nv : Int) (ins : List Int) (gs : List Gt) (k : Nat) : placeTo nv ins gs (k + 1) = placeTo nv ins gs k ++ gateCls nv ins gs k := by simp [placeTo, List.range_succ]
theorem placeTo_len (nv : Int) (ins : List Int) (gs : List Gt) (k : Nat) : (placeTo nv ins gs k).length ≤ 4 * k := by
  induction k with
  | zero => simp [placeTo]
  | succ k ih =>
    rw [placeTo_succ, List.length_append]
    have := clausesF_len (gs.getD k default).op (nv + (k : Int) + 1) ((wiresV nv ins k).getD (gs.getD k default).a.toNat 0) ((wiresV nv ins k).getD (gs.getD k default).b.toNat 0)
    unfold gateCls
    omega
def placeF (f : Fml) (c : Circ) (ins : List Int) : Fml := ⟨f.vars + c.gates.length, f.cls ++ placeTo f.vars ins c.gates c.gates.length⟩
def placeO (f : Fml) (c : Circ) (ins : List Int) : List Int := c.outs.map (fun w => (wiresV f.vars ins c.gates.length).getD w.toNat 0)
def placeOk (f : Fml) (c : Circ) (ins : List Int) : Bool := rightF f && (rightC c && (decide ((ins.length : Int) = c.inputs) && varsOk f.vars ins))
def placeErr (f : Fml) (c : Circ) (ins : List Int) : Int := if placeOk f c ins = true then fitsErr (placeF f c ins) else 2
def placeR (f : Fml) (c : Circ) (ins : List Int) : Fml := if placeErr f c ins = 0 then placeF f c ins else noFml
def placeOuts (f : Fml) (c : Circ) (ins : List Int) : List Int := if placeErr f c ins = 0 then placeO f c ins else []
/-- 1, 2, .. n. -/
def upto1 (n : Nat) : List Int := (List.range n).map (fun i => ((i : Nat) : Int) + 1)
theorem upto1_length (n : Nat) : (upto1 n).length = n := by simp [upto1]
theorem upto1_succ (n : Nat) : upto1 (n + 1) = upto1 n ++ [(n : Int) + 1] := by simp [upto1, List.range_succ]
def circErr (c : Circ) : Int := if rightC c = true then fitsErr (placeF ⟨c.inputs, []⟩ c (upto1 c.inputs.toNat)) else 2
def circR (c : Circ) : Fml := if circErr c = 0 then placeF ⟨c.inputs, []⟩ c (upto1 c.inputs.toNat) else noFml
theorem rightF_nil {v : Int} (h0 : 0 ≤ v) (h1 : v ≤ 65536) : rightF ⟨v, []⟩ = true := by simp [rightF, sizesF, h0, h1]
theorem varsOk_upto1 (n : Nat) : varsOk n (upto1 n) = true := by
  unfold varsOk
  rw [List.all_eq_true]
  intro x hx
  simp only [upto1, List.mem_map, List.mem_range] at hx
  obtain ⟨i, hi, rfl⟩ := hx
  simp [varOk]; omega
theorem circ_place (c : Circ) : placeErr ⟨c.inputs, []⟩ c (upto1 c.inputs.toNat) = circErr c ∧ placeR ⟨c.inputs, []⟩ c (upto1 c.inputs.toNat) = circR c := by
  have h : placeErr ⟨c.inputs, []⟩ c (upto1 c.inputs.toNat) = circErr c := by
    unfold placeErr circErr
    cases hr : rightC c
    · have : placeOk ⟨c.inputs, []⟩ c (upto1 c.inputs.toNat) = false := by unfold placeOk; rw [hr]; simp
      rw [this]
    · have hs : 0 ≤ c.inputs ∧ c.inputs ≤ 1000 := by
        simp only [rightC, Bool.and_eq_true, decide_eq_true_eq] at hr
        exact ⟨hr.1.1.1, hr.1.1.2.1⟩
      have : placeOk ⟨c.inputs, []⟩ c (upto1 c.inputs.toNat) = true := by
        unfold placeOk
        rw [rightF_nil hs.1 (by omega), hr, upto1_length, Int.toNat_of_nonneg hs.1]
        have h3 := varsOk_upto1 c.inputs.toNat
        rw [Int.toNat_of_nonneg hs.1] at h3
        show (true && (true && (decide (c.inputs = c.inputs) && varsOk c.inputs (upto1 c.inputs.toNat)))) = true
        rw [h3, decide_eq_true rfl]; rfl
      rw [this]
  exact ⟨h, by unfold placeR circR; rw [h]⟩
/-- Fix. -/
def fixTo (vs : List Int) (bs : List Bool) (k : Nat) : List (List Int) := (List.range k).map (fun i => [if bs.getD i false = true then vs.getD i 0 else -(vs.getD i 0)])
theorem fixTo_succ (vs : List Int) (bs : List Bool) (k : Nat) : fixTo vs bs (k + 1) = fixTo vs bs k ++ [[if bs.getD k false = true then vs.getD k 0 else -(vs.getD k 0)]] := by simp [fixTo, List.range_succ]
theorem fixTo_length (vs : List Int) (bs : List Bool) (k : Nat) : (fixTo vs bs k).length = k := by simp [fixTo]
def fixF (f : Fml) (vs : List Int) (bs : List Bool) : Fml := ⟨f.vars, f.cls ++ fixTo vs bs vs.length⟩
def fixOk (f : Fml) (vs : List Int) (bs : List Bool) : Bool := rightF f && (decide (vs.length = bs.length) && varsOk f.vars vs)
def fixErr (f : Fml) (vs : List Int) (bs : List Bool) : Int := if fixOk f vs bs = true then fitsErr (fixF f vs bs) else 2
def fixR (f : Fml) (vs : List Int) (bs : List Bool) : Fml := if fixErr f vs bs = 0 then fixF f vs bs else noFml
/-- Same. -/
def eqTo (a b : List Int) (k : Nat) : List (List Int) := (List.range k).flatMap (fun i => [[-(a.getD i 0), b.getD i 0], [a.getD i 0, -(b.getD i 0)]])
theorem eqTo_succ (a b : List Int) (k : Nat) : eqTo a b (k + 1) = eqTo a b k ++ [[-(a.getD k 0), b.getD k 0], [a.getD k 0, -(b.getD k 0)]] := by simp [eqTo, List.range_succ]
theorem eqTo_length (a b : List Int) (k : Nat) : (eqTo a b k).length = 2 * k := by
  induction k with
  | zero => rfl
  | succ k ih => rw [eqTo_succ, List.length_append, ih]; simp; omega
def eqF (f : Fml) (a b : List Int) : Fml := ⟨f.vars, f.cls ++ eqTo a b a.length⟩
def eqOk (f : Fml) (a b : List Int) : Bool := rightF f && (decide (a.length = b.length) && (varsOk f.vars a && varsOk f.vars b))
def eqErr (f : Fml) (a b : List Int) : Int := if eqOk f a b = true then fitsErr (eqF f a b) else 2
def eqR (f : Fml) (a b : List Int) : Fml := if eqErr f a b = 0 then eqF f a b else noFml
end Go.Proofs.Ytofflkfkakddkaa
