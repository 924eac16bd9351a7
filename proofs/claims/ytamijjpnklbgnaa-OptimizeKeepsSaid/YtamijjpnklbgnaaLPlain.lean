/-
  What package lower and its reference compute, plain: bits of states, inputs, outputs, and the circuit of a rule tree. Nothing of the program stands here.
-/
import Derived.Test.YtamijjpnklbgnaaCJPlain
import Derived.Test.YtamijjpnklbgnaaCRunG
import Derived.Test.YtamijjpnklbgnaaTLaw
namespace Go.Proofs.Ytamijjpnklbgnaa
open Go.RowKit
set_option linter.unusedSimpArgs false
set_option linter.unusedVariables false

def bitsF (s : Int) : Nat := if s = 2 then 1 else if s = 3 ∨ s = 4 then 2 else if 5 ≤ s ∧ s ≤ 8 then 3 else 0
theorem bitsF_bd (s : Int) : bitsF s ≤ 3 := by unfold bitsF; split <;> (try split) <;> (try split) <;> omega
theorem bitsF_pos {s : Int} (h : 2 ≤ s ∧ s ≤ 8) : 1 ≤ bitsF s := by unfold bitsF; split <;> (try split) <;> (try split) <;> omega
theorem bitsF_pow {s : Int} (h : 2 ≤ s ∧ s ≤ 8) : s ≤ 2 ^ bitsF s := by
  have : s = 2 ∨ s = 3 ∨ s = 4 ∨ s = 5 ∨ s = 6 ∨ s = 7 ∨ s = 8 := by omega
  rcases this with rfl | rfl | rfl | rfl | rfl | rfl | rfl <;> decide
def bitI (n : Int) (k : Nat) : Bool := n / 2 ^ k % 2 == 1
def valB : List Bool → Int
  | [] => 0
  | b :: r => (if b then 1 else 0) + 2 * valB r
def stateF (l : List Bool) : Int := if 8 < l.length then 0 else valB l
theorem valB_snoc (l : List Bool) (b : Bool) : valB (l ++ [b]) = valB l + (if b then 2 ^ l.length else 0) := by
  induction l with
  | nil => cases b <;> rfl
  | cons x l ih =>
    simp only [List.cons_append, valB, ih, List.length_cons]
    cases b
    · simp
    · simp only [if_true]; rw [Int.pow_succ]; omega
theorem valB_bd (l : List Bool) : 0 ≤ valB l ∧ valB l < 2 ^ l.length := by
  induction l with
  | nil => simp [valB]
  | cons x l ih =>
    simp only [valB, List.length_cons, Int.pow_succ]
    cases x <;> simp <;> omega
theorem bitI_valB (l : List Bool) (k : Nat) (hk : k < l.length) : bitI (valB l) k = l.getD k false := by
  induction l generalizing k with
  | nil => simp at hk
  | cons x l ih =>
    have hb := valB_bd l
    cases k with
    | zero =>
      simp only [bitI, valB, Int.pow_zero, Int.ediv_one, List.getD_cons_zero]
      cases x <;> simp <;> omega
    | succ k =>
      have := ih k (by simpa using hk)
      simp only [List.getD_cons_succ]
      rw [← this]
      unfold bitI
      rw [show (2 : Int) ^ (k + 1) = 2 * 2 ^ k by rw [Int.pow_succ]; omega]
      rw [← Int.ediv_ediv_of_nonneg (by omega)]
      congr 3
      simp only [valB]
      cases x <;> simp <;> omega
theorem valB_inj (l m : List Bool) (hl : l.length = m.length) (h : valB l = valB m) : l = m := by
  induction l generalizing m with
  | nil => cases m with
    | nil => rfl
    | cons _ _ => simp at hl
  | cons x l ih =>
    cases m with
    | nil => simp at hl
    | cons y m =>
      simp only [valB] at h
      have e : x = y ∧ valB l = valB m := by
        cases x <;> cases y <;> simp at h ⊢ <;> omega
      rw [e.1, ih m (by simpa using hl) e.2]
/-- The bits of a number. -/
def bitsOf (b : Nat) (v : Int) : List Bool := (List.range b).map (bitI v)
theorem bitsOf_length (b : Nat) (v : Int) : (bitsOf b v).length = b := by simp [bitsOf]
theorem valB_bits (b : Nat) (v : Int) (h0 : 0 ≤ v) (h1 : v < 2 ^ b) : valB (bitsOf b v) = v := by
  induction b generalizing v with
  | zero => simp [bitsOf, valB] at *; omega
  | succ b ih =>
    rw [Int.pow_succ] at h1
    have := ih (v / 2) (by omega) (by omega)
    have e : bitsOf (b + 1) v = bitI v 0 :: bitsOf b (v / 2) := by
      unfold bitsOf
      rw [List.range_succ_eq_map, List.map_cons, List.map_map]
      congr 1
      apply List.map_congr_left
      intro k _
      simp only [Function.comp, bitI]
      rw [show (2 : Int) ^ (k + 1) = 2 * 2 ^ k by rw [Int.pow_succ]; omega, Int.ediv_ediv_of_nonneg (by omega)]
    rw [e, valB, this]
    simp only [bitI, Int.pow_zero, Int.ediv_one]
    split <;> simp_all <;> omega
theorem bitsOf_inj (b : Nat) (u v : Int) (h0 : 0 ≤ u) (h1 : u < 2 ^ b) (h2 : 0 ≤ v) (h3 : v < 2 ^ b) (h : bitsOf b u = bitsOf b v) : u = v := by
  rw [← valB_bits b u h0 h1, ← valB_bits b v h2 h3, h]

/- Inputs -/
def inputsB (t : Tre) (ins : List Int) : List Bool := ins.flatMap (bitsOf (bitsF t.states))
def inputsR (t : Tre) (ins : List Int) : List Bool := if evalErr t ins = 0 then inputsB t ins else []

/- The circuit. -/
def wireF (N : Nat) (gs : List Gt) : Int := (N : Int) + gs.length
def gateS (N : Nat) (op : Int) (p : List Gt × Int) (w : Int) : List Gt × Int := (p.1 ++ [⟨op, p.2, w⟩], wireF N p.1)
def allS (N : Nat) (op : Int) (gs : List Gt) (ws : List Int) : List Gt × Int := ws.tail.foldl (gateS N op) (gs, ws.getD 0 0)
theorem allS_one (N : Nat) (op : Int) (gs : List Gt) (ws : List Int) : allS N op gs (ws.take 1) = (gs, ws.getD 0 0) := by
  cases ws <;> simp [allS]
theorem allS_take (N : Nat) (op : Int) (gs : List Gt) (ws : List Int) (k : Nat) (h0 : 1 ≤ k) (hk : k < ws.length) :
    allS N op gs (ws.take (k + 1)) = gateS N op (allS N op gs (ws.take k)) (ws.getD k 0) := by
  cases ws with
  | nil => simp at hk
  | cons w ws =>
    obtain ⟨k, rfl⟩ : ∃ j, k = j + 1 := ⟨k - 1, by omega⟩
    have hk' : k < ws.length := by simpa using hk
    simp only [allS, List.take_succ_cons, List.tail_cons, List.getD_cons_zero, List.getD_cons_succ]
    rw [List.take_succ_eq_append_getElem hk', List.foldl_append]
    simp [List.getD_eq_getElem?_getD, List.getElem?_eq_getElem hk']
theorem allS_all (N : Nat) (op : Int) (gs : List Gt) (ws : List Int) : allS N op gs (ws.take ws.length) = allS N op gs ws := by rw [List.take_length]
def litF (N j : Nat) (one : Bool) : Int := if one then j else N + j
def litsF (N b i : Nat) (s : Nat) : List Int := (List.range b).map (fun k => litF N (i * b + k) (bitI s k))
theorem litsF_length (N b i s : Nat) : (litsF N b i s).length = b := by simp [litsF]
theorem litsF_get (N b i s k : Nat) (h : k < b) : (litsF N b i s).getD k 0 = litF N (i * b + k) (bitI s k) := by
  simp [litsF, List.getD_eq_getElem?_getD, List.getElem?_map, List.getElem?_range h]
def testS (N b : Nat) (gs : List Gt) (i s : Nat) : List Gt × Int := allS N 3 gs (litsF N b i s)
/-- Rounds that lay gates and yield something each. -/
def scan {α : Type} (f : List Gt → List α → Nat → List Gt × α) (gs : List Gt) : Nat → List Gt × List α
  | 0 => (gs, [])
  | k + 1 => ((f (scan f gs k).1 (scan f gs k).2 k).1, (scan f gs k).2 ++ [(f (scan f gs k).1 (scan f gs k).2 k).2])
section
variable {α : Type} (f : List Gt → List α → Nat → List Gt × α) (gs : List Gt)
theorem scan_zero : scan f gs 0 = (gs, []) := rfl
theorem scan_succ (k : Nat) : scan f gs (k + 1) = ((f (scan f gs k).1 (scan f gs k).2 k).1, (scan f gs k).2 ++ [(f (scan f gs k).1 (scan f gs k).2 k).2]) := rfl
theorem scan_length (k : Nat) : (scan f gs k).2.length = k := by
  induction k with
  | zero => rfl
  | succ k ih => rw [scan_succ]; simp [ih]
theorem scan_ind (P : List Gt → List α → Nat → Prop) (h0 : P gs [] 0) (K : Nat) (hs : ∀ k g acc, k < K → acc.length = k → P g acc k → P (f g acc k).1 (acc ++ [(f g acc k).2]) (k + 1)) : P (scan f gs K).1 (scan f gs K).2 K := by
  have : ∀ k, k ≤ K → P (scan f gs k).1 (scan f gs k).2 k := fun k hk => by
    induction k with
    | zero => exact h0
    | succ k ih => rw [scan_succ]; exact hs k _ _ (by omega) (scan_length f gs k) (ih (by omega))
  exact this K (Nat.le_refl _)
end
def testRow (N b S : Nat) (gs : List Gt) (i : Nat) : List Gt × List Int := scan (fun g _ s => testS N b g i s) gs S
def testRows (N b S : Nat) (gs : List Gt) (n : Nat) : List Gt × List (List Int) := scan (fun g _ i => testRow N b S g i) gs n
def termStep (N : Nat) (up : Bool) (tests : List Int) (res : List (List Int)) (next : List Int) (k : Nat) (p : List Gt × List Int) (s : Nat) : List Gt × List Int :=
  if up = true then (p.1 ++ [⟨3, tests.getD s 0, (res.getD (next.getD s 0).toNat []).getD k 0⟩], p.2 ++ [wireF N p.1])
  else if bitI (next.getD s 0) k = true then (p.1, p.2 ++ [tests.getD s 0]) else p
def termsS (N : Nat) (up : Bool) (tests : List Int) (res : List (List Int)) (next : List Int) (gs : List Gt) (k S : Nat) : List Gt × List Int :=
  (List.range S).foldl (termStep N up tests res next k) (gs, [])
theorem termsS_succ (N : Nat) (up : Bool) (tests : List Int) (res : List (List Int)) (next : List Int) (gs : List Gt) (k S : Nat) :
    termsS N up tests res next gs k (S + 1) = termStep N up tests res next k (termsS N up tests res next gs k S) S := by
  simp [termsS, List.range_succ, List.foldl_append]
def orS (N : Nat) (p : List Gt × List Int) : List Gt × Int := if p.2.length = 0 then (p.1 ++ [⟨0, 0, 0⟩], wireF N p.1) else allS N 4 p.1 p.2
def resS (N : Nat) (up : Bool) (tests : List Int) (res : List (List Int)) (next : List Int) (S : Nat) (gs : List Gt) (k : Nat) : List Gt × Int := orS N (termsS N up tests res next gs k S)
def upN (x : Nd) : Bool := decide (1 < x.level)
def nodeS (t : Tre) (N b S : Nat) (tests : List (List Int)) (gs : List Gt) (res : List (List Int)) (i : Nat) : List Gt × List Int :=
  scan (fun g _ k => resS N (upN (t.nodes.getD i default)) (tests.getD ((t.hood.length : Int) - (t.nodes.getD i default).level).toNat []) res (t.nodes.getD i default).next S g k) gs b
def nodesS (t : Tre) (N b S : Nat) (tests : List (List Int)) (gs : List Gt) (m : Nat) : List Gt × List (List Int) := scan (fun g res i => nodeS t N b S tests g res i) gs m
def notsG (N : Nat) : List Gt := (List.range N).map (fun (j : Nat) => (⟨2, (j : Int), 0⟩ : Gt))
theorem notsG_succ (k : Nat) : notsG (k + 1) = notsG k ++ [⟨2, (k : Int), 0⟩] := by simp [notsG, List.range_succ]
theorem notsG_length (k : Nat) : (notsG k).length = k := by simp [notsG]
def lowN (t : Tre) : Nat := t.hood.length * bitsF t.states
def lowT (t : Tre) : List Gt × List (List Int) := testRows (lowN t) (bitsF t.states) t.states.toNat (notsG (lowN t)) t.hood.length
def lowM (t : Tre) (m : Nat) : List Gt × List (List Int) := nodesS t (lowN t) (bitsF t.states) t.states.toNat (lowT t).2 (lowT t).1 m
def lowErr (t : Tre) : Int := if rightT t = true then 0 else 11
def lowR (t : Tre) : Circ := if rightT t = true then ⟨lowN t, (lowM t t.nodes.length).1, (lowM t t.nodes.length).2.getD (t.nodes.length - 1) []⟩ else noCirc
end Go.Proofs.Ytamijjpnklbgnaa
