/-
  Valid rule trees and their value, plain. Nothing of the program stands here.
-/
import Derived.Test.YtamijjpnklbgnaaTPlain
namespace Go.Proofs.Ytamijjpnklbgnaa
open Go.RowKit
set_option linter.unusedSimpArgs false
set_option linter.unusedVariables false

def radius : Int := 2
def ptOk (p : Pt) : Bool := decide ((-radius ≤ p.x ∧ p.x ≤ radius) ∧ (-radius ≤ p.y ∧ p.y ≤ radius))
def beforeP (a b : Pt) : Bool := decide (a.y < b.y ∨ a.y = b.y ∧ a.x < b.x)
def hoodPts (l : List Pt) : Bool := decide (∀ k, k < l.length → ptOk (l.getD k default) = true ∧ (k = 0 ∨ beforeP (l.getD (k - 1) default) (l.getD k default) = true))
def hoodOk (l : List Pt) : Bool := decide (1 ≤ l.length ∧ l.length ≤ 25) && hoodPts l
def linkOk (t : Tre) (i : Nat) (x : Nd) (k : Int) : Bool := decide (0 ≤ k ∧ (x.level = 1 → k < t.states) ∧ (1 < x.level → k < i ∧ (t.nodes.getD k.toNat default).level = x.level - 1))
def nodeOk (t : Tre) (i : Nat) : Bool :=
  decide (1 ≤ (t.nodes.getD i default).level ∧ (t.nodes.getD i default).level ≤ t.hood.length ∧ ((t.nodes.getD i default).next.length : Int) = t.states) && (t.nodes.getD i default).next.all (linkOk t i (t.nodes.getD i default))
def nodesOk (t : Tre) : Bool := decide (∀ i, i < t.nodes.length → nodeOk t i = true)
def headOk (t : Tre) : Bool := decide ((2 ≤ t.states ∧ t.states ≤ 8) ∧ 1 ≤ t.nodes.length ∧ t.nodes.length ≤ 4096 ∧ (t.nodes.getD (t.nodes.length - 1) default).level = t.hood.length)
def rightT (t : Tre) : Bool := hoodOk t.hood && (headOk t && nodesOk t)

theorem rightT_parts {t : Tre} (h : rightT t = true) : hoodOk t.hood = true ∧ ((2 ≤ t.states ∧ t.states ≤ 8) ∧ 1 ≤ t.nodes.length ∧ t.nodes.length ≤ 4096 ∧ (t.nodes.getD (t.nodes.length - 1) default).level = t.hood.length) ∧ (∀ i, i < t.nodes.length → nodeOk t i = true) := by
  simpa [rightT, headOk, nodesOk] using h
theorem nodeOk_parts {t : Tre} {i : Nat} (h : nodeOk t i = true) : (1 ≤ (t.nodes.getD i default).level ∧ (t.nodes.getD i default).level ≤ t.hood.length ∧ ((t.nodes.getD i default).next.length : Int) = t.states) ∧
    ∀ s, s < (t.nodes.getD i default).next.length → linkOk t i (t.nodes.getD i default) ((t.nodes.getD i default).next.getD s 0) = true := by
  simp only [nodeOk, Bool.and_eq_true, decide_eq_true_eq] at h
  refine ⟨h.1, fun s hs => ?_⟩
  have h2 := h.2
  rw [List.all_eq_true] at h2
  have := h2 _ (List.getElem_mem hs)
  generalize (t.nodes.getD i default) = x at hs this ⊢
  rw [List.getD_eq_getElem?_getD, List.getElem?_eq_getElem hs]
  exact this

def stepT (t : Tre) (k s : Int) : Int := (t.nodes.getD k.toNat default).next.getD s.toNat 0
def walkT (t : Tre) (k : Int) (ins : List Int) : Int := ins.foldl (stepT t) k
def valueT (t : Tre) (ins : List Int) : Int := walkT t ((t.nodes.length : Int) - 1) ins
def stateIn (t : Tre) (s : Int) : Bool := decide (0 ≤ s ∧ s < t.states)
def evalErr (t : Tre) (ins : List Int) : Int := if rightT t = true then (if ins.length = t.hood.length then (if ins.all (stateIn t) = true then 0 else 10) else 2) else 11
def evalV (t : Tre) (ins : List Int) : Int := if evalErr t ins = 0 then valueT t ins else 0

theorem walkT_snoc (t : Tre) (k : Int) (l : List Int) (s : Int) : walkT t k (l ++ [s]) = stepT t (walkT t k l) s := by simp [walkT, List.foldl_append]
/-- Where the walk stands behind j states. -/
theorem walkT_at {t : Tre} (hr : rightT t = true) (ins : List Int) (hl : ins.length = t.hood.length) (hs : ∀ j, j < ins.length → 0 ≤ ins.getD j 0 ∧ ins.getD j 0 < t.states) (j : Nat) (hj : j ≤ ins.length) :
    (j < ins.length → 0 ≤ walkT t ((t.nodes.length : Int) - 1) (ins.take j) ∧ walkT t ((t.nodes.length : Int) - 1) (ins.take j) < t.nodes.length ∧ (t.nodes.getD (walkT t ((t.nodes.length : Int) - 1) (ins.take j)).toNat default).level = (t.hood.length : Int) - j) ∧
    (j = ins.length → 0 < j → 0 ≤ walkT t ((t.nodes.length : Int) - 1) (ins.take j) ∧ walkT t ((t.nodes.length : Int) - 1) (ins.take j) < t.states) := by
  obtain ⟨_, ⟨h1, h2, h3, h4⟩, hn⟩ := rightT_parts hr
  induction j with
  | zero =>
    refine ⟨fun _ => ?_, fun _ h => absurd h (by omega)⟩
    simp only [List.take_zero, walkT, List.foldl_nil]
    rw [show ((t.nodes.length : Int) - 1).toNat = t.nodes.length - 1 by omega, h4]
    omega
  | succ j ih =>
    have hjl : j < ins.length := by omega
    obtain ⟨i1, i2, i3⟩ := (ih (by omega)).1 hjl
    have hsj := hs j hjl
    rw [show ins.take (j + 1) = ins.take j ++ [ins.getD j 0] from by rw [List.take_succ_eq_append_getElem hjl, List.getD_eq_getElem?_getD, List.getElem?_eq_getElem hjl]; rfl, walkT_snoc]
    generalize walkT t ((t.nodes.length : Int) - 1) (ins.take j) = k at i1 i2 i3
    generalize ins.getD j 0 = s at hsj
    have hk : k.toNat < t.nodes.length := by omega
    obtain ⟨⟨n1, n2, n3⟩, n4⟩ := nodeOk_parts (hn _ hk)
    have hlk := n4 s.toNat (by omega)
    simp only [linkOk, decide_eq_true_eq] at hlk
    unfold stepT
    generalize (t.nodes.getD k.toNat default).next.getD s.toNat 0 = u at hlk
    obtain ⟨l1, l2, l3⟩ := hlk
    refine ⟨fun hlt => ?_, fun he _ => ?_⟩
    · have hlev : 1 < (t.nodes.getD k.toNat default).level := by omega
      obtain ⟨a1, a2⟩ := l3 hlev
      refine ⟨l1, by omega, ?_⟩
      rw [a2]; omega
    · exact ⟨l1, l2 (by omega)⟩
theorem stateIn_at {t : Tre} {ins : List Int} (h : ins.all (stateIn t) = true) {j : Nat} (hj : j < ins.length) : 0 ≤ ins.getD j 0 ∧ ins.getD j 0 < t.states := by
  rw [List.all_eq_true] at h
  have := h _ (List.getElem_mem hj)
  rw [List.getD_eq_getElem?_getD, List.getElem?_eq_getElem hj]
  simpa [stateIn] using this
end Go.Proofs.Ytamijjpnklbgnaa
