/-
  Small laws that both walks of a placed circuit use.
-/
import Derived.Test.YtofflkfkakddkaaEMem
namespace Go.Proofs.Ytofflkfkakddkaa
open Go.RowKit
set_option linter.unusedSimpArgs false
set_option linter.unusedVariables false
theorem own_types {w : World} {b1 b2 s1 s2 n1 n2 : Nat} {e1 e2 : TypeId} {v1 v2 : Value} {x1 x2 : List Value} (h1 : w.ownsRow b1 e1 s1 v1 n1 x1) (h2 : w.ownsRow b2 e2 s2 v2 n2 x2) (hne : e1 ≠ e2) : ∀ j, v1.ownBlock = some j → v2.ownBlock ≠ some j := fun j hj hk => by
  obtain ⟨c1, k1, _⟩ := own_block_type h1 hj
  obtain ⟨c2, k2, _⟩ := own_block_type h2 hk
  rw [k1] at k2
  injection k2 with k2
  injection k2 with _ ht
  exact hne ht
theorem wires_bd {nv : Nat} {ins : List Int} (h : varsOk nv ins = true) (k w : Nat) (hw : w < ins.length + k) : 1 ≤ (wiresV nv ins k).getD w 0 ∧ (wiresV nv ins k).getD w 0 ≤ nv + k := by
  unfold wiresV
  by_cases e : w < ins.length
  · rw [List.getD_eq_getElem?_getD, List.getElem?_append_left e, List.getElem?_eq_getElem e]
    unfold varsOk at h
    rw [List.all_eq_true] at h
    have := h _ (List.getElem_mem e)
    simp [varOk] at this
    show 1 ≤ ins[w] ∧ ins[w] ≤ _
    omega
  · rw [List.getD_eq_getElem?_getD, List.getElem?_append_right (by omega), List.getElem?_map, List.getElem?_range (by omega)]
    simp; omega
/-- The variables of the first outputs. -/
def outsTo (nv : Int) (ins : List Int) (n : Nat) (os : List Int) (j : Nat) : List Int := (List.range j).map (fun i => (wiresV nv ins n).getD (os.getD i 0).toNat 0)
theorem placeO_eq (f : Fml) (c : Circ) (ins : List Int) (nv gn on : Nat) (h1 : f.vars = (nv : Int)) (h2 : c.gates.length = gn) (h3 : c.outs.length = on) : placeO f c ins = outsTo nv ins gn c.outs on := by
  unfold placeO outsTo
  rw [h1, h2, ← h3]
  apply List.ext_getElem (by simp)
  intro q hq1 hq2
  have hq : q < c.outs.length := by simpa using hq1
  simp [List.getD_eq_getElem?_getD, List.getElem?_eq_getElem hq]
end Go.Proofs.Ytofflkfkakddkaa
