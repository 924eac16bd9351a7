/-
  Formulas and lists that came in as arguments: the value written out, the memory.
-/
import Derived.Test.YtofflkfkakddkaaCOpen
import Derived.Test.YtofflkfkakddkaaEMem
namespace Go.Proofs.Ytofflkfkakddkaa
open Go.RowKit Go.ChangeShapes Go.WideShapes Go.Deep Go.Joins
set_option linter.unusedSimpArgs false
set_option linter.unusedVariables false
section
variable {H : Type} {enc : TypeId × Value → H} {P : Program} {w : World} {base : Nat} {spare : Nat → Bool} {held : Bool}
/-- A slice of slices of integers. -/
theorem read_introws {t e e1 : TypeId} {fuel : Nat} {v : Value} {x : DataW H × List MemPlace} (ht : P.underlying t = some (.slice e)) (he : P.underlying e = some (.slice e1)) (hC : P.cellsOf e = 1)
    (hi : P.underlying e1 = some (.int .i64)) (hc : P.cellsOf e1 = 1)
    (h : DataW.trod enc P w base spare held fuel t [v] = some x) : ∃ (A : Option Addr) (n c : Nat) (ws : List (List Int)) (sl : List Sl), v = .slice A n c ∧ Rd w w.heap.size 1 A n (slCells sl) ∧ n ≤ maxLen ∧ sl.length = ws.length ∧
      ∀ i, i < ws.length → Rd w w.heap.size 1 (sl.getD i default).at_ (sl.getD i default).len (ints (ws.getD i [])) ∧ (sl.getD i default).len ≤ maxLen := by
  rcases open_slice ht h with ⟨hcs', _⟩ | ⟨a, len, cap, m, n, D, Pl, hcs', _, hl, hm, hmm, _, hx⟩
  · injection hcs' with hcs'
    exact ⟨none, 0, 0, [], [], hcs', Rd.empty none, by unfold maxLen; omega, rfl, fun i hi => absurd hi (Nat.not_lt_zero _)⟩
  · injection hcs' with hcs'
    have hln : len ≤ m := by rw [hmm]; split <;> omega
    have hV : ∀ i, i < m → ∃ g : List Int × Sl, w.cell? (a.add (i * 1)) = some (.slice g.2.at_ g.2.len g.2.cap) ∧ Rd w w.heap.size 1 g.2.at_ g.2.len (ints g.1) ∧ g.2.len ≤ maxLen := fun i hi' => by
      obtain ⟨cs', hcells, ht'⟩ := hx i hi'
      rw [hC] at hcells
      obtain ⟨_, hlen, hat⟩ := World.cells?_some hcells
      match cs', hlen with
      | [c0], _ =>
        obtain ⟨NA, nn, nc, zs, hv, hR, hn, _⟩ := read_ints he hi hc ht'
        have q0 := hat 0 (by omega)
        rw [add_add'] at q0
        subst hv
        exact ⟨⟨zs, ⟨NA, nn, nc⟩⟩, by simpa using q0, hR, hn⟩
    obtain ⟨G, hG⟩ := choose_lt (α := List Int × Sl) (p := fun i g => w.cell? (a.add (i * 1)) = some (.slice g.2.at_ g.2.len g.2.cap) ∧ Rd w w.heap.size 1 g.2.at_ g.2.len (ints g.1) ∧ g.2.len ≤ maxLen) hV
    refine ⟨some a, len, cap, (List.range len).map fun i => (G i).1, (List.range len).map fun i => (G i).2, hcs', rd_of_cells (by rw [slCells_length]; simp) (fun j u hu => ?_) (by omega), by omega, by simp, fun i hi => ?_⟩
    · have hj : j < len := by
        have := (List.getElem?_eq_some_iff.1 hu).1
        rw [slCells_length] at this; simpa using this
      rw [slCells_get _ _ (by simpa using hj)] at hu
      have hg : ((List.range len).map fun i => (G i).2).getD j default = (G j).2 := by simp [List.getD_eq_getElem?_getD, List.getElem?_map, List.getElem?_range hj]
      rw [hg] at hu
      have := (hG j (by omega)).1
      rw [Nat.mul_one] at this
      rw [this, ← hu]
    · have hi' : i < len := by simpa using hi
      have e1 : ((List.range len).map fun i => (G i).1).getD i [] = (G i).1 := by simp [List.getD_eq_getElem?_getD, List.getElem?_map, List.getElem?_range hi']
      have e2 : ((List.range len).map fun i => (G i).2).getD i default = (G i).2 := by simp [List.getD_eq_getElem?_getD, List.getElem?_map, List.getElem?_range hi']
      rw [e1, e2]
      exact (hG i (by omega)).2
end
section
variable {H : Type} {enc : TypeId × Value → H} {w : World} {base b0 : Nat} {spare : Nat → Bool} {held : Bool} {r : Reach} {v : Value} {d : DataW H} {p : List MemPlace}
theorem open_formula (hv : Value.okWide Try.prog w r b0 30 v) (h : DataW.Trod enc Try.prog w base spare held 30 v d p) :
    ∃ f A n c sl, v = .agg #[.int .i64 (Fml.vars f), .slice A n c] ∧ FAt w f A n sl := by
  obtain ⟨v0, v1, y0, y1, n, rfl, _, _, h0, h1⟩ := open_agg2 Try.underlying30 (by kernel_rfl) (by kernel_rfl) hv h
  obtain ⟨z, e0, _⟩ := DataW.trod_int Try.underlying3 h0
  injection e0 with e0
  obtain ⟨A, an, ac, ws, sl, rfl, hR, hn, hl, hx⟩ := read_introws Try.underlying28 Try.underlying23 (by kernel_rfl) Try.underlying3 (by kernel_rfl) h1
  subst e0
  exact ⟨⟨z, ws⟩, A, an, ac, sl, rfl, ⟨hR, hl, hx, hn⟩⟩
theorem open_ints_arg (hv : Value.okWide Try.prog w r b0 23 v) (h : DataW.Trod enc Try.prog w base spare held 23 v d p) :
    ∃ A n c xs, v = .slice A n c ∧ Rd w w.heap.size 1 A n (ints xs) ∧ n ≤ maxLen := by
  obtain ⟨A, n, c, rfl⟩ := okWide_slice Try.underlying23 hv
  obtain ⟨fuel, hf⟩ := h
  obtain ⟨A', n', c', xs, e, hR, hm, _⟩ := read_ints Try.underlying23 Try.underlying3 (by kernel_rfl) (v := .slice A n c) (by simpa [Value.cells] using hf)
  cases e
  exact ⟨_, _, _, xs, rfl, hR, hm⟩
theorem open_bools_arg (hv : Value.okWide Try.prog w r b0 40 v) (h : DataW.Trod enc Try.prog w base spare held 40 v d p) :
    ∃ A n c xs, v = .slice A n c ∧ Rd w w.heap.size 1 A n (bools xs) ∧ n ≤ maxLen := by
  obtain ⟨A, n, c, rfl⟩ := okWide_slice Try.underlying40 hv
  obtain ⟨fuel, hf⟩ := h
  obtain ⟨A', n', c', xs, e, hR, hm⟩ := read_bools Try.underlying40 Try.underlying4 (by kernel_rfl) (v := .slice A n c) (by simpa [Value.cells] using hf)
  cases e
  exact ⟨_, _, _, xs, rfl, hR, hm⟩
end
end Go.Proofs.Ytofflkfkakddkaa
