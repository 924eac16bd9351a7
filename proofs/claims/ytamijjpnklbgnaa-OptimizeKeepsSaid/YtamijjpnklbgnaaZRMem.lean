/-
  The reference of package optimize: the circuit that is built and the list of wires, in plain data and in memory.
-/
import Derived.Test.YtamijjpnklbgnaaZRCop
import Derived.Test.YtamijjpnklbgnaaZFix2
namespace Go.Proofs.Ytamijjpnklbgnaa
open Go.RowKit
set_option linter.unusedSimpArgs false
set_option linter.unusedVariables false
/-- The wires of the work, then those to come, each standing for itself. -/
def aliasL (s : Wk) (n : Int) (k m : Nat) : List Int := s.to ++ (List.range m).map (fun i : Nat => n + (k : Int) + (i : Int))
section
variable {s : Wk} {n : Int} {k m : Nat}
theorem alias_len (hs : s.to.length = n.toNat + k) : (aliasL s n k m).length = n.toNat + k + m := by simp [aliasL, hs]
theorem alias_lt (hs : s.to.length = n.toNat + k) {w : Nat} (hw : w < n.toNat + k) : (aliasL s n k m).getD w 0 = s.to.getD w 0 := by
  unfold aliasL
  rw [List.getD_eq_getElem?_getD, List.getElem?_append_left (by omega), ← List.getD_eq_getElem?_getD]
theorem alias_at (hs : s.to.length = n.toNat + k) {i : Nat} (hi : i < m) : (aliasL s n k m).getD (n.toNat + k + i) 0 = n + (k : Int) + (i : Int) := by
  unfold aliasL
  rw [List.getD_eq_getElem?_getD, List.getElem?_append_right (by omega), List.getElem?_map, List.getElem?_range (by omega)]
  have e : n.toNat + k + i - s.to.length = i := by omega
  rw [e]; rfl
theorem alias_move (hn : 0 ≤ n) (hs : s.to.length = n.toNat + k) {g : Gt} (hg : gateOk (n + (k : Int)) g = true) : moveG (aliasL s n k m) g = moveG s.to g :=
  moveG_congr (L := n.toNat + k) (fun w hw => alias_lt hs hw) hg (by omega)
theorem alias_start (n : Int) (hn : 0 ≤ n) (m : Nat) : aliasL (startW n) n 0 m = idW (n.toNat + m) := by
  unfold aliasL idW startW
  rw [List.range_add, List.map_append, List.map_map]
  congr 1
  apply List.map_congr_left
  intro i _
  show n + ((0 : Nat) : Int) + (i : Int) = ((n.toNat + i : Nat) : Int)
  omega
theorem alias_cons : aliasL s n k (m + 1) = s.to ++ (n + (k : Int)) :: (List.range m).map (fun i : Nat => n + ((k + 1 : Nat) : Int) + (i : Int)) := by
  unfold aliasL
  rw [List.range_succ_eq_map, List.map_cons, List.map_map]
  congr 2
  · show n + (k : Int) + ((0 : Nat) : Int) = _; omega
  · apply List.map_congr_left
    intro i _
    show n + (k : Int) + ((i + 1 : Nat) : Int) = _
    omega
theorem alias_next (hs : s.to.length = n.toNat + k) (z : Int) : (s.to ++ [z]) ++ (List.range m).map (fun i : Nat => n + ((k + 1 : Nat) : Int) + (i : Int)) = (aliasL s n k (m + 1)).set (n.toNat + k) z := by
  rw [alias_cons, List.set_append_right _ _ (by omega)]
  have e : n.toNat + k - s.to.length = 0 := by omega
  rw [e, List.set_cons_zero, List.append_assoc]; rfl
theorem alias_same (hs : s.to.length = n.toNat + k) : (s.to ++ [n + (k : Int)]) ++ (List.range m).map (fun i : Nat => n + ((k + 1 : Nat) : Int) + (i : Int)) = aliasL s n k (m + 1) := by
  rw [alias_cons, List.append_assoc]; rfl
theorem alias_add (hs : s.to.length = n.toNat + k) (hg : s.gates.length = k) (p : Gt × Int) : aliasL (addW n s p) n (k + 1) m = if p.2 < 0 then aliasL s n k (m + 1) else (aliasL s n k (m + 1)).set (n.toNat + k) p.2 := by
  show (s.to ++ [if p.2 < 0 then n + (s.gates.length : Int) else p.2]) ++ (List.range m).map (fun i : Nat => n + ((k + 1 : Nat) : Int) + (i : Int)) = _
  rw [hg]
  split
  · exact alias_same hs
  · exact alias_next hs _
theorem alias_end : aliasL s n k 0 = s.to := by simp [aliasL]
end
theorem ints_set (l : List Int) (i : Nat) (z : Int) : (ints l).set i (.int .i64 z) = ints (l.set i z) := by simp [ints, List.map_set]
/-- The circuit that is built, at block b: its inputs n, its gates gs (a row from block B on), its outputs ov. -/
def OSt (W : World) (B b : Nat) (n : Int) (gs : List Gt) (ov : Value) : Prop :=
  ∃ gv : Value, Row W b 25 [.int .i64 n, gv, ov] ∧ W.ownsRow B 32 3 gv gs.length (gatesCells gs) ∧ B ≤ b
/-- The list of wires, a row from block B on. -/
abbrev ASt (W : World) (B : Nat) (TA : Option Addr) (tc M : Nat) (al : List Int) : Prop := W.ownsRow B 3 1 (.slice TA M tc) M (ints al)
section
variable {w w' w0 : World} {B b tc M : Nat} {n : Int} {gs : List Gt} {ov : Value} {TA : Option Addr} {al : List Int}
theorem OSt.blk (h : OSt w B b n gs ov) : b < w.heap.size ∧ B ≤ b := by
  obtain ⟨gv, h1, _, h3⟩ := h
  exact ⟨h1.lt, h3⟩
theorem OSt.op (h : OSt w B b n gs ov) : ∃ GA gc, Row w b 25 [.int .i64 n, .slice GA gs.length gc, ov] ∧ w.ownsRow B 32 3 (.slice GA gs.length gc) gs.length (gatesCells gs) := by
  obtain ⟨gv, h1, h2, h3⟩ := h
  obtain ⟨GA, gc, rfl, _⟩ := Rd.own h2
  exact ⟨GA, gc, h1, h2⟩
theorem OSt.keep (h : OSt w B b n gs ov) (hb : ∀ k, k < w.heap.size → w'.heap[k]? = w.heap[k]?) : OSt w' B b n gs ov := by
  obtain ⟨gv, h1, h2, h3⟩ := h
  refine ⟨gv, (hb b h1.lt).trans h1, ⟨h2.1, h2.2.imp id (fun ⟨g, cap, cur, a, b', c, d⟩ => ⟨g, cap, cur, a, b', (hb g (heap_lt c)).trans c, d⟩)⟩, h3⟩
theorem OSt.below (h : OSt w B b n gs ov) (hb : Below w.heap.size w w') : OSt w' B b n gs ov := h.keep hb.block
theorem OSt.alloc (h : OSt w B b n gs ov) (o : Obj) : OSt (w.alloc o) B b n gs ov := h.keep (fun k hk => Below.heap_alloc w o k hk)
theorem OSt.setOuts (h : OSt w B b n gs ov) (u : Value) : OSt (w.setCell ⟨b, 2, none⟩ u) B b n gs u := by
  obtain ⟨gv, h1, h2, h3⟩ := h
  exact ⟨gv, h1.set 2 u, own_set (p := ⟨b, 2, none⟩) h2 h1 (by decide) u, h3⟩
/-- A gate is appended and stored. -/
theorem OSt.push {gv v' : Value} {gn : Nat} {g : Gt} (hr : Row w b 25 [.int .i64 n, gv, ov]) (ho : w.ownsRow B 32 3 gv gn (gatesCells gs)) (ha : ASt w B TA tc M al) (hB : B ≤ b) (hn : gs.length = gn) (hs : B ≤ w.heap.size) (hg : w.grownBy w' gv.ownBlock)
    (ho' : w'.ownsRow B 32 3 v' (gn + 1) (gatesCells gs ++ [.int .i64 g.op, .int .i64 g.a, .int .i64 g.b])) (hF : Below B w0 w) :
    Row w' b 25 [.int .i64 n, gv, ov] ∧ OSt (w'.setCell ⟨b, 1, none⟩ v') B b n (gs ++ [g]) ov ∧ ASt (w'.setCell ⟨b, 1, none⟩ v') B TA tc M al ∧ Below B w0 (w'.setCell ⟨b, 1, none⟩ v') := by
  have r1 : Row w' b 25 [.int .i64 n, gv, ov] := hr.grown hg (fun e => (own_ne_row ho hr (by decide)) e.symm)
  have a1 : ASt w' B TA tc M al := own_grown ha hg (fun k hk e => (own_ne_own ha ho (by decide)).elim (fun h => by rw [h] at hk; cases hk) (fun h => h (hk.trans e.symm)))
  refine ⟨r1, ⟨v', r1.set 1 v', ?_, hB⟩, own_set (p := ⟨b, 1, none⟩) a1 r1 (by decide) v', (hF.grown hg hs (fun k hk => (ho.lt k hk).1)).setCell (p := ⟨b, 1, none⟩) hB v'⟩
  have h1 := own_set (p := ⟨b, 1, none⟩) ho' r1 (by decide) v'
  rw [gatesCells_append, gatesCells_one, List.length_append, List.length_singleton, hn]
  exact h1
/-- A wire's stand-in is written. -/
theorem ASt.put (ha : ASt w B TA tc M al) {i : Nat} (hi : i < M) : ∃ g, TA = some ⟨g, 0, none⟩ ∧ g < w.heap.size ∧ B ≤ g ∧ w.cell? ⟨g, i, none⟩ = some (.int .i64 (al.getD i 0)) ∧ w.frozen? ⟨g, i, none⟩ = false ∧
    ∀ z : Int, ASt (w.setCell ⟨g, i, none⟩ (.int .i64 z)) B TA tc M (al.set i z) ∧ (∀ b n gs ov, OSt w B b n gs ov → OSt (w.setCell ⟨g, i, none⟩ (.int .i64 z)) B b n gs ov) ∧ (∀ T cs r, T ≠ 3 → Row w r T cs → Row (w.setCell ⟨g, i, none⟩ (.int .i64 z)) r T cs) ∧ (∀ w0, Below B w0 w → Below B w0 (w.setCell ⟨g, i, none⟩ (.int .i64 z))) := by
  have hlen : al.length = M := by have := ha.1; simp at this; omega
  obtain ⟨g, cap, hv, hb, hlt⟩ := ha.form (by omega)
  have hA : TA = some ⟨g, 0, none⟩ := by injection hv
  subst hA
  refine ⟨g, rfl, hlt, hb, (ha.cellAt i (by omega)).trans (ints_get al i (by omega)), ha.frozenAt i, fun z => ⟨?_, fun b n gs ov h => ?_, fun T cs r hT hr => ?_, fun w0 h0 => h0.setCell (p := ⟨g, i, none⟩) hb _⟩⟩
  · have := (ha.stored i (.int .i64 z)).1
    rw [ints_set] at this
    exact this
  · obtain ⟨gv, h1, h2, h3⟩ := h
    refine ⟨gv, h1.far (p := ⟨g, i, none⟩) (fun e => ?_) _, own_far (p := ⟨g, i, none⟩) h2 (fun e => ?_) _, h3⟩
    · exact own_ne_row ha h1 (by decide) (congrArg some e.symm)
    · rcases own_ne_own h2 ha (by decide) with h4 | h4
      · rw [h4] at e; cases e
      · exact h4 e
  · exact hr.far (p := ⟨g, i, none⟩) (fun e => own_ne_row ha hr hT.symm (congrArg some e.symm)) _
/-- What a row of wires reads as. -/
theorem ASt.rd (ha : ASt w B TA tc M al) : Rd w w.heap.size 1 TA M (ints al) := Rd.of_own ha
theorem ASt.below (ha : ASt w B TA tc M al) (hb : Below w.heap.size w w') : ASt w' B TA tc M al := own_below ha hb (Nat.le_refl _)
end
end Go.Proofs.Ytamijjpnklbgnaa
