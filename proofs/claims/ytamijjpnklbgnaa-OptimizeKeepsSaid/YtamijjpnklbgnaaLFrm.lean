/-
  What stays where a call writes to a struct of its own and to a row of its own: all that lies below, and all blocks of other element types. Rows of rows. Any program.
-/
import Derived.Test.YtamijjpnklbgnaaApp
import Derived.Test.YtamijjpnklbgnaaWalk
namespace Go.Proofs.Ytamijjpnklbgnaa
open Go.RowKit
set_option linter.unusedSimpArgs false
set_option linter.unusedVariables false

structure Frm (B : Nat) (T1 T2 : TypeId) (w w' : World) : Prop where
  below : Below B w w'
  keep : ∀ (k : Nat) (cs : Array Value) (T : TypeId) (fz : Nat × Nat), T ≠ T1 → T ≠ T2 → w.heap[k]? = some (Obj.cells cs T fz) → w'.heap[k]? = some (Obj.cells cs T fz)
theorem heap_lt {w : World} {k : Nat} {o : Obj} (h : w.heap[k]? = some o) : k < w.heap.size := by
  rcases Nat.lt_or_ge k w.heap.size with hl | hge
  · exact hl
  · rw [Array.getElem?_eq_none hge] at h; cases h
section
variable {B : Nat} {T1 T2 : TypeId} {w w1 w' : World}
theorem Frm.refl (B : Nat) (T1 T2 : TypeId) (w : World) : Frm B T1 T2 w w := ⟨Below.refl _ _, fun _ _ _ _ _ _ h => h⟩
theorem Frm.trans (h : Frm B T1 T2 w w1) (k : Frm B T1 T2 w1 w') : Frm B T1 T2 w w' := ⟨h.below.trans k.below, fun b cs T fz h1 h2 hh => k.keep b cs T fz h1 h2 (h.keep b cs T fz h1 h2 hh)⟩
theorem Frm.drewN (h : Frm B T1 T2 w w1) (n : Nat) : Frm B T1 T2 w (w1.drewN n) := ⟨below_drewN h.below n, h.keep⟩
theorem Frm.alloc (h : Frm B T1 T2 w w1) (hB : B ≤ w1.heap.size) (o : Obj) : Frm B T1 T2 w (w1.alloc o) :=
  ⟨h.below.alloc hB o, fun b cs T fz h1 h2 hh => by
    have := h.keep b cs T fz h1 h2 hh
    rw [Below.heap_alloc w1 o b (heap_lt this)]; exact this⟩
theorem Frm.set {xs : List Value} {p : Addr} (h : Frm B T1 T2 w w1) (hr : Row w1 p.block T1 xs) (hB : B ≤ p.block) (u : Value) : Frm B T1 T2 w (w1.setCell p u) :=
  ⟨h.below.setCell hB u, fun b cs T fz h1 h2 hh => by
    have := h.keep b cs T fz h1 h2 hh
    rw [Below.heap_setCell w1 p u b (fun e => by
      subst e
      unfold Row at hr
      rw [hr] at this
      injection this with this
      injection this with _ ht
      exact h1 ht.symm)]
    exact this⟩
theorem own_block_type {base sz n : Nat} {e : TypeId} {v : Value} {xs : List Value} {k : Nat} (h : w.ownsRow base e sz v n xs) (hk : v.ownBlock = some k) : ∃ cur, w.heap[k]? = some (Obj.cells cur e (0, 0)) ∧ base ≤ k := by
  rcases h.2 with ⟨rfl, _⟩ | ⟨g, cap, cur, rfl, hb, hg, _⟩
  · cases hk
  · obtain rfl : g = k := by simpa [Value.ownBlock] using hk
    exact ⟨cur, hg, hb⟩
theorem Frm.grown2 {base sz n : Nat} {v : Value} {xs : List Value} (h : Frm B T1 T2 w w1) (ho : w1.ownsRow base T2 sz v n xs) (hB : B ≤ base) (hS : B ≤ w1.heap.size) (hg : w1.grownBy w' v.ownBlock) : Frm B T1 T2 w w' := by
  refine ⟨h.below.grown hg hS (fun k hk => Nat.le_trans hB (own_block_type ho hk).choose_spec.2), fun b cs T fz h1 h2 hh => ?_⟩
  have := h.keep b cs T fz h1 h2 hh
  rw [hg.block b (heap_lt this) (fun e => by
    obtain ⟨cur, hc, _⟩ := own_block_type ho e.symm
    rw [hc] at this
    injection this with this
    injection this with _ ht
    exact h2 ht.symm)]
  exact this
theorem Frm.grownNew {row : Option Nat} (h : Frm B T1 T2 w w1) (hg : w1.grownBy w' row) (hrow : ∀ k, row = some k → w.heap.size ≤ k) (hB : B ≤ w.heap.size) : Frm B T1 T2 w w' := by
  refine ⟨h.below.grown hg (Nat.le_trans hB h.below.size) (fun k hk => Nat.le_trans hB (hrow k hk)), fun b cs T fz h1 h2 hh => ?_⟩
  have hlt := heap_lt hh
  have := h.keep b cs T fz h1 h2 hh
  rw [hg.block b (heap_lt this) (fun e => by have := hrow b e.symm; omega)]
  exact this
theorem Frm.ofBelow (h : Below w.heap.size w w') (hB : B ≤ w.heap.size) : Frm B T1 T2 w w' :=
  ⟨h.mono hB, fun b cs T fz _ _ hh => by rw [h.block b (heap_lt hh)]; exact hh⟩
theorem Frm.own {base sz n : Nat} {e : TypeId} {v : Value} {xs : List Value} (h : Frm B T1 T2 w w') (ho : w.ownsRow base e sz v n xs) (h1 : e ≠ T1) (h2 : e ≠ T2) : w'.ownsRow base e sz v n xs :=
  ⟨ho.1, ho.2.imp id (fun ⟨g, cap, cur, a, b, c, d⟩ => ⟨g, cap, cur, a, b, h.keep g cur e (0, 0) h1 h2 c, d⟩)⟩
theorem Frm.row {g : Nat} {T : TypeId} {xs : List Value} (h : Frm B T1 T2 w w') (hr : Row w g T xs) (h1 : T ≠ T1) (h2 : T ≠ T2) : Row w' g T xs := h.keep g _ T (0, 0) h1 h2 hr
theorem own_grown {base sz n : Nat} {e : TypeId} {v : Value} {xs : List Value} {row : Option Nat} (ho : w.ownsRow base e sz v n xs) (hg : w.grownBy w' row) (hne : ∀ k, v.ownBlock = some k → row ≠ some k) : w'.ownsRow base e sz v n xs := by
  refine ⟨ho.1, ho.2.imp id (fun ⟨g, cap, cur, a, b, c, d⟩ => ⟨g, cap, cur, a, b, ?_, d⟩)⟩
  subst a
  rw [hg.block g (heap_lt c) (fun e => hne g rfl e.symm)]
  exact c
theorem own_old {base sz n : Nat} {e : TypeId} {v : Value} {xs : List Value} {row : Option Nat} {S : Nat} (ho : w.ownsRow base e sz v n xs) (hb : ∀ k, v.ownBlock = some k → k < S) (hg : w.grownBy w' row) (hr : ∀ k, row = some k → S ≤ k) : w'.ownsRow base e sz v n xs :=
  own_grown ho hg (fun k hk e => by have := hb k hk; have := hr k e; omega)
theorem own_lt {base sz n : Nat} {e : TypeId} {v : Value} {xs : List Value} (ho : w.ownsRow base e sz v n xs) : ∀ k, v.ownBlock = some k → k < w.heap.size := fun k hk => by
  obtain ⟨cur, hc, _⟩ := own_block_type ho hk
  exact heap_lt hc
theorem row_set {p : Addr} {g : Nat} {T : TypeId} {xs : List Value} (h : Row w g T xs) (i : Nat) (u : Value) : Row (w.setCell ⟨g, i, none⟩ u) g T (xs.set i u) := h.set i u
theorem own_set {base sz n : Nat} {e T : TypeId} {v : Value} {xs cs : List Value} {p : Addr} (ho : w.ownsRow base e sz v n xs) (hr : Row w p.block T cs) (hne : e ≠ T) (u : Value) : (w.setCell p u).ownsRow base e sz v n xs :=
  own_far ho (own_ne_row ho hr hne) u
end

/-- Rows of rows of integers: the outer row's elements are of type E, the inner rows' of type I; all from block base on. -/
def Rows2At (w : World) (base : Nat) (E I : TypeId) (v : Value) (rows : List (List Int)) : Prop :=
  ∃ vs : List Value, w.ownsRow base E 1 v rows.length vs ∧ vs.length = rows.length ∧ ∀ i, i < rows.length → w.ownsRow base I 1 (vs.getD i undef) (rows.getD i []).length (ints (rows.getD i []))
section
variable {w w' : World} {base : Nat} {E I : TypeId} {v : Value} {rows : List (List Int)}
theorem Rows2At.nil (w : World) (base : Nat) (E I : TypeId) : Rows2At w base E I (.slice none 0 0) [] := ⟨[], World.ownsRow_nil _ _ _ _, rfl, fun i hi => absurd hi (Nat.not_lt_zero _)⟩
theorem Rows2At.frm {B : Nat} {T1 T2 : TypeId} (h : Rows2At w base E I v rows) (f : Frm B T1 T2 w w') (e1 : E ≠ T1) (e2 : E ≠ T2) (i1 : I ≠ T1) (i2 : I ≠ T2) : Rows2At w' base E I v rows := by
  obtain ⟨vs, h1, h2, h3⟩ := h
  exact ⟨vs, f.own h1 e1 e2, h2, fun i hi => f.own (h3 i hi) i1 i2⟩
theorem Rows2At.grown {row : Option Nat} (h : Rows2At w base E I v rows) (hg : w.grownBy w' row) (hr : ∀ k, row = some k → w.heap.size ≤ k) : Rows2At w' base E I v rows := by
  obtain ⟨vs, h1, h2, h3⟩ := h
  exact ⟨vs, own_old h1 (own_lt h1) hg hr, h2, fun i hi => own_old (h3 i hi) (own_lt (h3 i hi)) hg hr⟩
theorem Rows2At.below {B : Nat} (h : Rows2At w base E I v rows) (hb : Below B w w') (hB : w.heap.size ≤ B) : Rows2At w' base E I v rows := by
  obtain ⟨vs, h1, h2, h3⟩ := h
  exact ⟨vs, own_below h1 hb hB, h2, fun i hi => own_below (h3 i hi) hb hB⟩
end
end Go.Proofs.Ytamijjpnklbgnaa
