/-
  Rule trees as plain data, as they lie in memory. Nothing of the program stands here.
-/
import Derived.Test.YtamijjpnklbgnaaBase
namespace Go.Proofs.Ytamijjpnklbgnaa
open Go.RowKit
set_option linter.unusedSimpArgs false
set_option linter.unusedVariables false

structure Pt where
  x : Int
  y : Int
instance : Inhabited Pt := ⟨⟨0, 0⟩⟩
structure Nd where
  level : Int
  next : List Int
instance : Inhabited Nd := ⟨⟨0, []⟩⟩
structure Tre where
  states : Int
  hood : List Pt
  nodes : List Nd

/-- Where a slice lies: address, length, capacity. -/
structure Sl where
  at_ : Option Addr
  len : Nat
  cap : Nat
instance : Inhabited Sl := ⟨⟨none, 0, 0⟩⟩

def ptCells (p : Pt) : List Value := [.int .i64 p.x, .int .i64 p.y]
def hoodCells (l : List Pt) : List Value := l.flatMap ptCells
def ndCells (p : Nd × Sl) : List Value := [.int .i64 p.1.level, .slice p.2.at_ p.2.len p.2.cap]
def nodesCells (ns : List Nd) (sl : List Sl) : List Value := (ns.zip sl).flatMap ndCells

theorem flat2_length {α : Type} (f : α → List Value) (hf : ∀ x, (f x).length = 2) (l : List α) : (l.flatMap f).length = l.length * 2 := by
  induction l with
  | nil => rfl
  | cons x l ih => simp only [List.flatMap_cons, List.length_append, List.length_cons, hf, ih]; omega
theorem flat2_get {α : Type} [Inhabited α] (f : α → List Value) (hf : ∀ x, (f x).length = 2) (l : List α) (k : Nat) (hk : k < l.length) :
    (l.flatMap f)[k * 2]? = (f (l.getD k default))[0]? ∧ (l.flatMap f)[k * 2 + 1]? = (f (l.getD k default))[1]? := by
  induction l generalizing k with
  | nil => simp at hk
  | cons x l ih =>
    cases k with
    | zero =>
      simp only [List.flatMap_cons, Nat.zero_mul, Nat.zero_add, List.getD_cons_zero]
      rw [List.getElem?_append_left (by rw [hf]; omega), List.getElem?_append_left (by rw [hf]; omega)]
      exact ⟨rfl, rfl⟩
    | succ k =>
      have := ih k (by simpa using hk)
      simp only [List.flatMap_cons, List.getD_cons_succ]
      rw [List.getElem?_append_right (by rw [hf]; omega), List.getElem?_append_right (by rw [hf]; omega), hf]
      rw [show (k + 1) * 2 - 2 = k * 2 by omega, show (k + 1) * 2 + 1 - 2 = k * 2 + 1 by omega]
      exact this
theorem Rd.row2 {w : World} {B n : Nat} {A : Option Addr} {xs : List Value} (h : Rd w B 2 A n xs) {k : Nat} (hk : k < n) {x0 x1 : Value}
    (h0 : xs[k * 2]? = some x0) (h1 : xs[k * 2 + 1]? = some x1) :
    ∃ ad, A = some ad ∧ ad.block < B ∧ w.cell? (ad.add (k * 2)) = some x0 ∧ w.cell? ⟨(ad.add (k * 2)).block, (ad.add (k * 2)).off + 1, none⟩ = some x1 := by
  obtain ⟨ad, e, hb, hc⟩ := h.2 (by omega)
  exact ⟨ad, e, hb, hc _ _ h0, (congrArg w.cell? (add_add' ad (k * 2) 1)).trans (hc _ _ h1)⟩

/-- A tree's slices as they lie in memory. -/
structure TAt (w : World) (t : Tre) (HA NA : Option Addr) (hn nn : Nat) (sl : List Sl) : Prop where
  hood : Rd w w.heap.size 2 HA hn (hoodCells t.hood)
  nodes : Rd w w.heap.size 2 NA nn (nodesCells t.nodes sl)
  sll : sl.length = t.nodes.length
  next : ∀ i, i < t.nodes.length → Rd w w.heap.size 1 (sl.getD i default).at_ (sl.getD i default).len (ints (t.nodes.getD i default).next) ∧ (sl.getD i default).len ≤ maxLen
  h63 : hn ≤ maxLen
  n63 : nn ≤ maxLen
theorem TAt.up {w w' : World} {t : Tre} {HA NA : Option Addr} {hn nn : Nat} {sl : List Sl} (h : TAt w t HA NA hn nn sl) (hb : Below w.heap.size w w') : TAt w' t HA NA hn nn sl :=
  ⟨h.hood.up hb, h.nodes.up hb, h.sll, fun i hi => ⟨(h.next i hi).1.up hb, (h.next i hi).2⟩, h.h63, h.n63⟩
theorem TAt.hl {w : World} {t : Tre} {HA NA : Option Addr} {hn nn : Nat} {sl : List Sl} (h : TAt w t HA NA hn nn sl) : t.hood.length = hn := by
  have := h.hood.1; rw [hoodCells, flat2_length _ (fun _ => rfl)] at this; omega
theorem TAt.nl {w : World} {t : Tre} {HA NA : Option Addr} {hn nn : Nat} {sl : List Sl} (h : TAt w t HA NA hn nn sl) : t.nodes.length = nn := by
  have h1 := h.nodes.1
  have h2 := h.sll
  rw [nodesCells, flat2_length _ (fun _ => rfl), List.length_zip] at h1; omega
theorem TAt.node {w : World} {t : Tre} {HA NA : Option Addr} {hn nn : Nat} {sl : List Sl} (h : TAt w t HA NA hn nn sl) {k : Nat} (hk : k < nn) :
    ∃ ad, NA = some ad ∧ ad.block < w.heap.size ∧ w.cell? (ad.add (k * 2)) = some (.int .i64 (t.nodes.getD k default).level) ∧
      w.cell? ⟨(ad.add (k * 2)).block, (ad.add (k * 2)).off + 1, none⟩ = some (.slice (sl.getD k default).at_ (sl.getD k default).len (sl.getD k default).cap) := by
  have hl := h.nl
  have hs := h.sll
  have hz : k < (t.nodes.zip sl).length := by rw [List.length_zip]; omega
  have hg : (t.nodes.zip sl).getD k default = (t.nodes.getD k default, sl.getD k default) := by
    simp only [List.getD_eq_getElem?_getD, List.getElem?_eq_getElem hz, List.getElem?_eq_getElem (show k < t.nodes.length by omega), List.getElem?_eq_getElem (show k < sl.length by omega), Option.getD_some, List.getElem_zip]
  obtain ⟨h0, h1⟩ := flat2_get ndCells (fun _ => rfl) (t.nodes.zip sl) k hz
  rw [hg] at h0 h1
  exact h.nodes.row2 hk h0 h1
theorem TAt.point {w : World} {t : Tre} {HA NA : Option Addr} {hn nn : Nat} {sl : List Sl} (h : TAt w t HA NA hn nn sl) {k : Nat} (hk : k < hn) :
    ∃ ad, HA = some ad ∧ ad.block < w.heap.size ∧ w.cell? (ad.add (k * 2)) = some (.int .i64 (t.hood.getD k default).x) ∧
      w.cell? ⟨(ad.add (k * 2)).block, (ad.add (k * 2)).off + 1, none⟩ = some (.int .i64 (t.hood.getD k default).y) := by
  have hl := h.hl
  obtain ⟨h0, h1⟩ := flat2_get ptCells (fun _ => rfl) t.hood k (by omega)
  exact h.hood.row2 hk h0 h1
end Go.Proofs.Ytamijjpnklbgnaa
