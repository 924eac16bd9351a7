/-
  What calls return that return a formula: to be read where they returned.
-/
import Derived.Test.YtofflkfkakddkaaEMem
namespace Go.Proofs.Ytofflkfkakddkaa
open Go.RowKit
set_option linter.unusedSimpArgs false
set_option linter.unusedVariables false
/-- What a call returns that returns a formula, a list of variables and an error. -/
def PlaceAt (r : Fml) (os : List Int) (k : Int) (w : World) (e : Ending) (w' : World) : Prop :=
  ∃ (A : Option Addr) (n c : Nat) (sl : List Sl) (OA : Option Addr) (on oc : Nat), e = .returned (.tuple #[.agg #[.int .i64 r.vars, .slice A n c], .slice OA on oc, .int .i64 k]) ∧ FAt w' r A n sl ∧
    Rd w' w'.heap.size 1 OA on (ints os) ∧ on ≤ maxLen ∧ Below w.heap.size w w'
theorem noFml_at' {r : Fml} (w : World) (hr : r = noFml) : FAt w r none 0 [] := by subst hr; exact noFml_at w
theorem placeAt_err {r : Fml} {os : List Int} {k k' : Int} {w w' : World} (hr : r = noFml) (ho : os = []) (hk : k' = k) (hb : Below w.heap.size w w') : PlaceAt r os k' w (.returned (.tuple #[.agg #[.int .i64 0, .slice none 0 0], .slice none 0 0, .int .i64 k])) w' := by
  subst hr ho hk
  exact ⟨none, 0, 0, [], none, 0, 0, rfl, noFml_at _, Rd.empty none, by unfold maxLen; omega, hb⟩
/-- What a call returns that returns a formula and an error. -/
def FmlPost (r : Fml) (k : Int) (w : World) (e : Ending) (w' : World) : Prop :=
  ∃ (A : Option Addr) (n c : Nat) (sl : List Sl), e = .returned (.tuple #[.agg #[.int .i64 r.vars, .slice A n c], .int .i64 k]) ∧ FAt w' r A n sl ∧ Below w.heap.size w w'
theorem fmlPost_err {r : Fml} {k k' : Int} {w w' : World} (hr : r = noFml) (hk : k' = k) (hb : Below w.heap.size w w') : FmlPost r k' w (.returned (.tuple #[.agg #[.int .i64 0, .slice none 0 0], .int .i64 k])) w' := by
  subst hr hk
  exact ⟨none, 0, 0, [], rfl, noFml_at _, hb⟩
theorem EOwn.fat {w : World} {base lo : Nat} {A : Option Addr} {n c : Nat} {sl : List Sl} {f : Fml} (h : EOwn w base lo (.slice A n c) sl f.cls) (hB : base ≤ w.heap.size) (hn : f.cls.length = n) (hm : n ≤ maxLen) : FAt w f A n sl := h.at_ (V := f.vars) hB hn hm
theorem place_ok {f : Fml} {c : Circ} {ins : List Int} {k : Nat} (h1 : rightF f = true) (h2 : rightC c = true) (h3 : ins.length = k) (h4 : (k : Int) = c.inputs) (h5 : varsOk f.vars ins = true) : placeOk f c ins = true := by
  unfold placeOk
  rw [h1, h2, h5, h3, decide_eq_true h4]; rfl
theorem grown_bel {w w' : World} (h : w.grownBy w' none) : Below w.heap.size w w' := ⟨h.os, h.tape, h.output, h.size, fun k hk => h.block k hk (by simp)⟩
theorem EOwn.ofFAt {w W : World} {f : Fml} {A : Option Addr} {n : Nat} {sl : List Sl} {v : Value} (h : FAt w f A n sl) (hb : Below w.heap.size w W) (ho : W.ownsRow w.heap.size 23 1 v n (slCells sl)) : EOwn W w.heap.size w.heap.size v sl f.cls :=
  ⟨h.sll, by rw [h.wl]; exact ho, fun i hi => ⟨.inl ((h.next i hi).1.below hb (Nat.le_refl _)), (h.next i hi).2⟩⟩
theorem fixGood {f : Fml} {vs : List Int} {bs : List Bool} (h : fixOk f vs bs = true) (h2 : fitsErr (fixF f vs bs) = 0) : fixR f vs bs = fixF f vs bs ∧ fixErr f vs bs = 0 := by
  have h3 : fixErr f vs bs = 0 := by unfold fixErr; rw [if_pos h]; exact h2
  exact ⟨by unfold fixR; rw [if_pos h3], h3⟩
theorem fixBig {f : Fml} {vs : List Int} {bs : List Bool} (h : fixOk f vs bs = true) (h2 : fitsErr (fixF f vs bs) = 6) : fixR f vs bs = noFml ∧ fixErr f vs bs = 6 := by
  have h3 : fixErr f vs bs = 6 := by unfold fixErr; rw [if_pos h]; exact h2
  exact ⟨by unfold fixR; rw [h3]; rfl, h3⟩
theorem fixBad {f : Fml} {vs : List Int} {bs : List Bool} (h : fixOk f vs bs = false) : fixR f vs bs = noFml ∧ fixErr f vs bs = 2 := by
  have h3 : fixErr f vs bs = 2 := by unfold fixErr; rw [h]; rfl
  exact ⟨by unfold fixR; rw [h3]; rfl, h3⟩
theorem eqGood {f : Fml} {a b : List Int} (h : eqOk f a b = true) (h2 : fitsErr (eqF f a b) = 0) : eqR f a b = eqF f a b ∧ eqErr f a b = 0 := by
  have h3 : eqErr f a b = 0 := by unfold eqErr; rw [if_pos h]; exact h2
  exact ⟨by unfold eqR; rw [if_pos h3], h3⟩
theorem eqBig {f : Fml} {a b : List Int} (h : eqOk f a b = true) (h2 : fitsErr (eqF f a b) = 6) : eqR f a b = noFml ∧ eqErr f a b = 6 := by
  have h3 : eqErr f a b = 6 := by unfold eqErr; rw [if_pos h]; exact h2
  exact ⟨by unfold eqR; rw [h3]; rfl, h3⟩
theorem eqBad {f : Fml} {a b : List Int} (h : eqOk f a b = false) : eqR f a b = noFml ∧ eqErr f a b = 2 := by
  have h3 : eqErr f a b = 2 := by unfold eqErr; rw [h]; rfl
  exact ⟨by unfold eqR; rw [h3]; rfl, h3⟩
theorem varOk_at {V : Int} {l : List Int} (h : varsOk V l = true) {k : Nat} (hk : k < l.length) : 1 ≤ l.getD k 0 ∧ l.getD k 0 ≤ V := by
  unfold varsOk at h
  rw [List.all_eq_true] at h
  have := h _ (List.getElem_mem hk)
  rw [List.getD_eq_getElem?_getD, List.getElem?_eq_getElem hk]
  simpa [varOk] using this
end Go.Proofs.Ytofflkfkakddkaa
