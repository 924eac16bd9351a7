/-
  What Join hands back, in memory.
-/
import Derived.Test.YthmkcckoeodhnaaCJPlain
import Derived.Test.YthmkcckoeodhnaaApp
namespace Go.Proofs.Ythmkcckoeodhnaa
open Go.RowKit
set_option linter.unusedSimpArgs false
set_option linter.unusedVariables false

/-- What Join hands back: a circuit and an error code. -/
def JoinPost (a b : Circ) (w : World) (e : Ending) (w' : World) : Prop :=
  ∃ (GA OA : Option Addr) (gn gc on oc : Nat), e = .returned (.tuple #[.agg #[.int .i64 (joinR a b).inputs, .slice GA gn gc, .slice OA on oc], .int .i64 (joinErr a b)]) ∧ CAt w' (joinR a b) GA OA gn on ∧ Below w.heap.size w w'
theorem joinPost_err {a b : Circ} {w w' : World} {k : Int} (hk : joinErr a b = k) (h0 : k ≠ 0) (hb : Below w.heap.size w w') : JoinPost a b w (.returned (.tuple #[.agg #[.int .i64 0, .slice none 0 0, .slice none 0 0], .int .i64 k])) w' := by
  have : joinR a b = noCirc := by rw [joinR, if_neg (by rw [hk]; exact h0)]
  refine ⟨none, none, 0, 0, 0, 0, ?_, ?_, hb⟩
  · rw [this, hk]; rfl
  · rw [this]; exact noCirc_at _

theorem row_new1 (w : World) (o : Obj) (T : TypeId) (xs : List Value) : Row ((w.alloc o).alloc (.cells xs.toArray T)) (w.heap.size + 1) T xs := by
  have := Row.new (w.alloc o) T xs
  rw [World.size_alloc] at this
  exact this
theorem row_new2 (w : World) (o o' : Obj) (T : TypeId) (xs : List Value) : Row (((w.alloc o).alloc o').alloc (.cells xs.toArray T)) (w.heap.size + 1 + 1) T xs := by
  have := Row.new ((w.alloc o).alloc o') T xs
  rw [World.size_alloc, World.size_alloc] at this
  exact this

theorem joinErr_parts {a b : Circ} (h : joinErr a b ≠ 2) : rightC a = true ∧ rightC b = true ∧ (a.outs.length : Int) = b.inputs := by
  unfold joinErr at h
  split at h
  · assumption
  · exact absurd rfl h

theorem joinErr_cases (a b : Circ) : joinErr a b = 0 ∨ joinErr a b = 2 ∨ joinErr a b = 6 := by
  unfold joinErr
  split
  · split
    · exact .inl rfl
    · exact .inr (.inr rfl)
  · exact .inr (.inl rfl)

end Go.Proofs.Ythmkcckoeodhnaa
