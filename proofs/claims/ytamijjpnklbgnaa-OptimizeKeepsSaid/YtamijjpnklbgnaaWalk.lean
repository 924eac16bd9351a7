/-
  Steps of a walk call by call: what lies below, new rows, cells kept. Any program.
-/
import Derived.Test.YtamijjpnklbgnaaBase
import Derived.Deep.QuietTactic
namespace Go.Proofs.Ytamijjpnklbgnaa
open Go.RowKit
set_option linter.unusedSimpArgs false
set_option linter.unusedVariables false

theorem below_next {w W w' : World} (hb : Below W.heap.size W w') (hw : Below w.heap.size w W) : Below w.heap.size w w' := hw.trans (hb.mono hw.size)
theorem below_on {w W1 W w' : World} (h0 : Below w.heap.size w W1) (h1 : Below W1.heap.size W1 W) (hb : Below W.heap.size W w') : Below w.heap.size w w' := h0.trans ((h1.trans (hb.mono h1.size)).mono h0.size)
theorem below_on2 {w W1 W : World} (h0 : Below w.heap.size w W1) (h1 : Below W1.heap.size W1 W) : Below w.heap.size w W := h0.trans (h1.mono h0.size)
theorem rowCells {w : World} {g : Nat} {T : TypeId} {xs : List Value} (h : Row w g T xs) {w' : World} (hb : Below w.heap.size w w') : Row w' g T xs := h.below hb h.lt
theorem rowNew1 (w : World) (o : Obj) (T : TypeId) (xs : List Value) : Row ((w.alloc o).alloc (.cells xs.toArray T)) (w.heap.size + 1) T xs := by
  have := Row.new (w.alloc o) T xs
  rw [World.size_alloc] at this
  exact this
theorem rowNew2 (w : World) (o o' : Obj) (T : TypeId) (xs : List Value) : Row (((w.alloc o).alloc o').alloc (.cells xs.toArray T)) (w.heap.size + 1 + 1) T xs := by
  have := Row.new ((w.alloc o).alloc o') T xs
  rw [World.size_alloc, World.size_alloc] at this
  exact this
/-- A callee that leaves the world as it is, within go_quiet. -/
theorem quiet_same {P : Program} {f : FuncId} {args : Array Value} {w : World} {n : Nat} {v : Value}
    (h : Calls P f args (w.drewN n) fun e w' => e = .returned v ∧ w.drewN n = w') : Calls P f args (w.drewN n) fun e w'' => e = .returned v ∧ ∃ m, w'' = w.drewN m :=
  h.mono fun _ _ h2 => ⟨h2.1, n, h2.2.symm⟩
end Go.Proofs.Ytamijjpnklbgnaa
