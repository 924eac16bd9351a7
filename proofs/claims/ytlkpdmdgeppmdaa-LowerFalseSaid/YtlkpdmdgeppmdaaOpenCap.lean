/-
  A list of Bools that came in as an argument, with its capacity: the value written out, the memory.
-/
import Derived.Test.YtlkpdmdgeppmdaaTOpen
namespace Go.Proofs.Ytlkpdmdgeppmdaa
open Go.RowKit Go.ChangeShapes Go.WideShapes Go.Deep Go.Joins
set_option linter.unusedSimpArgs false
set_option linter.unusedVariables false

theorem open_boolsc_arg {H : Type} {enc : TypeId × Value → H} {w : World} {base b0 : Nat} {spare : Nat → Bool} {held : Bool} {r : Reach} {v : Value} {d : DataW H} {p : List MemPlace}
    (hv : Value.okWide Try.prog w r b0 27 v) (h : DataW.Trod enc Try.prog w base spare held 27 v d p) :
    ∃ A n c xs, v = .slice A n c ∧ Rd w w.heap.size 1 A n (bools xs) ∧ (n ≤ maxLen ∧ n ≤ c ∧ c ≤ maxLen) := by
  obtain ⟨A, n, c, xs, rfl, hR, hm⟩ := open_bools_arg hv h
  obtain ⟨fuel, hf⟩ := h
  have hf' : DataW.trod enc Try.prog w base spare held fuel 27 [.slice A n c] = some (d, p) := by simpa [Value.cells] using hf
  rcases open_slice Try.underlying27 hf' with ⟨hcs, _⟩ | ⟨a, len, cap, m, k, D, Pl, hcs, _, hl, hmx, _⟩
  · injection hcs with hcs
    injection hcs with h1 h2 h3
    subst h1 h2 h3
    exact ⟨_, _, _, xs, rfl, hR, hm, Nat.le_refl _, hm⟩
  · injection hcs with hcs
    injection hcs with h1 h2 h3
    subst h1 h2 h3
    exact ⟨_, _, _, xs, rfl, hR, hm, hl, hmx⟩
end Go.Proofs.Ytlkpdmdgeppmdaa
