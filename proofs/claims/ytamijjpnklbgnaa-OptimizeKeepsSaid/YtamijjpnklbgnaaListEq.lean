/-
  Two lists are equal where they are equal place by place.
-/
import Derived.Test.YtamijjpnklbgnaaBase
namespace Go.Proofs.Ytamijjpnklbgnaa
open Go.RowKit

theorem list_eq_of_getD {α : Type} [Inhabited α] {xs ys : List α} (hl : xs.length = ys.length) (d : α) (h : ∀ k, k < xs.length → xs.getD k d = ys.getD k d) : xs = ys := by
  apply List.ext_getElem hl
  intro k h1 h2
  have := h k h1
  simpa [List.getD_eq_getElem?_getD, List.getElem?_eq_getElem h1, List.getElem?_eq_getElem h2] using this

end Go.Proofs.Ytamijjpnklbgnaa
