/-
  A circuit that came in as an argument: its value written out, its memory.
-/
import Derived.Test.YtamijjpnklbgnaaRows
import Derived.Test.YtamijjpnklbgnaaOpen
namespace Go.Proofs.Ytamijjpnklbgnaa
open Go.RowKit Go.ChangeShapes Go.WideShapes Go.Deep Go.Joins
set_option linter.unusedSimpArgs false
set_option linter.unusedVariables false

theorem Try.own' : ownKnob Try.prog.godebug = none := by kernel_rfl
theorem Try.laidOut' : laidOutB Try.prog = true := by kernel_rfl

theorem open_circ {H : Type} {enc : TypeId × Value → H} {w : World} {base b0 : Nat} {spare : Nat → Bool} {held : Bool} {r : Reach} {v : Value} {d : DataW H} {p : List MemPlace}
    (hv : Value.okWide Try.prog w r b0 25 v) (h : DataW.Trod enc Try.prog w base spare held 25 v d p) :
    ∃ c GA OA gn gc on oc, v = .agg #[.int .i64 c.inputs, .slice GA gn gc, .slice OA on oc] ∧ CAt w c GA OA gn on := by
  obtain ⟨v0, v1, v2, y0, y1, y2, n, rfl, _, _, h0, h1, h2⟩ := open_agg3 Try.underlying25 (by kernel_rfl) (by kernel_rfl) hv h
  obtain ⟨z, e0, _⟩ := DataW.trod_int Try.underlying3 h0
  injection e0 with e0
  obtain ⟨GA, gn, gc, gs, rfl, hG, hg⟩ := read_gates Try.underlying22 Try.underlying32 (by kernel_rfl) ⟨rfl, rfl⟩ ⟨rfl, rfl⟩ ⟨rfl, rfl⟩ Try.underlying3 (by kernel_rfl) h1
  obtain ⟨OA, on, oc, os, rfl, hO, ho, _⟩ := read_ints Try.underlying23 Try.underlying3 (by kernel_rfl) h2
  subst e0
  exact ⟨⟨z, gs, os⟩, GA, OA, gn, gc, on, oc, rfl, ⟨hG, hO, hg, ho⟩⟩
end Go.Proofs.Ytamijjpnklbgnaa
