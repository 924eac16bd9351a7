/-
  Grids, patterns, cells, integers and arrays of three integers that came in as arguments: the value written out, the memory.
-/
import Derived.Test.YtoldjjgogdbalaaRows
import Derived.Test.YtoldjjgogdbalaaOpen
import Derived.Test.YtoldjjgogdbalaaGPlain
import Derived.Laws.IdiomArrays
namespace Go.Proofs.Ytoldjjgogdbalaa
open Go.RowKit Go.ChangeShapes Go.WideShapes Go.Deep Go.Joins
set_option linter.unusedSimpArgs false
set_option linter.unusedVariables false

theorem Try.own' : ownKnob Try.prog.godebug = none := by kernel_rfl
theorem Try.laidOut' : laidOutB Try.prog = true := by kernel_rfl

theorem okWide_array' {P : Program} {w : World} {r : Reach} {base : Nat} {t e : TypeId} {n : Nat} {v : Value} (ht : P.underlying t = some (.array n e)) (h : Value.okWide P w r base t v) : ∃ cs, v = .agg cs ∧ cs.size = P.cellsOf t := by
  simp only [Value.okWide, ht] at h
  obtain ⟨cs, h1, h2, _⟩ := h
  exact ⟨cs, h1, h2⟩

section
variable {H : Type} {enc : TypeId × Value → H} {w : World} {base b0 : Nat} {spare : Nat → Bool} {held : Bool} {r : Reach} {v : Value} {d : DataW H} {p : List MemPlace}
theorem open_grid (hv : Value.okWide Try.prog w r b0 24 v) (h : DataW.Trod enc Try.prog w base spare held 24 v d p) :
    ∃ g A n c, v = .agg #[.int .i64 g.w, .int .i64 g.h, .int .i64 g.edge, .slice A n c] ∧ GAt w g A n := by
  obtain ⟨v0, v1, v2, v3, y0, y1, y2, y3, n, rfl, _, _, h0, h1, h2, h3⟩ := open_agg4 Try.underlying24 (by kernel_rfl) (by kernel_rfl) hv h
  obtain ⟨z0, e0, _⟩ := DataW.trod_int Try.underlying3 h0
  obtain ⟨z1, e1, _⟩ := DataW.trod_int Try.underlying3 h1
  obtain ⟨z2, e2, _⟩ := DataW.trod_int Try.underlying3 h2
  injection e0 with e0
  injection e1 with e1
  injection e2 with e2
  obtain ⟨OA, on, oc, os, rfl, hO, ho, _⟩ := read_ints Try.underlying22 Try.underlying3 (by kernel_rfl) h3
  subst e0 e1 e2
  exact ⟨⟨z0, z1, z2, os⟩, OA, on, oc, rfl, ⟨hO, ho⟩⟩
theorem open_int_arg (hv : Value.okWide Try.prog w r b0 3 v) (h : DataW.Trod enc Try.prog w base spare held 3 v d p) :
    ∃ z : Int, v = .int .i64 z ∧ -9223372036854775808 ≤ z ∧ z ≤ 9223372036854775807 := by
  obtain ⟨z, rfl⟩ := okWide_int Try.underlying3 hv
  obtain ⟨fuel, hf⟩ := h
  obtain ⟨z', e, hw⟩ := DataW.trod_int Try.underlying3 hf
  simp [Value.cells] at e
  subst e
  refine ⟨z, rfl, ?_⟩
  first
  | simpa [Lit.wf, IntKind.min, IntKind.max, IntKind.signed, IntKind.bits] using hw
  | simpa [Lit.wf, IntKind.min, IntKind.max, IntKind.signed, IntKind.bits] using hw.1
  | simpa [Lit.wf, IntKind.min, IntKind.max, IntKind.signed, IntKind.bits] using hw.2
theorem open_pat_arg (hv : Value.okWide Try.prog w r b0 38 v) (h : DataW.Trod enc Try.prog w base spare held 38 v d p) :
    ∃ A n c xs, v = .slice A n c ∧ Rd w w.heap.size 3 A n (gatesCells xs) ∧ n ≤ maxLen := by
  obtain ⟨A, n, c, rfl⟩ := okWide_slice Try.underlying38 hv
  obtain ⟨fuel, hf⟩ := h
  obtain ⟨A', n', c', xs, e, hR, hm⟩ := read_gates Try.underlying38 Try.underlying34 (by kernel_rfl) ⟨rfl, rfl⟩ ⟨rfl, rfl⟩ ⟨rfl, rfl⟩ Try.underlying3 (by kernel_rfl) (v := .slice A n c) (by simpa [Value.cells] using hf)
  cases e
  exact ⟨_, _, _, xs, rfl, hR, hm⟩
theorem open_cell_arg (hv : Value.okWide Try.prog w r b0 34 v) (h : DataW.Trod enc Try.prog w base spare held 34 v d p) :
    ∃ c : Gt, v = .agg #[.int .i64 c.op, .int .i64 c.a, .int .i64 c.b] := by
  obtain ⟨v0, v1, v2, y0, y1, y2, n, rfl, _, _, h0, h1, h2⟩ := open_agg3 Try.underlying34 (by kernel_rfl) (by kernel_rfl) hv h
  obtain ⟨z0, e0, _⟩ := DataW.trod_int Try.underlying3 h0
  obtain ⟨z1, e1, _⟩ := DataW.trod_int Try.underlying3 h1
  obtain ⟨z2, e2, _⟩ := DataW.trod_int Try.underlying3 h2
  injection e0 with e0
  injection e1 with e1
  injection e2 with e2
  subst e0 e1 e2
  exact ⟨⟨z0, z1, z2⟩, rfl⟩
theorem open_arr3_arg (hv : Value.okWide Try.prog w r b0 39 v) (h : DataW.Trod enc Try.prog w base spare held 39 v d p) :
    ∃ a b e : Int, v = .agg #[.int .i64 a, .int .i64 b, .int .i64 e] := by
  obtain ⟨cs, rfl, hsz⟩ := okWide_array' Try.underlying39 hv
  have h3 : Try.prog.cellsOf 39 = 3 := by kernel_rfl
  rw [h3] at hsz
  obtain ⟨c0, c1, c2, rfl⟩ := array3 hsz
  obtain ⟨fuel, hf⟩ := h
  obtain ⟨y0, y1, y2, n, _, t0, t1, t2⟩ := trod_array3 Try.underlying39 (by kernel_rfl) (by simpa [Value.cells] using hf)
  obtain ⟨z0, e0, _⟩ := DataW.trod_int Try.underlying3 t0
  obtain ⟨z1, e1, _⟩ := DataW.trod_int Try.underlying3 t1
  obtain ⟨z2, e2, _⟩ := DataW.trod_int Try.underlying3 t2
  injection e0 with e0
  injection e1 with e1
  injection e2 with e2
  subst e0 e1 e2
  exact ⟨z0, z1, z2, rfl⟩
end
end Go.Proofs.Ytoldjjgogdbalaa
