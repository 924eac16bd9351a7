/-
  Bit planes, grids, integers and arrays of two integers that came in as arguments: the value written out, the memory.
-/
import Derived.Test.YtfknooffjhncgaaRows
import Derived.Test.YtfknooffjhncgaaOpen
import Derived.Test.YtfknooffjhncgaaPSame
import Derived.Laws.IdiomArrays
namespace Go.Proofs.Ytfknooffjhncgaa
open Go.RowKit Go.ChangeShapes Go.WideShapes Go.Deep Go.Joins
set_option linter.unusedSimpArgs false
set_option linter.unusedVariables false

theorem Try.own' : ownKnob Try.prog.godebug = none := by kernel_rfl
theorem Try.laidOut' : laidOutB Try.prog = true := by kernel_rfl

theorem okWide_array' {P : Program} {w : World} {r : Reach} {base : Nat} {t e : TypeId} {n : Nat} {v : Value} (ht : P.underlying t = some (.array n e)) (h : Value.okWide P w r base t v) : ∃ cs, v = .agg cs ∧ cs.size = P.cellsOf t := by
  simp only [Value.okWide, ht] at h
  obtain ⟨cs, h1, h2, _⟩ := h
  exact ⟨cs, h1, h2⟩
theorem array2' {cs : Array Value} (h : cs.size = 2) : ∃ a b, cs = #[a, b] := by
  obtain ⟨l⟩ := cs
  match l, h with
  | [a, b], _ => exact ⟨a, b, rfl⟩

section
variable {H : Type} {enc : TypeId × Value → H} {P : Program} {w : World} {base : Nat} {spare : Nat → Bool} {held : Bool}
theorem trod_pair {t e : TypeId} {fuel : Nat} {c0 c1 : Value} {x : DataW H × List MemPlace} (ht : P.underlying t = some (.array 2 e)) (hce : P.cellsOf e = 1)
    (h : DataW.trod enc P w base spare held fuel t [c0, c1] = some x) :
    ∃ y0 y1 n, DataW.trod enc P w base spare held n e [c0] = some y0 ∧ DataW.trod enc P w base spare held n e [c1] = some y1 := by
  cases fuel with
  | zero => simp [DataW.trod] at h
  | succ n =>
    unfold DataW.trod at h
    rw [ht] at h
    have r2 : List.range 2 = [0, 1] := rfl
    simp [r2, hce] at h
    obtain ⟨_, h⟩ := h
    cases h0 : DataW.trod enc P w base spare held n e [c0] with
    | none => simp [h0] at h
    | some y0 =>
      cases h1 : DataW.trod enc P w base spare held n e [c1] with
      | none => simp [h0, h1] at h
      | some y1 => exact ⟨y0, y1, n, h0, h1⟩
/-- The capacity of a slice that came in. -/
theorem slice_cap {t e : TypeId} {fuel : Nat} {A : Option Addr} {n c : Nat} {x : DataW H × List MemPlace} (ht : P.underlying t = some (.slice e))
    (h : DataW.trod enc P w base spare held fuel t [.slice A n c] = some x) (hn : n ≤ maxLen) : n ≤ c ∧ c ≤ maxLen := by
  rcases open_slice ht h with ⟨hcs, _⟩ | ⟨a, len, cap, m, k, D, Pl, hcs, _, hl, hmx, _⟩
  · injection hcs with hcs
    injection hcs with h1 h2 h3
    subst h2 h3
    exact ⟨Nat.le_refl _, hn⟩
  · injection hcs with hcs
    injection hcs with h1 h2 h3
    subst h2 h3
    exact ⟨hl, hmx⟩
/-- A slice of slices of words. -/
theorem read_rows {t e e1 : TypeId} {fuel : Nat} {v : Value} {x : DataW H × List MemPlace} (ht : P.underlying t = some (.slice e)) (he : P.underlying e = some (.slice e1)) (hC : P.cellsOf e = 1)
    (hi : P.underlying e1 = some (.int .u64)) (hc : P.cellsOf e1 = 1)
    (h : DataW.trod enc P w base spare held fuel t [v] = some x) : ∃ (A : Option Addr) (n c : Nat) (ws : List (List (BitVec 64))) (sl : List Sl), v = .slice A n c ∧ Rd w w.heap.size 1 A n (slCells sl) ∧ n ≤ maxLen ∧ sl.length = ws.length ∧
      ∀ i, i < ws.length → (Rd w w.heap.size 1 (sl.getD i default).at_ (sl.getD i default).len (w64s (ws.getD i [])) ∧ (sl.getD i default).len ≤ maxLen) ∧ (sl.getD i default).len ≤ (sl.getD i default).cap ∧ (sl.getD i default).cap ≤ maxLen := by
  rcases open_slice ht h with ⟨hcs', _⟩ | ⟨a, len, cap, m, n, D, Pl, hcs', _, hl, hm, hmm, _, hx⟩
  · injection hcs' with hcs'
    exact ⟨none, 0, 0, [], [], hcs', Rd.empty none, by unfold maxLen; omega, rfl, fun i hi => absurd hi (Nat.not_lt_zero _)⟩
  · injection hcs' with hcs'
    have hln : len ≤ m := by rw [hmm]; split <;> omega
    have hV : ∀ i, i < m → ∃ g : List (BitVec 64) × Sl, w.cell? (a.add (i * 1)) = some (.slice g.2.at_ g.2.len g.2.cap) ∧ (Rd w w.heap.size 1 g.2.at_ g.2.len (w64s g.1) ∧ g.2.len ≤ maxLen) ∧ g.2.len ≤ g.2.cap ∧ g.2.cap ≤ maxLen := fun i hi' => by
      obtain ⟨cs', hcells, ht'⟩ := hx i hi'
      rw [hC] at hcells
      obtain ⟨_, hlen, hat⟩ := World.cells?_some hcells
      match cs', hlen with
      | [c0], _ =>
        obtain ⟨NA, nn, nc, zs, hv, hR, hn⟩ := read_words he hi hc ht'
        have q0 := hat 0 (by omega)
        rw [add_add'] at q0
        subst hv
        obtain ⟨k1, k2⟩ := slice_cap he ht' hn
        exact ⟨⟨zs, ⟨NA, nn, nc⟩⟩, by simpa using q0, ⟨hR, hn⟩, k1, k2⟩
    obtain ⟨G, hG⟩ := choose_lt (α := List (BitVec 64) × Sl) (p := fun i g => w.cell? (a.add (i * 1)) = some (.slice g.2.at_ g.2.len g.2.cap) ∧ (Rd w w.heap.size 1 g.2.at_ g.2.len (w64s g.1) ∧ g.2.len ≤ maxLen) ∧ g.2.len ≤ g.2.cap ∧ g.2.cap ≤ maxLen) hV
    refine ⟨some a, len, cap, (List.range len).map fun i => (G i).1, (List.range len).map fun i => (G i).2, hcs', rd_of_cells (by rw [slCells_length]; simp) (fun j u hu => ?_) (by omega), by omega, by simp, fun i hi => ?_⟩
    · have hj : j < len := by
        have := (List.getElem?_eq_some_iff.1 hu).1
        rw [slCells_length] at this; simpa using this
      rw [slCells_get _ _ (by simpa using hj)] at hu
      have hg : ((List.range len).map fun i => (G i).2).getD j default = (G j).2 := by simp [List.getD_eq_getElem?_getD, List.getElem?_map, List.getElem?_range hj]
      rw [hg] at hu
      have := (hG j (by omega)).1
      rw [Nat.mul_one] at this
      rw [this, ← hu]
    · have hi' : i < len := by simpa using hi
      have e1 : ((List.range len).map fun i => (G i).1).getD i [] = (G i).1 := by simp [List.getD_eq_getElem?_getD, List.getElem?_map, List.getElem?_range hi']
      have e2 : ((List.range len).map fun i => (G i).2).getD i default = (G i).2 := by simp [List.getD_eq_getElem?_getD, List.getElem?_map, List.getElem?_range hi']
      rw [e1, e2]
      exact (hG i (by omega)).2
end

section
variable {H : Type} {enc : TypeId × Value → H} {w : World} {base b0 : Nat} {spare : Nat → Bool} {held : Bool} {r : Reach} {v : Value} {d : DataW H} {p : List MemPlace}
theorem open_planes (hv : Value.okWide Try.prog w r b0 28 v) (h : DataW.Trod enc Try.prog w base spare held 28 v d p) :
    ∃ q A n c sl, v = .agg #[.int .i64 (Pln.w q), .int .i64 q.h, .int .i64 q.edge, .slice A n c] ∧ PAt w q A n sl := by
  obtain ⟨v0, v1, v2, v3, y0, y1, y2, y3, n, rfl, _, _, h0, h1, h2, h3⟩ := open_agg4 Try.underlying28 (by kernel_rfl) (by kernel_rfl) hv h
  obtain ⟨z0, e0, _⟩ := DataW.trod_int Try.underlying3 h0
  obtain ⟨z1, e1, _⟩ := DataW.trod_int Try.underlying3 h1
  obtain ⟨z2, e2, _⟩ := DataW.trod_int Try.underlying3 h2
  injection e0 with e0
  injection e1 with e1
  injection e2 with e2
  obtain ⟨OA, on, oc, ws, sl, rfl, hO, ho, hl, hnx⟩ := read_rows Try.underlying26 Try.underlying51 (by kernel_rfl) Try.underlying52 (by kernel_rfl) h3
  subst e0 e1 e2
  exact ⟨⟨z0, z1, z2, ws⟩, OA, on, oc, sl, rfl, ⟨hO, hl, fun i hi => (hnx i hi).1, ho, fun i hi => (hnx i hi).2⟩⟩
theorem open_grid (hv : Value.okWide Try.prog w r b0 24 v) (h : DataW.Trod enc Try.prog w base spare held 24 v d p) :
    ∃ g A n c, v = .agg #[.int .i64 g.w, .int .i64 g.h, .int .i64 g.edge, .slice A n c] ∧ GAt w g A n := by
  obtain ⟨v0, v1, v2, v3, y0, y1, y2, y3, n, rfl, _, _, h0, h1, h2, h3⟩ := open_agg4 Try.underlying24 (by kernel_rfl) (by kernel_rfl) hv h
  obtain ⟨z0, e0, _⟩ := DataW.trod_int Try.underlying3 h0
  obtain ⟨z1, e1, _⟩ := DataW.trod_int Try.underlying3 h1
  obtain ⟨z2, e2, _⟩ := DataW.trod_int Try.underlying3 h2
  injection e0 with e0
  injection e1 with e1
  injection e2 with e2
  obtain ⟨OA, on, oc, os, rfl, hO, ho, _⟩ := read_ints Try.underlying22 Try.underlying3 (by kernel_rfl) h3
  subst e0 e1 e2
  exact ⟨⟨z0, z1, z2, os⟩, OA, on, oc, rfl, ⟨hO, ho⟩⟩
theorem open_int_arg (hv : Value.okWide Try.prog w r b0 3 v) (h : DataW.Trod enc Try.prog w base spare held 3 v d p) :
    ∃ z : Int, v = .int .i64 z ∧ -9223372036854775808 ≤ z ∧ z ≤ 9223372036854775807 := by
  obtain ⟨z, rfl⟩ := okWide_int Try.underlying3 hv
  obtain ⟨fuel, hf⟩ := h
  obtain ⟨z', e, hw⟩ := DataW.trod_int Try.underlying3 hf
  simp [Value.cells] at e
  subst e
  refine ⟨z, rfl, ?_⟩
  first
  | simpa [Lit.wf, IntKind.min, IntKind.max, IntKind.signed, IntKind.bits] using hw
  | simpa [Lit.wf, IntKind.min, IntKind.max, IntKind.signed, IntKind.bits] using hw.1
  | simpa [Lit.wf, IntKind.min, IntKind.max, IntKind.signed, IntKind.bits] using hw.2
theorem open_arr2_arg (hv : Value.okWide Try.prog w r b0 46 v) (h : DataW.Trod enc Try.prog w base spare held 46 v d p) :
    ∃ a b : Int, v = .agg #[.int .i64 a, .int .i64 b] := by
  obtain ⟨cs, rfl, hsz⟩ := okWide_array' Try.underlying46 hv
  have h3 : Try.prog.cellsOf 46 = 2 := by kernel_rfl
  rw [h3] at hsz
  obtain ⟨c0, c1, rfl⟩ := array2' hsz
  obtain ⟨fuel, hf⟩ := h
  obtain ⟨y0, y1, n, t0, t1⟩ := trod_pair Try.underlying46 (by kernel_rfl) (by simpa [Value.cells] using hf)
  obtain ⟨z0, e0, _⟩ := DataW.trod_int Try.underlying3 t0
  obtain ⟨z1, e1, _⟩ := DataW.trod_int Try.underlying3 t1
  injection e0 with e0
  injection e1 with e1
  subst e0 e1
  exact ⟨z0, z1, rfl⟩
theorem open_arr2b_arg (hv : Value.okWide Try.prog w r b0 44 v) (h : DataW.Trod enc Try.prog w base spare held 44 v d p) :
    ∃ a b : Int, v = .agg #[.int .i8 a, .int .i8 b] ∧ (-128 ≤ a ∧ a ≤ 127) ∧ (-128 ≤ b ∧ b ≤ 127) := by
  obtain ⟨cs, rfl, hsz⟩ := okWide_array' Try.underlying44 hv
  have h3 : Try.prog.cellsOf 44 = 2 := by kernel_rfl
  rw [h3] at hsz
  obtain ⟨c0, c1, rfl⟩ := array2' hsz
  obtain ⟨fuel, hf⟩ := h
  obtain ⟨y0, y1, n, t0, t1⟩ := trod_pair Try.underlying44 (by kernel_rfl) (by simpa [Value.cells] using hf)
  obtain ⟨z0, e0, w0⟩ := DataW.trod_int Try.underlying43 t0
  obtain ⟨z1, e1, w1⟩ := DataW.trod_int Try.underlying43 t1
  injection e0 with e0
  injection e1 with e1
  subst e0 e1
  refine ⟨z0, z1, rfl, ?_, ?_⟩
  · first
    | simpa [Lit.wf, IntKind.min, IntKind.max, IntKind.signed, IntKind.bits] using w0
    | simpa [Lit.wf, IntKind.min, IntKind.max, IntKind.signed, IntKind.bits] using w0.1
    | simpa [Lit.wf, IntKind.min, IntKind.max, IntKind.signed, IntKind.bits] using w0.2
  · first
    | simpa [Lit.wf, IntKind.min, IntKind.max, IntKind.signed, IntKind.bits] using w1
    | simpa [Lit.wf, IntKind.min, IntKind.max, IntKind.signed, IntKind.bits] using w1.1
    | simpa [Lit.wf, IntKind.min, IntKind.max, IntKind.signed, IntKind.bits] using w1.2
theorem open_arr2u_arg (hv : Value.okWide Try.prog w r b0 47 v) (h : DataW.Trod enc Try.prog w base spare held 47 v d p) :
    ∃ a b : Nat, v = .agg #[.int .u8 (a : Int), .int .u8 (b : Int)] ∧ a ≤ 255 ∧ b ≤ 255 := by
  obtain ⟨cs, rfl, hsz⟩ := okWide_array' Try.underlying47 hv
  have h3 : Try.prog.cellsOf 47 = 2 := by kernel_rfl
  rw [h3] at hsz
  obtain ⟨c0, c1, rfl⟩ := array2' hsz
  obtain ⟨fuel, hf⟩ := h
  obtain ⟨y0, y1, n, t0, t1⟩ := trod_pair Try.underlying47 (by kernel_rfl) (by simpa [Value.cells] using hf)
  obtain ⟨z0, e0, w0⟩ := DataW.trod_int Try.underlying5 t0
  obtain ⟨z1, e1, w1⟩ := DataW.trod_int Try.underlying5 t1
  injection e0 with e0
  injection e1 with e1
  subst e0 e1
  have b0 : 0 ≤ z0 ∧ z0 ≤ 255 := by
    first
    | simpa [Lit.wf, IntKind.min, IntKind.max, IntKind.signed, IntKind.bits] using w0
    | simpa [Lit.wf, IntKind.min, IntKind.max, IntKind.signed, IntKind.bits] using w0.1
    | simpa [Lit.wf, IntKind.min, IntKind.max, IntKind.signed, IntKind.bits] using w0.2
  have b1 : 0 ≤ z1 ∧ z1 ≤ 255 := by
    first
    | simpa [Lit.wf, IntKind.min, IntKind.max, IntKind.signed, IntKind.bits] using w1
    | simpa [Lit.wf, IntKind.min, IntKind.max, IntKind.signed, IntKind.bits] using w1.1
    | simpa [Lit.wf, IntKind.min, IntKind.max, IntKind.signed, IntKind.bits] using w1.2
  refine ⟨z0.toNat, z1.toNat, ?_, by omega, by omega⟩
  rw [Int.toNat_of_nonneg b0.1, Int.toNat_of_nonneg b1.1]
end
end Go.Proofs.Ytfknooffjhncgaa
