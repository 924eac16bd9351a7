/-
 A part.
-/
import Derived.Test.YtiemhbogbaamlaaRows
import Derived.Test.YtiemhbogbaamlaaYE35
import Derived.Test.YtiemhbogbaamlaaYE23
import Derived.Test.YtiemhbogbaamlaaYE2
namespace Go.Proofs.Ytiemhbogbaamlaa
open Go.RowKit Go.ChangeShapes Go.WideShapes Go.Deep Go.Joins
set_option linter.unusedSimpArgs false
set_option linter.unusedVariables false
theorem Try.own' : ownKnob Try.prog.godebug = none := by kernel_rfl
theorem Try.laidOut' : laidOutB Try.prog = true := by kernel_rfl
section
variable {H : Type} {enc : TypeId × Value → H} {P : Program} {w : World} {base : Nat} {spare : Nat → Bool} {held : Bool}
theorem read_pts {t e e1 : TypeId} {f0 f1 : Field} {fuel : Nat} {v : Value} {x : DataW H × List MemPlace} (ht : P.underlying t = some (.slice e)) (he : P.underlying e = some (.struct #[f0, f1])) (hC : P.cellsOf e = 2)
 (h0 : f0.type = e1 ∧ f0.offset = 0) (h1 : f1.type = e1 ∧ f1.offset = 1) (hi : P.underlying e1 = some (.int .i64)) (hc : P.cellsOf e1 = 1)
 (h : DataW.trod enc P w base spare held fuel t [v] = some x) : ∃ A n c l, v = .slice A n c ∧ Rd w w.heap.size 2 A n (hoodCells l) ∧ n ≤ maxLen := by
 rcases open_slice ht h with ⟨hcs, _⟩ | ⟨a, len, cap, m, n, D, Pl, hcs, _, hl, hm, hmm, _, hx⟩
 ·injection hcs with hcs
  exact ⟨none, 0, 0, [], hcs, Rd.empty none, by unfold maxLen; omega⟩
 ·injection hcs with hcs
  have hln : len ≤ m := by rw [hmm]; split <;> omega
  have hV : ∀ i, i < m → ∃ g : Pt, w.cell? (a.add (i * 2)) = some (.int .i64 g.x) ∧ w.cell? (a.add (i * 2 + 1)) = some (.int .i64 g.y) := fun i hi' => by
   obtain ⟨cs', hcells, ht'⟩ := hx i hi'
   rw [hC] at hcells
   obtain ⟨_, hlen, hat⟩ := World.cells?_some hcells
   obtain ⟨y0, y1, n', _, _, t0, t1⟩ := trod_struct2 he ht'
   match cs', hlen with
   | [c0, c1], _ =>
    rw [h0.1, h0.2, hc] at t0
    rw [h1.1, h1.2, hc] at t1
    simp only [List.drop_zero, List.drop_succ_cons, List.take_succ_cons, List.take_zero] at t0 t1
    obtain ⟨z0, e0, _⟩ := DataW.trod_int hi t0
    obtain ⟨z1, e1, _⟩ := DataW.trod_int hi t1
    injection e0 with e0
    injection e1 with e1
    have q0 := hat 0 (by omega)
    have q1 := hat 1 (by omega)
    rw [add_add'] at q0 q1
    refine ⟨⟨z0, z1⟩, ?_, ?_⟩
    ·simpa [e0] using q0
    ·simpa [e1] using q1
  obtain ⟨G, hG⟩ := choose_lt (α := Pt) (p := fun i g => w.cell? (a.add (i * 2)) = some (.int .i64 g.x) ∧ w.cell? (a.add (i * 2 + 1)) = some (.int .i64 g.y)) hV
  refine ⟨some a, len, cap, (List.range len).map G, hcs, rd_of_cells (by rw [hoodCells, flat2_length _ (fun _ => rfl)]; simp) (fun j u hu => ?_) (by omega), by omega⟩
  have hj : j < len * 2 := by
   have := (List.getElem?_eq_some_iff.1 hu).1
   rw [hoodCells, flat2_length _ (fun _ => rfl)] at this; simpa using this
  have hk : j / 2 < len := by omega
  obtain ⟨p0, p1⟩ := flat2_get ptCells (fun _ => rfl) ((List.range len).map G) (j / 2) (by simpa using hk)
  have hg : ((List.range len).map G).getD (j / 2) default = G (j / 2) := by
   simp [List.getD_eq_getElem?_getD, List.getElem?_map, List.getElem?_range hk]
  rw [hg] at p0 p1
  obtain ⟨r0, r1⟩ := hG (j / 2) (by omega)
  have hj2 : j = j / 2 * 2 ∨ j = j / 2 * 2 + 1 := by omega
  rcases hj2 with e | e
  ·rw [← e] at p0 r0; rw [r0, ← hu]; exact p0.symm
  ·rw [← e] at p1 r1; rw [r1, ← hu]; exact p1.symm
theorem read_nodes {t e e1 e2 : TypeId} {f0 f1 : Field} {fuel : Nat} {v : Value} {x : DataW H × List MemPlace} (ht : P.underlying t = some (.slice e)) (he : P.underlying e = some (.struct #[f0, f1])) (hC : P.cellsOf e = 2)
 (h0 : f0.type = e1 ∧ f0.offset = 0) (h1 : f1.type = e2 ∧ f1.offset = 1) (hi : P.underlying e1 = some (.int .i64)) (hc : P.cellsOf e1 = 1) (hs : P.underlying e2 = some (.slice e1)) (hcs : P.cellsOf e2 = 1)
 (h : DataW.trod enc P w base spare held fuel t [v] = some x) : ∃ A n c ns sl, v = .slice A n c ∧ Rd w w.heap.size 2 A n (nodesCells ns sl) ∧ n ≤ maxLen ∧ sl.length = ns.length ∧
  ∀ i, i < ns.length → Rd w w.heap.size 1 (sl.getD i default).at_ (sl.getD i default).len (ints (ns.getD i default).next) ∧ (sl.getD i default).len ≤ maxLen := by
 rcases open_slice ht h with ⟨hcs', _⟩ | ⟨a, len, cap, m, n, D, Pl, hcs', _, hl, hm, hmm, _, hx⟩
 ·injection hcs' with hcs'
  exact ⟨none, 0, 0, [], [], hcs', Rd.empty none, by unfold maxLen; omega, rfl, fun i hi => absurd hi (Nat.not_lt_zero _)⟩
 ·injection hcs' with hcs'
  have hln : len ≤ m := by rw [hmm]; split <;> omega
  have hV : ∀ i, i < m → ∃ g : Nd × Sl, (w.cell? (a.add (i * 2)) = some (.int .i64 g.1.level) ∧ w.cell? (a.add (i * 2 + 1)) = some (.slice g.2.at_ g.2.len g.2.cap)) ∧ Rd w w.heap.size 1 g.2.at_ g.2.len (ints g.1.next) ∧ g.2.len ≤ maxLen := fun i hi' => by
   obtain ⟨cs', hcells, ht'⟩ := hx i hi'
   rw [hC] at hcells
   obtain ⟨_, hlen, hat⟩ := World.cells?_some hcells
   obtain ⟨y0, y1, n', _, _, t0, t1⟩ := trod_struct2 he ht'
   match cs', hlen with
   | [c0, c1], _ =>
    rw [h0.1, h0.2, hc] at t0
    rw [h1.1, h1.2, hcs] at t1
    simp only [List.drop_zero, List.drop_succ_cons, List.take_succ_cons, List.take_zero] at t0 t1
    obtain ⟨z0, e0, _⟩ := DataW.trod_int hi t0
    obtain ⟨NA, nn, nc, zs, hv, hR, hn, _⟩ := read_ints hs hi hc t1
    injection e0 with e0
    have q0 := hat 0 (by omega)
    have q1 := hat 1 (by omega)
    rw [add_add'] at q0 q1
    refine ⟨⟨⟨z0, zs⟩, ⟨NA, nn, nc⟩⟩, ⟨?_, ?_⟩, hR, hn⟩
    ·simpa [e0] using q0
    ·simpa [hv] using q1
  obtain ⟨G, hG⟩ := choose_lt (α := Nd × Sl) (p := fun i g => (w.cell? (a.add (i * 2)) = some (.int .i64 g.1.level) ∧ w.cell? (a.add (i * 2 + 1)) = some (.slice g.2.at_ g.2.len g.2.cap)) ∧ Rd w w.heap.size 1 g.2.at_ g.2.len (ints g.1.next) ∧ g.2.len ≤ maxLen) hV
  have hz : ((List.range len).map fun i => (G i).1).zip ((List.range len).map fun i => (G i).2) = (List.range len).map G := by
   rw [List.zip_map', ]
  refine ⟨some a, len, cap, (List.range len).map fun i => (G i).1, (List.range len).map fun i => (G i).2, hcs', rd_of_cells (by rw [nodesCells, flat2_length _ (fun _ => rfl), hz]; simp) (fun j u hu => ?_) (by omega), by omega, by simp, fun i hi => ?_⟩
  ·rw [nodesCells, hz] at hu
   have hj : j < len * 2 := by
    have := (List.getElem?_eq_some_iff.1 hu).1
    rw [flat2_length _ (fun _ => rfl)] at this; simpa using this
   have hk : j / 2 < len := by omega
   obtain ⟨p0, p1⟩ := flat2_get ndCells (fun _ => rfl) ((List.range len).map G) (j / 2) (by simpa using hk)
   have hg : ((List.range len).map G).getD (j / 2) default = G (j / 2) := by
    simp [List.getD_eq_getElem?_getD, List.getElem?_map, List.getElem?_range hk]
   rw [hg] at p0 p1
   obtain ⟨⟨r0, r1⟩, _⟩ := hG (j / 2) (by omega)
   have hj2 : j = j / 2 * 2 ∨ j = j / 2 * 2 + 1 := by omega
   rcases hj2 with e | e
   ·rw [← e] at p0 r0; rw [r0, ← hu]; exact p0.symm
   ·rw [← e] at p1 r1; rw [r1, ← hu]; exact p1.symm
  ·have hi' : i < len := by simpa using hi
   have e1 : ((List.range len).map fun i => (G i).1).getD i default = (G i).1 := by simp [List.getD_eq_getElem?_getD, List.getElem?_map, List.getElem?_range hi']
   have e2 : ((List.range len).map fun i => (G i).2).getD i default = (G i).2 := by simp [List.getD_eq_getElem?_getD, List.getElem?_map, List.getElem?_range hi']
   rw [e1, e2]
   exact (hG i (by omega)).2
end
section
variable {H : Type} {enc : TypeId × Value → H} {w : World} {base b0 : Nat} {spare : Nat → Bool} {held : Bool} {r : Reach} {v : Value} {d : DataW H} {p : List MemPlace}
set_option maxRecDepth 100000 in
theorem open_tree (hv : Value.okWide Try.prog w r b0 25 v) (h : DataW.Trod enc Try.prog w base spare held 25 v d p) :
 ∃ t HA hn hc NA nn nc sl, v = .agg #[.int .i64 (Tre.states t), .slice HA hn hc, .slice NA nn nc] ∧ TAt w t HA NA hn nn sl := by
 obtain ⟨v0, v1, v2, y0, y1, y2, n, rfl, _, _, h0, h1, h2⟩ := open_agg3 Try.underlying25 (by kernel_rfl) (by kernel_rfl) hv h
 obtain ⟨z, e0, _⟩ := DataW.trod_int Try.underlying3 h0
 injection e0 with e0
 obtain ⟨HA, hn, hc, hs, rfl, hH, hh⟩ := read_pts Try.underlying22 Try.underlying73 (by kernel_rfl) ⟨rfl, rfl⟩ ⟨rfl, rfl⟩ Try.underlying3 (by kernel_rfl) h1
 obtain ⟨NA, nn, nc, ns, sl, rfl, hN, hm, hsl, hnx⟩ := read_nodes Try.underlying23 Try.underlying64 (by kernel_rfl) ⟨rfl, rfl⟩ ⟨rfl, rfl⟩ Try.underlying3 (by kernel_rfl) Try.underlying35 (by kernel_rfl) h2
 subst e0
 exact ⟨⟨z, hs, ns⟩, HA, hn, hc, NA, nn, nc, sl, rfl, ⟨hH, hN, hsl, hnx, hh, hm⟩⟩
end
section
variable {H : Type} {enc : TypeId × Value → H} {P : Program} {w : World} {base : Nat} {spare : Nat → Bool} {held : Bool}
end
section
variable {H : Type} {enc : TypeId × Value → H} {w : World} {base b0 : Nat} {spare : Nat → Bool} {held : Bool} {r : Reach} {v : Value} {d : DataW H} {p : List MemPlace}
set_option maxRecDepth 100000 in
theorem open_grid (hv : Value.okWide Try.prog w r b0 54 v) (h : DataW.Trod enc Try.prog w base spare held 54 v d p) :
 ∃ g A n c, v = .agg #[.int .i64 g.w, .int .i64 g.h, .int .i64 g.edge, .slice A n c] ∧ GAt w g A n := by
 obtain ⟨v0, v1, v2, v3, y0, y1, y2, y3, n, rfl, _, _, h0, h1, h2, h3⟩ := open_agg4 Try.underlying54 (by kernel_rfl) (by kernel_rfl) hv h
 obtain ⟨z0, e0, _⟩ := DataW.trod_int Try.underlying3 h0
 obtain ⟨z1, e1, _⟩ := DataW.trod_int Try.underlying3 h1
 obtain ⟨z2, e2, _⟩ := DataW.trod_int Try.underlying3 h2
 injection e0 with e0
 injection e1 with e1
 injection e2 with e2
 obtain ⟨OA, on, oc, os, rfl, hO, ho, _⟩ := read_ints Try.underlying35 Try.underlying3 (by kernel_rfl) h3
 subst e0 e1 e2
 exact ⟨⟨z0, z1, z2, os⟩, OA, on, oc, rfl, ⟨hO, ho⟩⟩
end
end Go.Proofs.Ytiemhbogbaamlaa

