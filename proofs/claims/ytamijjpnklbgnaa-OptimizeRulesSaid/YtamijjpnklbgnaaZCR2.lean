/-
  Valid rule trees and their value, plain. Nothing of the program stands here.
-/
import Derived.Test.YtamijjpnklbgnaaZCR1
import Derived.Test.YtamijjpnklbgnaaRows
import Derived.Deep.QuietTactic
namespace Go.Proofs.Ytamijjpnklbgnaa
open Go.RowKit
set_option linter.unusedSimpArgs false
set_option linter.unusedVariables false

def radius : Int := 2
def ptOk (p : Pt) : Bool := decide ((-radius ≤ p.x ∧ p.x ≤ radius) ∧ (-radius ≤ p.y ∧ p.y ≤ radius))
def beforeP (a b : Pt) : Bool := decide (a.y < b.y ∨ a.y = b.y ∧ a.x < b.x)
def hoodPts (l : List Pt) : Bool := decide (∀ k, k < l.length → ptOk (l.getD k default) = true ∧ (k = 0 ∨ beforeP (l.getD (k - 1) default) (l.getD k default) = true))
def hoodOk (l : List Pt) : Bool := decide (1 ≤ l.length ∧ l.length ≤ 25) && hoodPts l
def linkOk (t : Tre) (i : Nat) (x : Nd) (k : Int) : Bool := decide (0 ≤ k ∧ (x.level = 1 → k < t.states) ∧ (1 < x.level → k < i ∧ (t.nodes.getD k.toNat default).level = x.level - 1))
def nodeOk (t : Tre) (i : Nat) : Bool :=
  decide (1 ≤ (t.nodes.getD i default).level ∧ (t.nodes.getD i default).level ≤ t.hood.length ∧ ((t.nodes.getD i default).next.length : Int) = t.states) && (t.nodes.getD i default).next.all (linkOk t i (t.nodes.getD i default))
def nodesOk (t : Tre) : Bool := decide (∀ i, i < t.nodes.length → nodeOk t i = true)
def headOk (t : Tre) : Bool := decide ((2 ≤ t.states ∧ t.states ≤ 8) ∧ 1 ≤ t.nodes.length ∧ t.nodes.length ≤ 4096 ∧ (t.nodes.getD (t.nodes.length - 1) default).level = t.hood.length)
def rightT (t : Tre) : Bool := hoodOk t.hood && (headOk t && nodesOk t)

theorem rightT_parts {t : Tre} (h : rightT t = true) : hoodOk t.hood = true ∧ ((2 ≤ t.states ∧ t.states ≤ 8) ∧ 1 ≤ t.nodes.length ∧ t.nodes.length ≤ 4096 ∧ (t.nodes.getD (t.nodes.length - 1) default).level = t.hood.length) ∧ (∀ i, i < t.nodes.length → nodeOk t i = true) := by
  simpa [rightT, headOk, nodesOk] using h
theorem nodeOk_parts {t : Tre} {i : Nat} (h : nodeOk t i = true) : (1 ≤ (t.nodes.getD i default).level ∧ (t.nodes.getD i default).level ≤ t.hood.length ∧ ((t.nodes.getD i default).next.length : Int) = t.states) ∧
    ∀ s, s < (t.nodes.getD i default).next.length → linkOk t i (t.nodes.getD i default) ((t.nodes.getD i default).next.getD s 0) = true := by
  simp only [nodeOk, Bool.and_eq_true, decide_eq_true_eq] at h
  refine ⟨h.1, fun s hs => ?_⟩
  have h2 := h.2
  rw [List.all_eq_true] at h2
  have := h2 _ (List.getElem_mem hs)
  generalize (t.nodes.getD i default) = x at hs this ⊢
  rw [List.getD_eq_getElem?_getD, List.getElem?_eq_getElem hs]
  exact this

def stepT (t : Tre) (k s : Int) : Int := (t.nodes.getD k.toNat default).next.getD s.toNat 0
def walkT (t : Tre) (k : Int) (ins : List Int) : Int := ins.foldl (stepT t) k
def valueT (t : Tre) (ins : List Int) : Int := walkT t ((t.nodes.length : Int) - 1) ins
def stateIn (t : Tre) (s : Int) : Bool := decide (0 ≤ s ∧ s < t.states)
def evalErr (t : Tre) (ins : List Int) : Int := if rightT t = true then (if ins.length = t.hood.length then (if ins.all (stateIn t) = true then 0 else 10) else 2) else 11
def evalV (t : Tre) (ins : List Int) : Int := if evalErr t ins = 0 then valueT t ins else 0

theorem walkT_snoc (t : Tre) (k : Int) (l : List Int) (s : Int) : walkT t k (l ++ [s]) = stepT t (walkT t k l) s := by simp [walkT, List.foldl_append]
/-- Where the walk stands behind j states. -/
theorem walkT_at {t : Tre} (hr : rightT t = true) (ins : List Int) (hl : ins.length = t.hood.length) (hs : ∀ j, j < ins.length → 0 ≤ ins.getD j 0 ∧ ins.getD j 0 < t.states) (j : Nat) (hj : j ≤ ins.length) :
    (j < ins.length → 0 ≤ walkT t ((t.nodes.length : Int) - 1) (ins.take j) ∧ walkT t ((t.nodes.length : Int) - 1) (ins.take j) < t.nodes.length ∧ (t.nodes.getD (walkT t ((t.nodes.length : Int) - 1) (ins.take j)).toNat default).level = (t.hood.length : Int) - j) ∧
    (j = ins.length → 0 < j → 0 ≤ walkT t ((t.nodes.length : Int) - 1) (ins.take j) ∧ walkT t ((t.nodes.length : Int) - 1) (ins.take j) < t.states) := by
  obtain ⟨_, ⟨h1, h2, h3, h4⟩, hn⟩ := rightT_parts hr
  induction j with
  | zero =>
    refine ⟨fun _ => ?_, fun _ h => absurd h (by omega)⟩
    simp only [List.take_zero, walkT, List.foldl_nil]
    rw [show ((t.nodes.length : Int) - 1).toNat = t.nodes.length - 1 by omega, h4]
    omega
  | succ j ih =>
    have hjl : j < ins.length := by omega
    obtain ⟨i1, i2, i3⟩ := (ih (by omega)).1 hjl
    have hsj := hs j hjl
    rw [show ins.take (j + 1) = ins.take j ++ [ins.getD j 0] from by rw [List.take_succ_eq_append_getElem hjl, List.getD_eq_getElem?_getD, List.getElem?_eq_getElem hjl]; rfl, walkT_snoc]
    generalize walkT t ((t.nodes.length : Int) - 1) (ins.take j) = k at i1 i2 i3
    generalize ins.getD j 0 = s at hsj
    have hk : k.toNat < t.nodes.length := by omega
    obtain ⟨⟨n1, n2, n3⟩, n4⟩ := nodeOk_parts (hn _ hk)
    have hlk := n4 s.toNat (by omega)
    simp only [linkOk, decide_eq_true_eq] at hlk
    unfold stepT
    generalize (t.nodes.getD k.toNat default).next.getD s.toNat 0 = u at hlk
    obtain ⟨l1, l2, l3⟩ := hlk
    refine ⟨fun hlt => ?_, fun he _ => ?_⟩
    · have hlev : 1 < (t.nodes.getD k.toNat default).level := by omega
      obtain ⟨a1, a2⟩ := l3 hlev
      refine ⟨l1, by omega, ?_⟩
      rw [a2]; omega
    · exact ⟨l1, l2 (by omega)⟩
theorem stateIn_at {t : Tre} {ins : List Int} (h : ins.all (stateIn t) = true) {j : Nat} (hj : j < ins.length) : 0 ≤ ins.getD j 0 ∧ ins.getD j 0 < t.states := by
  rw [List.all_eq_true] at h
  have := h _ (List.getElem_mem hj)
  rw [List.getD_eq_getElem?_getD, List.getElem?_eq_getElem hj]
  simpa [stateIn] using this
end Go.Proofs.Ytamijjpnklbgnaa

/-
  Rule trees and lists of integers that came in as arguments: the value written out, the memory.
-/
namespace Go.Proofs.Ytamijjpnklbgnaa
open Go.RowKit Go.ChangeShapes Go.WideShapes Go.Deep Go.Joins
set_option linter.unusedSimpArgs false
set_option linter.unusedVariables false

theorem Try.own' : ownKnob Try.prog.godebug = none := by kernel_rfl
theorem Try.laidOut' : laidOutB Try.prog = true := by kernel_rfl

section
variable {H : Type} {enc : TypeId × Value → H} {P : Program} {w : World} {base : Nat} {spare : Nat → Bool} {held : Bool}
/-- A slice of points. -/
theorem read_pts {t e e1 : TypeId} {f0 f1 : Field} {fuel : Nat} {v : Value} {x : DataW H × List MemPlace} (ht : P.underlying t = some (.slice e)) (he : P.underlying e = some (.struct #[f0, f1])) (hC : P.cellsOf e = 2)
    (h0 : f0.type = e1 ∧ f0.offset = 0) (h1 : f1.type = e1 ∧ f1.offset = 1) (hi : P.underlying e1 = some (.int .i64)) (hc : P.cellsOf e1 = 1)
    (h : DataW.trod enc P w base spare held fuel t [v] = some x) : ∃ A n c l, v = .slice A n c ∧ Rd w w.heap.size 2 A n (hoodCells l) ∧ n ≤ maxLen := by
  rcases open_slice ht h with ⟨hcs, _⟩ | ⟨a, len, cap, m, n, D, Pl, hcs, _, hl, hm, hmm, _, hx⟩
  · injection hcs with hcs
    exact ⟨none, 0, 0, [], hcs, Rd.empty none, by unfold maxLen; omega⟩
  · injection hcs with hcs
    have hln : len ≤ m := by rw [hmm]; split <;> omega
    have hV : ∀ i, i < m → ∃ g : Pt, w.cell? (a.add (i * 2)) = some (.int .i64 g.x) ∧ w.cell? (a.add (i * 2 + 1)) = some (.int .i64 g.y) := fun i hi' => by
      obtain ⟨cs', hcells, ht'⟩ := hx i hi'
      rw [hC] at hcells
      obtain ⟨_, hlen, hat⟩ := World.cells?_some hcells
      obtain ⟨y0, y1, n', _, _, t0, t1⟩ := trod_struct2 he ht'
      match cs', hlen with
      | [c0, c1], _ =>
        rw [h0.1, h0.2, hc] at t0
        rw [h1.1, h1.2, hc] at t1
        simp only [List.drop_zero, List.drop_succ_cons, List.take_succ_cons, List.take_zero] at t0 t1
        obtain ⟨z0, e0, _⟩ := DataW.trod_int hi t0
        obtain ⟨z1, e1, _⟩ := DataW.trod_int hi t1
        injection e0 with e0
        injection e1 with e1
        have q0 := hat 0 (by omega)
        have q1 := hat 1 (by omega)
        rw [add_add'] at q0 q1
        refine ⟨⟨z0, z1⟩, ?_, ?_⟩
        · simpa [e0] using q0
        · simpa [e1] using q1
    obtain ⟨G, hG⟩ := choose_lt (α := Pt) (p := fun i g => w.cell? (a.add (i * 2)) = some (.int .i64 g.x) ∧ w.cell? (a.add (i * 2 + 1)) = some (.int .i64 g.y)) hV
    refine ⟨some a, len, cap, (List.range len).map G, hcs, rd_of_cells (by rw [hoodCells, flat2_length _ (fun _ => rfl)]; simp) (fun j u hu => ?_) (by omega), by omega⟩
    have hj : j < len * 2 := by
      have := (List.getElem?_eq_some_iff.1 hu).1
      rw [hoodCells, flat2_length _ (fun _ => rfl)] at this; simpa using this
    have hk : j / 2 < len := by omega
    obtain ⟨p0, p1⟩ := flat2_get ptCells (fun _ => rfl) ((List.range len).map G) (j / 2) (by simpa using hk)
    have hg : ((List.range len).map G).getD (j / 2) default = G (j / 2) := by
      simp [List.getD_eq_getElem?_getD, List.getElem?_map, List.getElem?_range hk]
    rw [hg] at p0 p1
    obtain ⟨r0, r1⟩ := hG (j / 2) (by omega)
    have hj2 : j = j / 2 * 2 ∨ j = j / 2 * 2 + 1 := by omega
    rcases hj2 with e | e
    · rw [← e] at p0 r0; rw [r0, ← hu]; exact p0.symm
    · rw [← e] at p1 r1; rw [r1, ← hu]; exact p1.symm
/-- A slice of nodes. -/
theorem read_nodes {t e e1 e2 : TypeId} {f0 f1 : Field} {fuel : Nat} {v : Value} {x : DataW H × List MemPlace} (ht : P.underlying t = some (.slice e)) (he : P.underlying e = some (.struct #[f0, f1])) (hC : P.cellsOf e = 2)
    (h0 : f0.type = e1 ∧ f0.offset = 0) (h1 : f1.type = e2 ∧ f1.offset = 1) (hi : P.underlying e1 = some (.int .i64)) (hc : P.cellsOf e1 = 1) (hs : P.underlying e2 = some (.slice e1)) (hcs : P.cellsOf e2 = 1)
    (h : DataW.trod enc P w base spare held fuel t [v] = some x) : ∃ A n c ns sl, v = .slice A n c ∧ Rd w w.heap.size 2 A n (nodesCells ns sl) ∧ n ≤ maxLen ∧ sl.length = ns.length ∧
      ∀ i, i < ns.length → Rd w w.heap.size 1 (sl.getD i default).at_ (sl.getD i default).len (ints (ns.getD i default).next) ∧ (sl.getD i default).len ≤ maxLen := by
  rcases open_slice ht h with ⟨hcs', _⟩ | ⟨a, len, cap, m, n, D, Pl, hcs', _, hl, hm, hmm, _, hx⟩
  · injection hcs' with hcs'
    exact ⟨none, 0, 0, [], [], hcs', Rd.empty none, by unfold maxLen; omega, rfl, fun i hi => absurd hi (Nat.not_lt_zero _)⟩
  · injection hcs' with hcs'
    have hln : len ≤ m := by rw [hmm]; split <;> omega
    have hV : ∀ i, i < m → ∃ g : Nd × Sl, (w.cell? (a.add (i * 2)) = some (.int .i64 g.1.level) ∧ w.cell? (a.add (i * 2 + 1)) = some (.slice g.2.at_ g.2.len g.2.cap)) ∧ Rd w w.heap.size 1 g.2.at_ g.2.len (ints g.1.next) ∧ g.2.len ≤ maxLen := fun i hi' => by
      obtain ⟨cs', hcells, ht'⟩ := hx i hi'
      rw [hC] at hcells
      obtain ⟨_, hlen, hat⟩ := World.cells?_some hcells
      obtain ⟨y0, y1, n', _, _, t0, t1⟩ := trod_struct2 he ht'
      match cs', hlen with
      | [c0, c1], _ =>
        rw [h0.1, h0.2, hc] at t0
        rw [h1.1, h1.2, hcs] at t1
        simp only [List.drop_zero, List.drop_succ_cons, List.take_succ_cons, List.take_zero] at t0 t1
        obtain ⟨z0, e0, _⟩ := DataW.trod_int hi t0
        obtain ⟨NA, nn, nc, zs, hv, hR, hn, _⟩ := read_ints hs hi hc t1
        injection e0 with e0
        have q0 := hat 0 (by omega)
        have q1 := hat 1 (by omega)
        rw [add_add'] at q0 q1
        refine ⟨⟨⟨z0, zs⟩, ⟨NA, nn, nc⟩⟩, ⟨?_, ?_⟩, hR, hn⟩
        · simpa [e0] using q0
        · simpa [hv] using q1
    obtain ⟨G, hG⟩ := choose_lt (α := Nd × Sl) (p := fun i g => (w.cell? (a.add (i * 2)) = some (.int .i64 g.1.level) ∧ w.cell? (a.add (i * 2 + 1)) = some (.slice g.2.at_ g.2.len g.2.cap)) ∧ Rd w w.heap.size 1 g.2.at_ g.2.len (ints g.1.next) ∧ g.2.len ≤ maxLen) hV
    have hz : ((List.range len).map fun i => (G i).1).zip ((List.range len).map fun i => (G i).2) = (List.range len).map G := by
      rw [List.zip_map', ]
    refine ⟨some a, len, cap, (List.range len).map fun i => (G i).1, (List.range len).map fun i => (G i).2, hcs', rd_of_cells (by rw [nodesCells, flat2_length _ (fun _ => rfl), hz]; simp) (fun j u hu => ?_) (by omega), by omega, by simp, fun i hi => ?_⟩
    · rw [nodesCells, hz] at hu
      have hj : j < len * 2 := by
        have := (List.getElem?_eq_some_iff.1 hu).1
        rw [flat2_length _ (fun _ => rfl)] at this; simpa using this
      have hk : j / 2 < len := by omega
      obtain ⟨p0, p1⟩ := flat2_get ndCells (fun _ => rfl) ((List.range len).map G) (j / 2) (by simpa using hk)
      have hg : ((List.range len).map G).getD (j / 2) default = G (j / 2) := by
        simp [List.getD_eq_getElem?_getD, List.getElem?_map, List.getElem?_range hk]
      rw [hg] at p0 p1
      obtain ⟨⟨r0, r1⟩, _⟩ := hG (j / 2) (by omega)
      have hj2 : j = j / 2 * 2 ∨ j = j / 2 * 2 + 1 := by omega
      rcases hj2 with e | e
      · rw [← e] at p0 r0; rw [r0, ← hu]; exact p0.symm
      · rw [← e] at p1 r1; rw [r1, ← hu]; exact p1.symm
    · have hi' : i < len := by simpa using hi
      have e1 : ((List.range len).map fun i => (G i).1).getD i default = (G i).1 := by simp [List.getD_eq_getElem?_getD, List.getElem?_map, List.getElem?_range hi']
      have e2 : ((List.range len).map fun i => (G i).2).getD i default = (G i).2 := by simp [List.getD_eq_getElem?_getD, List.getElem?_map, List.getElem?_range hi']
      rw [e1, e2]
      exact (hG i (by omega)).2
end

section
variable {H : Type} {enc : TypeId × Value → H} {w : World} {base b0 : Nat} {spare : Nat → Bool} {held : Bool} {r : Reach} {v : Value} {d : DataW H} {p : List MemPlace}
theorem open_tree (hv : Value.okWide Try.prog w r b0 40 v) (h : DataW.Trod enc Try.prog w base spare held 40 v d p) :
    ∃ t HA hn hc NA nn nc sl, v = .agg #[.int .i64 (Tre.states t), .slice HA hn hc, .slice NA nn nc] ∧ TAt w t HA NA hn nn sl := by
  obtain ⟨v0, v1, v2, y0, y1, y2, n, rfl, _, _, h0, h1, h2⟩ := open_agg3 Try.underlying40 (by kernel_rfl) (by kernel_rfl) hv h
  obtain ⟨z, e0, _⟩ := DataW.trod_int Try.underlying3 h0
  injection e0 with e0
  obtain ⟨HA, hn, hc, hs, rfl, hH, hh⟩ := read_pts Try.underlying37 Try.underlying95 (by kernel_rfl) ⟨rfl, rfl⟩ ⟨rfl, rfl⟩ Try.underlying3 (by kernel_rfl) h1
  obtain ⟨NA, nn, nc, ns, sl, rfl, hN, hm, hsl, hnx⟩ := read_nodes Try.underlying38 Try.underlying76 (by kernel_rfl) ⟨rfl, rfl⟩ ⟨rfl, rfl⟩ Try.underlying3 (by kernel_rfl) Try.underlying23 (by kernel_rfl) h2
  subst e0
  exact ⟨⟨z, hs, ns⟩, HA, hn, hc, NA, nn, nc, sl, rfl, ⟨hH, hN, hsl, hnx, hh, hm⟩⟩
theorem open_ints_arg (hv : Value.okWide Try.prog w r b0 23 v) (h : DataW.Trod enc Try.prog w base spare held 23 v d p) :
    ∃ A n c xs, v = .slice A n c ∧ Rd w w.heap.size 1 A n (ints xs) ∧ n ≤ maxLen := by
  obtain ⟨A, n, c, rfl⟩ := okWide_slice Try.underlying23 hv
  obtain ⟨fuel, hf⟩ := h
  obtain ⟨A', n', c', xs, e, hR, hm, _⟩ := read_ints Try.underlying23 Try.underlying3 (by kernel_rfl) (v := .slice A n c) (by simpa [Value.cells] using hf)
  cases e
  exact ⟨_, _, _, xs, rfl, hR, hm⟩
end
end Go.Proofs.Ytamijjpnklbgnaa

/-
  What a circuit's gates compute, over whatever values the wires have: words, Bools, depths. Plain.
-/
namespace Go.Proofs.Ytamijjpnklbgnaa
open Go.RowKit
set_option linter.unusedSimpArgs false
set_option linter.unusedVariables false

/-- One gate after the other: the value of each is appended. -/
def runG {α : Type} (f : Int → α → α → α) (d : α) (gs : List Gt) (vs : List α) : List α :=
  gs.foldl (fun v g => v ++ [f g.op (v.getD g.a.toNat d) (v.getD g.b.toNat d)]) vs
section
variable {α : Type} (f : Int → α → α → α) (d : α)
theorem runG_snoc (gs : List Gt) (g : Gt) (vs : List α) : runG f d (gs ++ [g]) vs = runG f d gs vs ++ [f g.op ((runG f d gs vs).getD g.a.toNat d) ((runG f d gs vs).getD g.b.toNat d)] := by
  simp [runG, List.foldl_append]
theorem runG_length (gs : List Gt) (vs : List α) : (runG f d gs vs).length = vs.length + gs.length := by
  induction gs generalizing vs with
  | nil => simp [runG]
  | cons g l ih =>
    have := ih (vs ++ [f g.op (vs.getD g.a.toNat d) (vs.getD g.b.toNat d)])
    simp only [runG, List.foldl_cons, List.length_append, List.length_cons, List.length_nil] at *
    omega
theorem take_snoc_getD {β : Type} [Inhabited β] (l : List β) (k : Nat) (h : k < l.length) : l.take (k + 1) = l.take k ++ [l.getD k default] := by
  rw [List.take_succ_eq_append_getElem h, List.getD_eq_getElem?_getD, List.getElem?_eq_getElem h]; rfl
theorem runG_take (gs : List Gt) (vs : List α) (k : Nat) (h : k < gs.length) :
    runG f d (gs.take (k + 1)) vs = runG f d (gs.take k) vs ++ [f (gs.getD k default).op ((runG f d (gs.take k) vs).getD (gs.getD k default).a.toNat d) ((runG f d (gs.take k) vs).getD (gs.getD k default).b.toNat d)] := by
  rw [take_snoc_getD gs k h, runG_snoc]
end

def evalW (op : Int) (x y : BitVec 64) : BitVec 64 := if op = 1 then BitVec.allOnes 64 else if op = 2 then ~~~x else if op = 3 then x &&& y else if op = 4 then x ||| y else if op = 5 then x ^^^ y else 0
def evalB (op : Int) (x y : Bool) : Bool := if op = 1 then true else if op = 2 then !x else if op = 3 then x && y else if op = 4 then x || y else if op = 5 then x != y else false
def depthF (op : Int) (x y : Int) : Int := (if operandsF op = 2 then max x y else if operandsF op = 1 then x else 0) + 1
/-- What rightC says of one gate. -/
theorem rightC_parts {c : Circ} (h : rightC c = true) : (0 ≤ c.inputs ∧ c.inputs ≤ 1000 ∧ c.gates.length ≤ 20000 ∧ c.outs.length ≤ 1000) ∧ (∀ k, k < c.gates.length → gateOk (c.inputs + k) (c.gates.getD k default) = true) ∧ c.outs.all (outOk (c.inputs + c.gates.length)) = true := by
  simp only [rightC, gatesOk, Bool.and_eq_true, decide_eq_true_eq] at h
  exact ⟨h.1.1, h.1.2, h.2⟩
theorem gateOk_parts {lim : Int} {g : Gt} (h : gateOk lim g = true) :
    (g.op = 0 ∨ g.op = 1 ∨ g.op = 2 ∨ g.op = 3 ∨ g.op = 4 ∨ g.op = 5) ∧ (2 ≤ g.op → 0 ≤ g.a ∧ g.a < lim) ∧ (3 ≤ g.op → 0 ≤ g.b ∧ g.b < lim) ∧ (g.op < 2 → g.a = 0) ∧ (g.op < 3 → g.b = 0) := by
  simp only [gateOk, wireOk, Bool.and_eq_true, decide_eq_true_eq] at h
  obtain ⟨⟨h1, h2⟩, h3⟩ := h
  have ho : g.op = 0 ∨ g.op = 1 ∨ g.op = 2 ∨ g.op = 3 ∨ g.op = 4 ∨ g.op = 5 := by
    unfold operandsF at h1
    split at h1
    · omega
    · split at h1
      · omega
      · split at h1 <;> omega
  have hop : operandsF g.op = if g.op < 2 then 0 else if g.op < 3 then 1 else 2 := by
    rcases ho with e | e | e | e | e | e <;> rw [e] <;> rfl
  rw [hop] at h2 h3
  refine ⟨ho, fun h => ?_, fun h => ?_, fun h => ?_, fun h => ?_⟩
  · rw [if_neg (by omega)] at h2
    split at h2 <;> omega
  · rw [if_neg (by omega), if_neg (by omega)] at h3
    omega
  · rw [if_pos h] at h2
    omega
  · split at h3
    · omega
    · omega
/-- Depths. -/
def depths (c : Circ) : List Int := runG depthF 0 c.gates (List.replicate c.inputs.toNat 0)
def depthC (c : Circ) : Int := if rightC c = true then (c.outs.map (fun o => (depths c).getD o.toNat 0)).foldl max 0 else 0
theorem depth_bd (gs : List Gt) (vs : List Int) (m : Int) (hm : 0 ≤ m) (h : ∀ k, 0 ≤ vs.getD k 0 ∧ vs.getD k 0 ≤ m) : ∀ k, 0 ≤ (runG depthF 0 gs vs).getD k 0 ∧ (runG depthF 0 gs vs).getD k 0 ≤ m + gs.length := by
  induction gs generalizing vs m with
  | nil => intro k; have := h k; simp only [runG, List.foldl_nil, List.length_nil]; omega
  | cons g l ih =>
    have key : ∀ k, 0 ≤ (vs ++ [depthF g.op (vs.getD g.a.toNat 0) (vs.getD g.b.toNat 0)]).getD k 0 ∧ (vs ++ [depthF g.op (vs.getD g.a.toNat 0) (vs.getD g.b.toNat 0)]).getD k 0 ≤ m + 1 := by
      intro k
      have h1 := h g.a.toNat
      have h2 := h g.b.toNat
      by_cases hk : k < vs.length
      · have := h k
        rw [List.getD_eq_getElem?_getD, List.getElem?_append_left hk, ← List.getD_eq_getElem?_getD]
        omega
      · rw [List.getD_eq_getElem?_getD, List.getElem?_append_right (by omega)]
        by_cases hk2 : k - vs.length = 0
        · rw [hk2]
          simp only [List.getElem?_cons_zero, Option.getD_some, depthF]
          split
          · omega
          · split <;> omega
        · rw [List.getElem?_eq_none (by simp; omega)]
          simp; omega
    intro k
    have := ih _ (m + 1) (by omega) key k
    simp only [runG, List.foldl_cons, List.length_cons] at *
    omega
theorem getD_replicate_zero (n k : Nat) : (List.replicate n (0 : Int)).getD k 0 = 0 := by
  rw [List.getD_eq_getElem?_getD, List.getElem?_replicate]
  split <;> rfl
/-- The values of a circuit's outputs. -/
def outsG {α : Type} (f : Int → α → α → α) (d : α) (c : Circ) (vs : List α) : List α := c.outs.map (fun o => (runG f d c.gates vs).getD o.toNat d)
theorem map_take_snoc {β : Type} (f : Int → β) (os : List Int) (k : Nat) (h : k < os.length) : (os.take (k + 1)).map f = (os.take k).map f ++ [f (os.getD k 0)] := by
  rw [List.take_succ_eq_append_getElem h, List.map_append, List.getD_eq_getElem?_getD, List.getElem?_eq_getElem h]; rfl
end Go.Proofs.Ytamijjpnklbgnaa

/-
  Plain: what Join makes.
-/
namespace Go.Proofs.Ytamijjpnklbgnaa
open Go.RowKit
set_option linter.unusedSimpArgs false
set_option linter.unusedVariables false

def joinWire (a b : Circ) (x : Int) : Int := if x < b.inputs then a.outs.getD x.toNat 0 else x - b.inputs + a.inputs + a.gates.length
def joinGate (a b : Circ) (g : Gt) : Gt := ⟨g.op, if 1 ≤ operandsF g.op then joinWire a b g.a else g.a, if operandsF g.op = 2 then joinWire a b g.b else g.b⟩
def joinC (a b : Circ) : Circ := ⟨a.inputs, a.gates ++ b.gates.map (joinGate a b), b.outs.map (joinWire a b)⟩
def joinErr (a b : Circ) : Int := if rightC a = true ∧ rightC b = true ∧ (a.outs.length : Int) = b.inputs then (if a.gates.length + b.gates.length ≤ 20000 then 0 else 6) else 2
def noCirc : Circ := ⟨0, [], []⟩
def joinR (a b : Circ) : Circ := if joinErr a b = 0 then joinC a b else noCirc
theorem gatesCells_append (xs ys : List Gt) : gatesCells (xs ++ ys) = gatesCells xs ++ gatesCells ys := by simp [gatesCells]
theorem gatesCells_one (g : Gt) : gatesCells [g] = gtCells g := by simp [gatesCells]
theorem map_take_g (f : Gt → Gt) (gs : List Gt) (k : Nat) (h : k < gs.length) : (gs.take (k + 1)).map f = (gs.take k).map f ++ [f (gs.getD k default)] := by
  rw [take_snoc_getD gs k h, List.map_append]; rfl
theorem map_take_i (f : Int → Int) (os : List Int) (k : Nat) (h : k < os.length) : (os.take (k + 1)).map f = (os.take k).map f ++ [f (os.getD k 0)] := map_take_snoc f os k h
theorem gatesCells_one' (gs : List Gt) : ∀ u ∈ gatesCells gs, u.oneCell' = true := by
  intro u hu
  simp only [gatesCells, List.mem_flatMap, gtCells] at hu
  obtain ⟨g, _, hg⟩ := hu
  simp at hg
  rcases hg with rfl | rfl | rfl <;> rfl
theorem noCirc_at (w : World) : CAt w noCirc none none 0 0 := ⟨Rd.empty none, Rd.empty none, by unfold maxLen; omega, by unfold maxLen; omega⟩
theorem joinWire_bd (a b : Circ) (x : Int) (h : 0 ≤ x) (hr : (a.outs.length : Int) = b.inputs) (ho : a.outs.all (outOk (a.inputs + a.gates.length)) = true) (ha : 0 ≤ a.inputs) :
    0 ≤ joinWire a b x ∧ joinWire a b x ≤ a.inputs + a.gates.length + x := by
  unfold joinWire
  split
  · rename_i hlt
    have := outOk_at ho (k := x.toNat) (by omega)
    omega
  · omega
theorem gateOk_ops {lim : Int} {g : Gt} (h : gateOk lim g = true) :
    operandsF g.op = 0 ∨ (operandsF g.op = 1 ∧ 0 ≤ g.a ∧ g.a < lim) ∨ (operandsF g.op = 2 ∧ 0 ≤ g.a ∧ g.a < lim ∧ 0 ≤ g.b ∧ g.b < lim) := by
  obtain ⟨ho, ha, hb, _, _⟩ := gateOk_parts h
  rcases ho with e | e | e | e | e | e
  · exact .inl (by rw [e]; rfl)
  · exact .inl (by rw [e]; rfl)
  · exact .inr (.inl ⟨by rw [e]; rfl, ha (by omega)⟩)
  · exact .inr (.inr ⟨by rw [e]; rfl, (ha (by omega)).1, (ha (by omega)).2, hb (by omega)⟩)
  · exact .inr (.inr ⟨by rw [e]; rfl, (ha (by omega)).1, (ha (by omega)).2, hb (by omega)⟩)
  · exact .inr (.inr ⟨by rw [e]; rfl, (ha (by omega)).1, (ha (by omega)).2, hb (by omega)⟩)
theorem joinGate0 (a b : Circ) (g : Gt) (h : operandsF g.op = 0) : joinGate a b g = ⟨g.op, g.a, g.b⟩ := by simp [joinGate, h]
theorem joinGate1 (a b : Circ) (g : Gt) (h : operandsF g.op = 1) : joinGate a b g = ⟨g.op, joinWire a b g.a, g.b⟩ := by simp [joinGate, h]
theorem joinGate2 (a b : Circ) (g : Gt) (h : operandsF g.op = 2) : joinGate a b g = ⟨g.op, joinWire a b g.a, joinWire a b g.b⟩ := by simp [joinGate, h]
/-- The wires of b in the joined circuit, one after the other. -/
def toL (a : Circ) (k : Nat) : List Int := a.outs ++ (List.range k).map (fun i : Nat => a.inputs + a.gates.length + i)
theorem toL_succ (a : Circ) (k : Nat) : toL a (k + 1) = toL a k ++ [a.inputs + a.gates.length + k] := by simp [toL, List.range_succ]
theorem toL_len (a : Circ) (k : Nat) : (toL a k).length = a.outs.length + k := by simp [toL]
theorem toL_at (a b : Circ) (k x : Nat) (hio : (a.outs.length : Int) = b.inputs) (hx : x < a.outs.length + k) : (toL a k).getD x 0 = joinWire a b x := by
  unfold toL joinWire
  by_cases h : x < a.outs.length
  · rw [if_pos (by omega), List.getD_eq_getElem?_getD, List.getElem?_append_left h, Int.toNat_natCast, List.getD_eq_getElem?_getD]
  · rw [if_neg (by omega), List.getD_eq_getElem?_getD, List.getElem?_append_right (by omega), List.getElem?_map, List.getElem?_range (by omega)]
    simp only [Option.map_some, Option.getD_some]
    omega
end Go.Proofs.Ytamijjpnklbgnaa

/-
  The steps that make a circuit smaller, as plain data. Nothing of the program stands here.
-/
namespace Go.Proofs.Ytamijjpnklbgnaa
open Go.RowKit
set_option linter.unusedSimpArgs false
set_option linter.unusedVariables false
/-- The gates so far, and the wire that stands for each wire. -/
structure Wk where
  gates : List Gt
  to : List Int
def operandsO (op : Int) : Int := if op = 0 ∨ op = 1 then 0 else if op = 2 then 1 else 2
theorem operandsO_bd (op : Int) : 0 ≤ operandsO op ∧ operandsO op ≤ 2 := by unfold operandsO; split <;> (try split) <;> omega
def toAt (to : List Int) (w : Int) : Int := to.getD w.toNat 0
def moveG (to : List Int) (g : Gt) : Gt := ⟨g.op, if 1 ≤ operandsO g.op then toAt to g.a else g.a, if operandsO g.op = 2 then toAt to g.b else g.b⟩
def startW (n : Int) : Wk := ⟨[], (List.range n.toNat).map Int.ofNat⟩
def addW (n : Int) (s : Wk) (p : Gt × Int) : Wk := ⟨s.gates ++ [p.1], s.to ++ [if p.2 < 0 then n + s.gates.length else p.2]⟩
def doneW (c : Circ) (s : Wk) : Circ := ⟨c.inputs, s.gates, c.outs.map (toAt s.to)⟩
def isW (n : Int) (gs : List Gt) (w op : Int) : Bool := decide (n ≤ w) && decide ((gs.getD (w - n).toNat default).op = op)
def argW (n : Int) (gs : List Gt) (w : Int) : Int := (gs.getD (w - n).toNat default).a
def negW (n : Int) (gs : List Gt) (x y : Int) : Bool := isW n gs x 2 && decide (argW n gs x = y)
def oppW (n : Int) (gs : List Gt) (a b : Int) : Bool := negW n gs a b || negW n gs b a
def notF (n : Int) (gs : List Gt) (a : Int) : Gt × Int :=
  if isW n gs a 0 = true then (⟨1, 0, 0⟩, -1) else if isW n gs a 1 = true then (⟨0, 0, 0⟩, -1) else if isW n gs a 2 = true then (⟨2, a, 0⟩, argW n gs a) else (⟨2, a, 0⟩, -1)
def eitherF (n : Int) (gs : List Gt) (g : Gt) (ab ne : Int) : Gt × Int :=
  if (isW n gs g.a ab || isW n gs g.b ab) = true then (⟨ab, 0, 0⟩, -1) else if isW n gs g.a ne = true then (g, g.b) else if (isW n gs g.b ne || decide (g.a = g.b)) = true then (g, g.a)
  else if oppW n gs g.a g.b = true then (⟨ab, 0, 0⟩, -1) else (g, -1)
def xorF (n : Int) (gs : List Gt) (g : Gt) : Gt × Int :=
  if isW n gs g.a 0 = true then (g, g.b) else if isW n gs g.b 0 = true then (g, g.a) else if g.a = g.b then (⟨0, 0, 0⟩, -1) else if oppW n gs g.a g.b = true then (⟨1, 0, 0⟩, -1)
  else if isW n gs g.a 1 = true then notF n gs g.b else if isW n gs g.b 1 = true then notF n gs g.a else (g, -1)
def foldG (n : Int) (gs : List Gt) (g : Gt) : Gt × Int :=
  if g.op = 2 then notF n gs g.a else if g.op = 3 then eitherF n gs g 0 1 else if g.op = 4 then eitherF n gs g 1 0 else if g.op = 5 then xorF n gs g else (g, -1)
def gateAt (c : Circ) (k : Nat) : Gt := c.gates.getD k default
def foldTo (c : Circ) : Nat → Wk
  | 0 => startW c.inputs
  | k + 1 => addW c.inputs (foldTo c k) (foldG c.inputs (foldTo c k).gates (moveG (foldTo c k).to (gateAt c k)))
def foldC (c : Circ) : Circ := if rightC c = true then doneW c (foldTo c c.gates.length) else noCirc
def swapG (g : Gt) : Gt := if operandsO g.op = 2 ∧ g.b < g.a then ⟨g.op, g.b, g.a⟩ else g
/-- The wire of the first gate that is equal, or -1. -/
def knownW (n : Int) (gs : List Gt) (g : Gt) : Int := match gs.findIdx? (fun x => gtEq x g) with | some k => n + (k : Int) | none => -1
def shareG (n : Int) (s : Wk) (g : Gt) : Gt × Int := (swapG (moveG s.to g), knownW n s.gates (swapG (moveG s.to g)))
def shareTo (c : Circ) : Nat → Wk
  | 0 => startW c.inputs
  | k + 1 => addW c.inputs (shareTo c k) (shareG c.inputs (shareTo c k) (gateAt c k))
def shareC (c : Circ) : Circ := if rightC c = true then doneW c (shareTo c c.gates.length) else noCirc
def setT (l : List Bool) (w : Int) : List Bool := l.set w.toNat true
def needAt (nd : List Bool) (w : Int) : Bool := nd.getD w.toNat false
def needG (n : Int) (nd : List Bool) (i : Nat) (g : Gt) : List Bool :=
  if needAt nd (n + (i : Int)) = true then (if operandsO g.op = 2 then setT (setT nd g.a) g.b else if operandsO g.op = 1 then setT nd g.a else nd) else nd
def needOuts (c : Circ) : Nat → List Bool
  | 0 => List.replicate (c.inputs + c.gates.length).toNat false
  | k + 1 => setT (needOuts c k) (c.outs.getD k 0)
/-- The wires that are needed, the last j gates having been looked at. -/
def needTo (c : Circ) : Nat → List Bool
  | 0 => needOuts c c.outs.length
  | j + 1 => needG c.inputs (needTo c j) (c.gates.length - 1 - j) (gateAt c (c.gates.length - 1 - j))
def needC (c : Circ) : List Bool := needTo c c.gates.length
def trimTo (c : Circ) : Nat → Wk
  | 0 => startW c.inputs
  | k + 1 => if needAt (needC c) (c.inputs + (k : Int)) = true then addW c.inputs (trimTo c k) (moveG (trimTo c k).to (gateAt c k), -1) else ⟨(trimTo c k).gates, (trimTo c k).to ++ [0]⟩
def trimC (c : Circ) : Circ := if rightC c = true then doneW c (trimTo c c.gates.length) else noCirc
def oneC (c : Circ) : Circ := trimC (shareC (foldC c))
def gateWt (g : Gt) : Nat := if operandsO g.op = 0 then 1 else if operandsO g.op = 1 then 2 else if g.a ≤ g.b then 3 else 4
def measC (c : Circ) : Nat := (c.gates.map gateWt).sum
def iterC : Nat → Circ → Circ
  | 0, c => c
  | k + 1, c => if sameC (oneC c) c = true then c else iterC k (oneC c)
def allC (c : Circ) : Circ := if rightC c = true then iterC (measC c) c else noCirc
/-- The length of the work. -/
theorem addW_len (n : Int) (s : Wk) (p : Gt × Int) : (addW n s p).gates.length = s.gates.length + 1 ∧ (addW n s p).to.length = s.to.length + 1 := ⟨by simp [addW], by simp [addW]⟩
theorem startW_len (n : Int) : (startW n).gates.length = 0 ∧ (startW n).to.length = n.toNat := ⟨rfl, by simp [startW]⟩
theorem foldTo_len (c : Circ) (k : Nat) : (foldTo c k).gates.length = k ∧ (foldTo c k).to.length = c.inputs.toNat + k := by
  induction k with
  | zero => exact startW_len _
  | succ k ih => have := addW_len c.inputs (foldTo c k) (foldG c.inputs (foldTo c k).gates (moveG (foldTo c k).to (gateAt c k))); rw [foldTo]; omega
theorem shareTo_len (c : Circ) (k : Nat) : (shareTo c k).gates.length = k ∧ (shareTo c k).to.length = c.inputs.toNat + k := by
  induction k with
  | zero => exact startW_len _
  | succ k ih => have := addW_len c.inputs (shareTo c k) (shareG c.inputs (shareTo c k) (gateAt c k)); rw [shareTo]; omega
theorem trimTo_len (c : Circ) (k : Nat) : (trimTo c k).gates.length ≤ k ∧ (trimTo c k).to.length = c.inputs.toNat + k := by
  induction k with
  | zero => exact ⟨Nat.le_of_eq (startW_len _).1, (startW_len _).2⟩
  | succ k ih =>
    rw [trimTo]
    split
    · have := addW_len c.inputs (trimTo c k) (moveG (trimTo c k).to (gateAt c k), -1); omega
    · exact ⟨by show (trimTo c k).gates.length ≤ _; omega, by simp; omega⟩
theorem needG_len (n : Int) (nd : List Bool) (i : Nat) (g : Gt) : (needG n nd i g).length = nd.length := by
  unfold needG setT
  split
  · split
    · simp
    · split <;> simp
  · rfl
theorem needOuts_len (c : Circ) (k : Nat) : (needOuts c k).length = (c.inputs + c.gates.length).toNat := by
  induction k with
  | zero => simp [needOuts]
  | succ k ih => simp [needOuts, setT, ih]
theorem needTo_len (c : Circ) (j : Nat) : (needTo c j).length = (c.inputs + c.gates.length).toNat := by
  induction j with
  | zero => exact needOuts_len _ _
  | succ j ih => rw [needTo, needG_len, ih]
end Go.Proofs.Ytamijjpnklbgnaa

/-
  Steps of a walk call by call: what lies below, new rows, cells kept. Any program.
-/
namespace Go.Proofs.Ytamijjpnklbgnaa
open Go.RowKit
set_option linter.unusedSimpArgs false
set_option linter.unusedVariables false

theorem below_next {w W w' : World} (hb : Below W.heap.size W w') (hw : Below w.heap.size w W) : Below w.heap.size w w' := hw.trans (hb.mono hw.size)
theorem below_on {w W1 W w' : World} (h0 : Below w.heap.size w W1) (h1 : Below W1.heap.size W1 W) (hb : Below W.heap.size W w') : Below w.heap.size w w' := h0.trans ((h1.trans (hb.mono h1.size)).mono h0.size)
theorem below_on2 {w W1 W : World} (h0 : Below w.heap.size w W1) (h1 : Below W1.heap.size W1 W) : Below w.heap.size w W := h0.trans (h1.mono h0.size)
theorem rowCells {w : World} {g : Nat} {T : TypeId} {xs : List Value} (h : Row w g T xs) {w' : World} (hb : Below w.heap.size w w') : Row w' g T xs := h.below hb h.lt
theorem rowNew1 (w : World) (o : Obj) (T : TypeId) (xs : List Value) : Row ((w.alloc o).alloc (.cells xs.toArray T)) (w.heap.size + 1) T xs := by
  have := Row.new (w.alloc o) T xs
  rw [World.size_alloc] at this
  exact this
theorem rowNew2 (w : World) (o o' : Obj) (T : TypeId) (xs : List Value) : Row (((w.alloc o).alloc o').alloc (.cells xs.toArray T)) (w.heap.size + 1 + 1) T xs := by
  have := Row.new ((w.alloc o).alloc o') T xs
  rw [World.size_alloc, World.size_alloc] at this
  exact this
/-- A callee that leaves the world as it is, within go_quiet. -/
theorem quiet_same {P : Program} {f : FuncId} {args : Array Value} {w : World} {n : Nat} {v : Value}
    (h : Calls P f args (w.drewN n) fun e w' => e = .returned v ∧ w.drewN n = w') : Calls P f args (w.drewN n) fun e w'' => e = .returned v ∧ ∃ m, w'' = w.drewN m :=
  h.mono fun _ _ h2 => ⟨h2.1, n, h2.2.symm⟩
end Go.Proofs.Ytamijjpnklbgnaa

/-
  What stays where a call writes to a struct of its own and to a row of its own: all that lies below, and all blocks of other element types. Rows of rows. Any program.
-/
namespace Go.Proofs.Ytamijjpnklbgnaa
open Go.RowKit
set_option linter.unusedSimpArgs false
set_option linter.unusedVariables false

structure Frm (B : Nat) (T1 T2 : TypeId) (w w' : World) : Prop where
  below : Below B w w'
  keep : ∀ (k : Nat) (cs : Array Value) (T : TypeId) (fz : Nat × Nat), T ≠ T1 → T ≠ T2 → w.heap[k]? = some (Obj.cells cs T fz) → w'.heap[k]? = some (Obj.cells cs T fz)
theorem heap_lt {w : World} {k : Nat} {o : Obj} (h : w.heap[k]? = some o) : k < w.heap.size := by
  rcases Nat.lt_or_ge k w.heap.size with hl | hge
  · exact hl
  · rw [Array.getElem?_eq_none hge] at h; cases h
section
variable {B : Nat} {T1 T2 : TypeId} {w w1 w' : World}
theorem Frm.refl (B : Nat) (T1 T2 : TypeId) (w : World) : Frm B T1 T2 w w := ⟨Below.refl _ _, fun _ _ _ _ _ _ h => h⟩
theorem Frm.trans (h : Frm B T1 T2 w w1) (k : Frm B T1 T2 w1 w') : Frm B T1 T2 w w' := ⟨h.below.trans k.below, fun b cs T fz h1 h2 hh => k.keep b cs T fz h1 h2 (h.keep b cs T fz h1 h2 hh)⟩
theorem Frm.drewN (h : Frm B T1 T2 w w1) (n : Nat) : Frm B T1 T2 w (w1.drewN n) := ⟨below_drewN h.below n, h.keep⟩
theorem Frm.alloc (h : Frm B T1 T2 w w1) (hB : B ≤ w1.heap.size) (o : Obj) : Frm B T1 T2 w (w1.alloc o) :=
  ⟨h.below.alloc hB o, fun b cs T fz h1 h2 hh => by
    have := h.keep b cs T fz h1 h2 hh
    rw [Below.heap_alloc w1 o b (heap_lt this)]; exact this⟩
theorem Frm.set {xs : List Value} {p : Addr} (h : Frm B T1 T2 w w1) (hr : Row w1 p.block T1 xs) (hB : B ≤ p.block) (u : Value) : Frm B T1 T2 w (w1.setCell p u) :=
  ⟨h.below.setCell hB u, fun b cs T fz h1 h2 hh => by
    have := h.keep b cs T fz h1 h2 hh
    rw [Below.heap_setCell w1 p u b (fun e => by
      subst e
      unfold Row at hr
      rw [hr] at this
      injection this with this
      injection this with _ ht
      exact h1 ht.symm)]
    exact this⟩
theorem own_block_type {base sz n : Nat} {e : TypeId} {v : Value} {xs : List Value} {k : Nat} (h : w.ownsRow base e sz v n xs) (hk : v.ownBlock = some k) : ∃ cur, w.heap[k]? = some (Obj.cells cur e (0, 0)) ∧ base ≤ k := by
  rcases h.2 with ⟨rfl, _⟩ | ⟨g, cap, cur, rfl, hb, hg, _⟩
  · cases hk
  · obtain rfl : g = k := by simpa [Value.ownBlock] using hk
    exact ⟨cur, hg, hb⟩
theorem Frm.grown2 {base sz n : Nat} {v : Value} {xs : List Value} (h : Frm B T1 T2 w w1) (ho : w1.ownsRow base T2 sz v n xs) (hB : B ≤ base) (hS : B ≤ w1.heap.size) (hg : w1.grownBy w' v.ownBlock) : Frm B T1 T2 w w' := by
  refine ⟨h.below.grown hg hS (fun k hk => Nat.le_trans hB (own_block_type ho hk).choose_spec.2), fun b cs T fz h1 h2 hh => ?_⟩
  have := h.keep b cs T fz h1 h2 hh
  rw [hg.block b (heap_lt this) (fun e => by
    obtain ⟨cur, hc, _⟩ := own_block_type ho e.symm
    rw [hc] at this
    injection this with this
    injection this with _ ht
    exact h2 ht.symm)]
  exact this
theorem Frm.grownNew {row : Option Nat} (h : Frm B T1 T2 w w1) (hg : w1.grownBy w' row) (hrow : ∀ k, row = some k → w.heap.size ≤ k) (hB : B ≤ w.heap.size) : Frm B T1 T2 w w' := by
  refine ⟨h.below.grown hg (Nat.le_trans hB h.below.size) (fun k hk => Nat.le_trans hB (hrow k hk)), fun b cs T fz h1 h2 hh => ?_⟩
  have hlt := heap_lt hh
  have := h.keep b cs T fz h1 h2 hh
  rw [hg.block b (heap_lt this) (fun e => by have := hrow b e.symm; omega)]
  exact this
theorem Frm.ofBelow (h : Below w.heap.size w w') (hB : B ≤ w.heap.size) : Frm B T1 T2 w w' :=
  ⟨h.mono hB, fun b cs T fz _ _ hh => by rw [h.block b (heap_lt hh)]; exact hh⟩
theorem Frm.own {base sz n : Nat} {e : TypeId} {v : Value} {xs : List Value} (h : Frm B T1 T2 w w') (ho : w.ownsRow base e sz v n xs) (h1 : e ≠ T1) (h2 : e ≠ T2) : w'.ownsRow base e sz v n xs :=
  ⟨ho.1, ho.2.imp id (fun ⟨g, cap, cur, a, b, c, d⟩ => ⟨g, cap, cur, a, b, h.keep g cur e (0, 0) h1 h2 c, d⟩)⟩
theorem Frm.row {g : Nat} {T : TypeId} {xs : List Value} (h : Frm B T1 T2 w w') (hr : Row w g T xs) (h1 : T ≠ T1) (h2 : T ≠ T2) : Row w' g T xs := h.keep g _ T (0, 0) h1 h2 hr
theorem own_grown {base sz n : Nat} {e : TypeId} {v : Value} {xs : List Value} {row : Option Nat} (ho : w.ownsRow base e sz v n xs) (hg : w.grownBy w' row) (hne : ∀ k, v.ownBlock = some k → row ≠ some k) : w'.ownsRow base e sz v n xs := by
  refine ⟨ho.1, ho.2.imp id (fun ⟨g, cap, cur, a, b, c, d⟩ => ⟨g, cap, cur, a, b, ?_, d⟩)⟩
  subst a
  rw [hg.block g (heap_lt c) (fun e => hne g rfl e.symm)]
  exact c
theorem own_old {base sz n : Nat} {e : TypeId} {v : Value} {xs : List Value} {row : Option Nat} {S : Nat} (ho : w.ownsRow base e sz v n xs) (hb : ∀ k, v.ownBlock = some k → k < S) (hg : w.grownBy w' row) (hr : ∀ k, row = some k → S ≤ k) : w'.ownsRow base e sz v n xs :=
  own_grown ho hg (fun k hk e => by have := hb k hk; have := hr k e; omega)
theorem own_lt {base sz n : Nat} {e : TypeId} {v : Value} {xs : List Value} (ho : w.ownsRow base e sz v n xs) : ∀ k, v.ownBlock = some k → k < w.heap.size := fun k hk => by
  obtain ⟨cur, hc, _⟩ := own_block_type ho hk
  exact heap_lt hc
theorem row_set {p : Addr} {g : Nat} {T : TypeId} {xs : List Value} (h : Row w g T xs) (i : Nat) (u : Value) : Row (w.setCell ⟨g, i, none⟩ u) g T (xs.set i u) := h.set i u
theorem own_set {base sz n : Nat} {e T : TypeId} {v : Value} {xs cs : List Value} {p : Addr} (ho : w.ownsRow base e sz v n xs) (hr : Row w p.block T cs) (hne : e ≠ T) (u : Value) : (w.setCell p u).ownsRow base e sz v n xs :=
  own_far ho (own_ne_row ho hr hne) u
end

/-- Rows of rows of integers: the outer row's elements are of type E, the inner rows' of type I; all from block base on. -/
def Rows2At (w : World) (base : Nat) (E I : TypeId) (v : Value) (rows : List (List Int)) : Prop :=
  ∃ vs : List Value, w.ownsRow base E 1 v rows.length vs ∧ vs.length = rows.length ∧ ∀ i, i < rows.length → w.ownsRow base I 1 (vs.getD i undef) (rows.getD i []).length (ints (rows.getD i []))
section
variable {w w' : World} {base : Nat} {E I : TypeId} {v : Value} {rows : List (List Int)}
theorem Rows2At.nil (w : World) (base : Nat) (E I : TypeId) : Rows2At w base E I (.slice none 0 0) [] := ⟨[], World.ownsRow_nil _ _ _ _, rfl, fun i hi => absurd hi (Nat.not_lt_zero _)⟩
theorem Rows2At.frm {B : Nat} {T1 T2 : TypeId} (h : Rows2At w base E I v rows) (f : Frm B T1 T2 w w') (e1 : E ≠ T1) (e2 : E ≠ T2) (i1 : I ≠ T1) (i2 : I ≠ T2) : Rows2At w' base E I v rows := by
  obtain ⟨vs, h1, h2, h3⟩ := h
  exact ⟨vs, f.own h1 e1 e2, h2, fun i hi => f.own (h3 i hi) i1 i2⟩
theorem Rows2At.grown {row : Option Nat} (h : Rows2At w base E I v rows) (hg : w.grownBy w' row) (hr : ∀ k, row = some k → w.heap.size ≤ k) : Rows2At w' base E I v rows := by
  obtain ⟨vs, h1, h2, h3⟩ := h
  exact ⟨vs, own_old h1 (own_lt h1) hg hr, h2, fun i hi => own_old (h3 i hi) (own_lt (h3 i hi)) hg hr⟩
theorem Rows2At.below {B : Nat} (h : Rows2At w base E I v rows) (hb : Below B w w') (hB : w.heap.size ≤ B) : Rows2At w' base E I v rows := by
  obtain ⟨vs, h1, h2, h3⟩ := h
  exact ⟨vs, own_below h1 hb hB, h2, fun i hi => own_below (h3 i hi) hb hB⟩
end
end Go.Proofs.Ytamijjpnklbgnaa
