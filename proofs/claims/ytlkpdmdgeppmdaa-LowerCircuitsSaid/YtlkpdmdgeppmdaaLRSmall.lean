/-
  The reference's Lower, its parts: literal, last; the circuit that is built, in memory.
-/
import Derived.Test.YtlkpdmdgeppmdaaLLower
namespace Go.Proofs.Ytlkpdmdgeppmdaa
open Go.RowKit
set_option linter.unusedSimpArgs false
set_option linter.unusedVariables false

set_option maxHeartbeats 400000 in
theorem rlit_any (N j gn gc on oc : Nat) (GA OA : Option Addr) (one : Bool) (w : World) (hN : N ≤ 100) (hj : j ≤ 100) :
    Calls Try.prog 28 #[.agg #[.int .i64 N, .slice GA gn gc, .slice OA on oc], .int .i64 j, .bool one] w fun e w' => e = .returned (.int .i64 (litF N j one)) ∧ Below w.heap.size w w' := by
  cases one
  · go_enter Try.func28, Try.ntmps28
    go_wp2
    go_ret
    exact ⟨ret_i64 rfl, by go_grown⟩
  · go_enter Try.func28, Try.ntmps28
    go_wp2
    go_ret
    exact ⟨ret_i64 rfl, by go_grown⟩
set_option maxHeartbeats 400000 in
theorem rlast_any (N gn gc on oc : Nat) (GA OA : Option Addr) (w : World) (hN : N ≤ 100) (hg : gn ≤ 30000) :
    Calls Try.prog 29 #[.agg #[.int .i64 N, .slice GA gn gc, .slice OA on oc]] w fun e w' => e = .returned (.int .i64 ((N : Int) + gn - 1)) ∧ Below w.heap.size w w' := by
  have h1 : IntKind.i64.wrap ((N : Int) + gn) = (N : Int) + gn := IntWalk.i64_in _ (by omega)
  have h2 : IntKind.i64.wrap ((N : Int) + gn - 1) = (N : Int) + gn - 1 := IntWalk.i64_in _ (by omega)
  go_enter Try.func29, Try.ntmps29
  go_wp2_with fail
  try go_quiet (fail)
  go_wp2
  go_ret
  exact ⟨ret_i64 rfl, by go_grown⟩
theorem rBit0_any (x : Int) (w : World) (h0 : 0 ≤ x) (h1 : x ≤ 7) : Calls Try.prog 24 #[.int .i64 x, .int .i64 0] w fun e w' => e = .returned (.bool (bitI x 0)) ∧ w = w' := rBit_any x 0 w h0 h1 (by omega)

/-- The circuit that is built, at block b: its inputs N, its gates gs (a row from block B on), its outputs ov. -/
def RSt (w : World) (B b N : Nat) (gs : List Gt) (ov : Value) : Prop :=
  ∃ gv : Value, Row w b 39 [.int .i64 N, gv, ov] ∧ w.ownsRow B 53 3 gv gs.length (gatesCells gs) ∧ B ≤ b
abbrev RFrm (B : Nat) (w w' : World) : Prop := Frm B 39 53 w w'
section
variable {w w' : World} {B b N : Nat} {gs : List Gt} {ov : Value}
theorem RSt.blk (h : RSt w B b N gs ov) : b < w.heap.size ∧ B ≤ b := by
  obtain ⟨gv, h1, _, h3⟩ := h
  exact ⟨h1.lt, h3⟩
theorem RSt.op (h : RSt w B b N gs ov) : ∃ GA gc, Row w b 39 [.int .i64 N, .slice GA gs.length gc, ov] ∧ w.ownsRow B 53 3 (.slice GA gs.length gc) gs.length (gatesCells gs) := by
  obtain ⟨gv, h1, h2, h3⟩ := h
  obtain ⟨GA, gc, rfl, _⟩ := Rd.own h2
  exact ⟨GA, gc, h1, h2⟩
theorem RSt.keep (h : RSt w B b N gs ov) (hb : ∀ k, k < w.heap.size → w'.heap[k]? = w.heap[k]?) : RSt w' B b N gs ov := by
  obtain ⟨gv, h1, h2, h3⟩ := h
  refine ⟨gv, (hb b h1.lt).trans h1, ⟨h2.1, h2.2.imp id (fun ⟨g, cap, cur, a, b', c, d⟩ => ⟨g, cap, cur, a, b', (hb g (heap_lt c)).trans c, d⟩)⟩, h3⟩
theorem RSt.below (h : RSt w B b N gs ov) (hb : Below w.heap.size w w') : RSt w' B b N gs ov := h.keep hb.block
theorem RSt.alloc (h : RSt w B b N gs ov) (o : Obj) : RSt (w.alloc o) B b N gs ov := h.keep (fun k hk => Below.heap_alloc w o k hk)
/-- A row of another type grows. -/
theorem RSt.grownT {base sz n : Nat} {e : TypeId} {v : Value} {xs : List Value} (h : RSt w B b N gs ov) (ho : w.ownsRow base e sz v n xs) (hg : w.grownBy w' v.ownBlock) (h1 : e ≠ 39) (h2 : e ≠ 53) : RSt w' B b N gs ov := by
  obtain ⟨gv, r1, r2, r3⟩ := h
  have key : ∀ k cs' T, T ≠ e → w.heap[k]? = some (Obj.cells cs' T (0, 0)) → w'.heap[k]? = some (Obj.cells cs' T (0, 0)) := fun k cs' T ht hh => by
    rw [hg.block k (heap_lt hh) (fun he => by
      obtain ⟨cur, hc, _⟩ := own_block_type ho he.symm
      rw [hc] at hh
      injection hh with hh
      injection hh with _ h4
      exact ht h4.symm)]
    exact hh
  exact ⟨gv, key b _ _ h1.symm r1, ⟨r2.1, r2.2.imp id (fun ⟨g, cap, cur, a, b', c, d⟩ => ⟨g, cap, cur, a, b', key g cur _ h2.symm c, d⟩)⟩, r3⟩
/-- The outputs are written. -/
theorem RSt.setOuts (h : RSt w B b N gs ov) (u : Value) : RSt (w.setCell ⟨b, 2, none⟩ u) B b N gs u := by
  obtain ⟨gv, h1, h2, h3⟩ := h
  exact ⟨gv, h1.set 2 u, own_set (p := ⟨b, 2, none⟩) h2 h1 (by decide) u, h3⟩
/-- A gate is appended and stored. -/
theorem RSt.push {gv v' : Value} {n : Nat} {g : Gt} {w0 : World} (hr : Row w b 39 [.int .i64 N, gv, ov]) (ho : w.ownsRow B 53 3 gv n (gatesCells gs)) (hB : B ≤ b) (hn : gs.length = n) (hg : w.grownBy w' gv.ownBlock)
    (ho' : w'.ownsRow B 53 3 v' (n + 1) (gatesCells gs ++ [.int .i64 g.op, .int .i64 g.a, .int .i64 g.b])) (hF : RFrm B w0 w) :
    Row w' b 39 [.int .i64 N, gv, ov] ∧ RSt (w'.setCell ⟨b, 1, none⟩ v') B b N (gs ++ [g]) ov ∧ RFrm B w0 (w'.setCell ⟨b, 1, none⟩ v') ∧ RFrm B w0 w' := by
  have hbl := hr.lt
  have r1 : Row w' b 39 [.int .i64 N, gv, ov] := hr.grown hg (fun e => (own_ne_row ho hr (by decide)) e.symm)
  have f1 : RFrm B w0 w' := Frm.grown2 hF ho (Nat.le_refl _) (by omega) hg
  refine ⟨r1, ⟨v', r1.set 1 v', ?_, hB⟩, Frm.set (p := ⟨b, 1, none⟩) f1 r1 hB _, f1⟩
  have h1 := own_set (p := ⟨b, 1, none⟩) ho' r1 (by decide) v'
  rw [gatesCells_append, gatesCells_one, List.length_append, List.length_singleton, hn]
  exact h1
end
theorem flat_get (S : Nat) (rows : List (List Int)) (hS : ∀ r ∈ rows, r.length = S) (i s : Nat) (hi : i < rows.length) (hs : s < S) : rows.flatten.getD (i * S + s) 0 = (rows.getD i []).getD s 0 ∧ i * S + s < rows.flatten.length := by
  induction rows generalizing i with
  | nil => simp at hi
  | cons r rows ih =>
    have hr := hS r (by simp)
    simp only [List.flatten_cons, List.length_append]
    cases i with
    | zero =>
      rw [Nat.zero_mul, Nat.zero_add, List.getD_eq_getElem?_getD, List.getElem?_append_left (by omega), List.getD_cons_zero, List.getD_eq_getElem?_getD]
      exact ⟨rfl, by omega⟩
    | succ i =>
      have h := ih (fun x hx => hS x (by simp [hx])) i (by simpa using hi)
      rw [Nat.add_mul, Nat.one_mul]
      rw [List.getD_eq_getElem?_getD, List.getElem?_append_right (by omega), show i * S + S + s - r.length = i * S + s by omega, ← List.getD_eq_getElem?_getD, h.1, List.getD_cons_succ]
      exact ⟨rfl, by omega⟩
theorem flat_len' (S : Nat) (rows : List (List Int)) (hS : ∀ r ∈ rows, r.length = S) : rows.flatten.length = rows.length * S := by
  induction rows with
  | nil => simp
  | cons r rows ih =>
    simp only [List.flatten_cons, List.length_append, List.length_cons]
    rw [ih (fun x hx => hS x (by simp [hx])), hS r (by simp), Nat.add_mul]; omega
theorem own_int {w : World} {base n : Nat} {A : Option Addr} {c : Nat} {l : List Int} (h : w.ownsRow base 3 1 (.slice A n c) n (ints l)) (k : Nat) (hk : k < n) : ∃ g, A = some ⟨g, 0, none⟩ ∧ w.cell? ⟨g, k, none⟩ = some (.int .i64 (l.getD k 0)) ∧ g < w.heap.size := by
  obtain ⟨g, cap, hv, _, hlt⟩ := h.form (by omega)
  injection hv with hA
  subst hA
  have hl : l.length = n := by have := h.1; rw [ints_length, Nat.mul_one] at this; exact this
  refine ⟨g, rfl, ?_, hlt⟩
  rw [h.cellAt k (by omega)]
  exact ints_get l k (by omega)
end Go.Proofs.Ytlkpdmdgeppmdaa
