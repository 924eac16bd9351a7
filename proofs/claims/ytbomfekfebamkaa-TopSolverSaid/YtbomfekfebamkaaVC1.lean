/-
  Words for memory that every walk of this work uses: a slice that reads as a list of cells (nil and empty let in), kept over new blocks, stores elsewhere, draws. Nothing of the program stands here.
-/
import Derived.Handy
import Derived.Deep.LoopGhost
import Derived.Deep.Draws
import Derived.Deep.AppendLies
import Derived.Laws.OwnMore
import Derived.Lib.Hide
import Derived.Maps.AppendAt
import Derived.RegionTactic
import Derived.ProofKit
import Derived.Deep.Slices
import Derived.Deep.Strs
import Derived.Lib.SmallJoins
import Derived.Deep.QuietTactic
namespace Go.Proofs.Ytbomfekfebamkaa
open Go.RowKit
set_option linter.unusedSimpArgs false
set_option linter.unusedVariables false

theorem add_block (a : Addr) (n : Nat) : (a.add n).block = a.block := by unfold Addr.add; split <;> rfl
theorem add_add' (a : Addr) (i j : Nat) : (a.add i).add j = a.add (i + j) := by
  unfold Addr.add
  by_cases hi : i = 0 <;> by_cases hj : j = 0 <;> simp [hi, hj, Nat.add_assoc]

/-- The slice at address A of length n, its elements of sz cells each, reads as the cells xs, all below block B. -/
def Rd (w : World) (B sz : Nat) (A : Option Addr) (n : Nat) (xs : List Value) : Prop :=
  xs.length = n * sz ∧ (0 < n → ∃ ad, A = some ad ∧ ad.block < B ∧ ∀ j u, xs[j]? = some u → w.cell? (ad.add j) = some u)

section
variable {w w' : World} {B B' sz n : Nat} {A : Option Addr} {xs : List Value}
theorem Rd.empty (A : Option Addr) : Rd w B sz A 0 [] := ⟨by simp, fun h => absurd h (by omega)⟩
theorem Rd.len (h : Rd w B sz A n xs) : xs.length = n * sz := h.1
theorem Rd.ex (h : Rd w B sz A n xs) (hn : 0 < n) : ∃ ad, A = some ad ∧ ad.block < B ∧ ∀ j u, xs[j]? = some u → w.cell? (ad.add j) = some u := h.2 hn
theorem Rd.keep (h : Rd w B sz A n xs) (hk : ∀ p : Addr, p.block < B → w'.cell? p = w.cell? p) : Rd w' B sz A n xs :=
  ⟨h.1, fun hn => let ⟨ad, e, hb, hc⟩ := h.2 hn; ⟨ad, e, hb, fun j u hu => (hk _ (by rw [add_block]; exact hb)).trans (hc j u hu)⟩⟩
theorem Rd.more (h : Rd w B sz A n xs) (hB : B ≤ B') : Rd w B' sz A n xs :=
  ⟨h.1, fun hn => let ⟨ad, e, hb, hc⟩ := h.2 hn; ⟨ad, e, by omega, hc⟩⟩
theorem Rd.below (h : Rd w B sz A n xs) {C : Nat} (hb : Below C w w') (hB : B ≤ C) : Rd w' B sz A n xs := h.keep fun _ hp => hb.cell (by omega)
/-- What read at a call's beginning reads in every later world. -/
theorem Rd.up (h : Rd w w.heap.size sz A n xs) (hb : Below w.heap.size w w') : Rd w' w'.heap.size sz A n xs := (h.below hb (Nat.le_refl _)).more hb.size
theorem Rd.drew (h : Rd w B sz A n xs) : Rd w.drew B sz A n xs := h
theorem Rd.drewN (h : Rd w B sz A n xs) (k : Nat) : Rd (w.drewN k) B sz A n xs := h
theorem Rd.alloc (h : Rd w B sz A n xs) (hB : B ≤ w.heap.size) (o : Obj) : Rd (w.alloc o) B sz A n xs := h.keep fun p hp => World.cell?_alloc_lt w o p (by omega)
theorem Rd.setCell (h : Rd w B sz A n xs) {p : Addr} (hB : B ≤ p.block) (u : Value) : Rd (w.setCell p u) B sz A n xs :=
  h.keep fun q hq => World.cell?_setCell_other w p q u (fun e => by subst e; omega)
theorem Rd.of_own {base : Nat} {e : TypeId} {c : Nat} (h : w.ownsRow base e sz (.slice A n c) n xs) : Rd w w.heap.size sz A n xs := by
  refine ⟨h.1, fun hn => ?_⟩
  obtain ⟨g, cap, hv, _, hlt⟩ := h.form hn
  have hA : A = some ⟨g, 0, none⟩ := by injection hv
  subst hA
  exact ⟨_, rfl, hlt, h.cells (g := g) rfl⟩
/-- The address of an element that is there. -/
theorem Rd.some_ (h : Rd w B sz A n xs) {k : Nat} (hk : k < n) : ∃ ad, A = some ad ∧ ad.block < B ∧ ∀ j u, xs[j]? = some u → w.cell? (ad.add j) = some u := h.2 (by omega)
theorem Rd.get1 (h : Rd w B 1 A n xs) {k : Nat} (hk : k < n) : ∃ ad u, A = some ad ∧ ad.block < B ∧ xs[k]? = some u ∧ w.cell? (ad.add k) = some u := by
  obtain ⟨ad, e, hb, hc⟩ := h.2 (by omega)
  have hl : k < xs.length := by have := h.1; omega
  exact ⟨ad, xs[k], e, hb, List.getElem?_eq_getElem hl, hc k _ (List.getElem?_eq_getElem hl)⟩
end

/-- What lies below a box that the call laid at its head lies below the call. -/
theorem below_box {w w' : World} {o : Obj} {k : Nat} (h : Below (w.heap.size + k) (w.alloc o) w') : Below w.heap.size w w' :=
  ((Below.refl _ _).alloc (Nat.le_refl _) o).trans (h.mono (by omega))
/-- A call of a function value of function f comes to f's body. -/
theorem enters {P : Program} {f : FuncId} {fn : Func} {c : Code} (hf : P.funcs[f]? = some fn) (hn : (fn.name == "runtime.NumGoroutine") = false) (hb : fn.body = some c) (args : Array Value) (w : World) :
    (callFunc f args).run P w = .ok (.enter f args) w := by
  have h1 : fn.name ≠ "runtime.NumGoroutine" := by simpa using hn
  simp [callFunc, hf, h1, hb, mark]
theorem below_drewN {B : Nat} {a w : World} (h : Below B a w) (n : Nat) : Below B a (w.drewN n) := ⟨h.os, h.tape, h.output, h.size, h.block⟩
theorem ret_bool {a b : Bool} (h : a = b) : Ending.returned (.bool a) = .returned (.bool b) := by rw [h]
theorem ret_i64 {a b : Int} (h : a = b) : Ending.returned (.int .i64 a) = .returned (.int .i64 b) := by rw [h]

/-- Three cells of an element, as a load of a struct of three asks for them. -/
theorem Rd.row3 {w : World} {B n : Nat} {A : Option Addr} {xs : List Value} (h : Rd w B 3 A n xs) {k : Nat} (hk : k < n) {x0 x1 x2 : Value}
    (h0 : xs[k * 3]? = some x0) (h1 : xs[k * 3 + 1]? = some x1) (h2 : xs[k * 3 + 2]? = some x2) :
    ∃ ad, A = some ad ∧ ad.block < B ∧ w.cell? (ad.add (k * 3)) = some x0 ∧ w.cell? ⟨(ad.add (k * 3)).block, (ad.add (k * 3)).off + 1, none⟩ = some x1 ∧ w.cell? ⟨(ad.add (k * 3)).block, (ad.add (k * 3)).off + 2, none⟩ = some x2 := by
  obtain ⟨ad, e, hb, hc⟩ := h.2 (by omega)
  refine ⟨ad, e, hb, hc _ _ h0, ?_, ?_⟩
  · exact (congrArg w.cell? (add_add' ad (k * 3) 1)).trans (hc _ _ h1)
  · exact (congrArg w.cell? (add_add' ad (k * 3) 2)).trans (hc _ _ h2)

/-- Integers as cells. -/
def ints (zs : List Int) : List Value := zs.map (Value.int .i64)
/-- A word as a cell. -/
def w64 (x : BitVec 64) : Value := .int .u64 (x.toNat : Int)
def w64s (xs : List (BitVec 64)) : List Value := xs.map w64
def bools (bs : List Bool) : List Value := bs.map Value.bool
@[simp] theorem ints_length (zs : List Int) : (ints zs).length = zs.length := by simp [ints]
theorem ints_get (zs : List Int) (k : Nat) (h : k < zs.length) : (ints zs)[k]? = some (.int .i64 (zs.getD k 0)) := by
  simp [ints, List.getElem?_map, List.getElem?_eq_getElem h, List.getD_eq_getElem?_getD]
theorem Rd.int {w : World} {B n : Nat} {A : Option Addr} {zs : List Int} (h : Rd w B 1 A n (ints zs)) {k : Nat} (hk : k < n) :
    ∃ ad, A = some ad ∧ ad.block < B ∧ w.cell? (ad.add k) = some (.int .i64 (zs.getD k 0)) := by
  obtain ⟨ad, u, e, hb, hu, hc⟩ := h.get1 hk
  have hl : k < zs.length := by have := h.1; simp at this; omega
  rw [ints_get zs k hl] at hu
  injection hu with hu
  exact ⟨ad, e, hb, by rw [hc, hu]⟩
/-- Block g is just the cells xs of element type T, none of them frozen. -/
def Row (w : World) (g : Nat) (T : TypeId) (xs : List Value) : Prop := w.heap[g]? = some (.cells xs.toArray T (0, 0))
section
variable {w w' : World} {g : Nat} {T : TypeId} {xs : List Value}
theorem Row.lt (h : Row w g T xs) : g < w.heap.size := by
  rcases Nat.lt_or_ge g w.heap.size with hl | hge
  · exact hl
  · unfold Row at h; rw [Array.getElem?_eq_none hge] at h; cases h
theorem Row.cell (h : Row w g T xs) (i : Nat) : w.cell? ⟨g, i, none⟩ = xs[i]? := by
  rw [cell_of_row w g i xs.toArray T (0, 0) h]; simp
theorem Row.frozen (h : Row w g T xs) (i : Nat) : w.frozen? ⟨g, i, none⟩ = false := by
  unfold Row at h
  simp [World.frozen?, h]
theorem Row.new (w : World) (T : TypeId) (xs : List Value) : Row (w.alloc (.cells xs.toArray T)) w.heap.size T xs := heap_alloc_new w _
theorem Row.drew (h : Row w g T xs) : Row w.drew g T xs := h
theorem Row.drewN (h : Row w g T xs) (n : Nat) : Row (w.drewN n) g T xs := h
theorem Row.alloc (h : Row w g T xs) (o : Obj) : Row (w.alloc o) g T xs := (Below.heap_alloc w o g h.lt).trans h
theorem Row.set (h : Row w g T xs) (i : Nat) (u : Value) : Row (w.setCell ⟨g, i, none⟩ u) g T (xs.set i u) := by
  unfold Row at h ⊢
  simp [World.setCell, Array.getElem?_modify, h]
theorem Row.far (h : Row w g T xs) {p : Addr} (hp : g ≠ p.block) (u : Value) : Row (w.setCell p u) g T xs := (Below.heap_setCell w p u g hp).trans h
theorem Row.below {B : Nat} (h : Row w g T xs) (hb : Below B w w') (hg : g < B) : Row w' g T xs := (hb.block g hg).trans h
theorem Row.grown {row : Option Nat} (h : Row w g T xs) (hb : w.grownBy w' row) (hg : some g ≠ row) : Row w' g T xs := (hb.block g h.lt hg).trans h
theorem add_zero_off (g j : Nat) : (⟨g, 0, none⟩ : Addr).add j = ⟨g, j, none⟩ := by
  unfold Addr.add
  split
  · rename_i h; rw [h]
  · simp
theorem Row.rd (h : Row w g T xs) {sz n : Nat} (hn : xs.length = n * sz) : Rd w w.heap.size sz (some ⟨g, 0, none⟩) n xs :=
  ⟨hn, fun _ => ⟨_, rfl, h.lt, fun j u hu => by rw [add_zero_off, h.cell]; exact hu⟩⟩
theorem Row.own (h : Row w g T xs) {base sz n : Nat} (hb : base ≤ g) (hn : xs.length = n * sz) (hm : n ≤ maxLen) : w.ownsRow base T sz (.slice (some ⟨g, 0, none⟩) n n) n xs :=
  ⟨hn, .inr ⟨g, n, xs.toArray, rfl, hb, h, Nat.le_refl _, hm, by simpa using hn, by simp [← hn]⟩⟩
end

/-- A new row of n like cells. -/
def likeRow (z : Value) (n : Nat) : Array Value := (List.replicate n z).toArray
theorem madeCells_one (z : Value) (n : Nat) : madeCells #[z] n = likeRow z n := by
  apply Array.ext
  · simp [madeCells, likeRow]
  · intro i h1 h2
    simp [madeCells, likeRow, Nat.mod_one]
/-- make of n elements of one cell each, the size reckoned as x. -/
theorem make_like {P : Program} {t e : TypeId} {z : Value} {bytes : Nat} (ht : P.underlying t = some (.slice e)) (hi : (P.info? e).map (fun i => (i.zero, i.size, i.bytes)) = some (some z, 1, bytes)) (hz : z.cells = #[z])
    (n : Nat) (x : Int) (hx : x = n) (hb : bytes * n ≤ 281474976710656) (hn : n ≤ 9223372036854775807) (W : World) :
    (Instr.makeSlice t (.int .i64 x) (.int .i64 x)).run P W = .ok (.slice (some ⟨W.heap.size, 0, none⟩) n n) (W.alloc (.cells (likeRow z n) e)) := by
  obtain ⟨i, h1, h2, h3, h4⟩ := info_parts hi
  subst hx
  have hb' : (i.bytes : Int) * (n : Int) ≤ 281474976710656 := by
    rw [h4, ← Int.natCast_mul]; omega
  have hr := run_make (P := P) W t e i z ht h1 h2 .i64 .i64 (n : Int) (n : Int) (by omega) (by omega) hb' (by omega)
  simp only [Int.toNat_natCast, h3, Nat.mul_one, hz, madeCells_one] at hr
  exact hr
end Go.Proofs.Ytbomfekfebamkaa

/-
  Circuits as plain data, and what the functions of package circuit and of its reference compute. Nothing of the program stands here.
-/
namespace Go.Proofs.Ytbomfekfebamkaa
open Go.RowKit
set_option linter.unusedSimpArgs false
set_option linter.unusedVariables false

structure Gt where
  op : Int
  a : Int
  b : Int
instance : Inhabited Gt := ⟨⟨0, 0, 0⟩⟩
structure Circ where
  inputs : Int
  gates : List Gt
  outs : List Int

def gtEq (x y : Gt) : Bool := x.op == y.op && (x.a == y.a && x.b == y.b)
theorem gtEq_iff (x y : Gt) : gtEq x y = true ↔ x = y := by
  cases x; cases y; simp [gtEq]
instance : DecidableEq Gt := fun x y => if h : gtEq x y = true then isTrue ((gtEq_iff x y).1 h) else isFalse (fun e => h ((gtEq_iff x y).2 e))
def gtCells (g : Gt) : List Value := [.int .i64 g.op, .int .i64 g.a, .int .i64 g.b]
def gatesCells (gs : List Gt) : List Value := gs.flatMap gtCells

theorem gatesCells_length (gs : List Gt) : (gatesCells gs).length = gs.length * 3 := by
  induction gs with
  | nil => rfl
  | cons g l ih => simp only [gatesCells, List.flatMap_cons, List.length_append, List.length_cons] at *; rw [ih]; simp [gtCells]; omega
theorem gatesCells_get (gs : List Gt) (k : Nat) (h : k < gs.length) : (gatesCells gs)[k * 3]? = some (.int .i64 (gs.getD k default).op) ∧ (gatesCells gs)[k * 3 + 1]? = some (.int .i64 (gs.getD k default).a) ∧ (gatesCells gs)[k * 3 + 2]? = some (.int .i64 (gs.getD k default).b) := by
  induction gs generalizing k with
  | nil => simp at h
  | cons g l ih =>
    cases k with
    | zero => simp [gatesCells, gtCells]
    | succ k =>
      have := ih k (by simpa using h)
      have e : (k + 1) * 3 = k * 3 + 3 := by omega
      have hh : ∀ j, (gatesCells (g :: l))[k * 3 + 3 + j]? = (gatesCells l)[k * 3 + j]? := fun j => by
        simp only [gatesCells, List.flatMap_cons]
        rw [List.getElem?_append_right (by simp [gtCells]; omega)]
        congr 1
        simp [gtCells]; omega
      rw [e]
      refine ⟨(hh 0).trans ?_, (hh 1).trans ?_, (hh 2).trans ?_⟩
      · simpa using this.1
      · simpa using this.2.1
      · simpa using this.2.2

theorem Rd.gate {w : World} {B n : Nat} {A : Option Addr} {gs : List Gt} (h : Rd w B 3 A n (gatesCells gs)) {k : Nat} (hk : k < n) :
    ∃ ad, A = some ad ∧ ad.block < B ∧ w.cell? (ad.add (k * 3)) = some (.int .i64 (gs.getD k default).op) ∧ w.cell? ⟨(ad.add (k * 3)).block, (ad.add (k * 3)).off + 1, none⟩ = some (.int .i64 (gs.getD k default).a) ∧ w.cell? ⟨(ad.add (k * 3)).block, (ad.add (k * 3)).off + 2, none⟩ = some (.int .i64 (gs.getD k default).b) := by
  have hl : k < gs.length := by have := h.1; rw [gatesCells_length] at this; omega
  obtain ⟨h0, h1, h2⟩ := gatesCells_get gs k hl
  exact h.row3 hk h0 h1 h2

def sameC (c d : Circ) : Bool := c.inputs == d.inputs && (decide (c.gates = d.gates) && decide (c.outs = d.outs))

def operandsF (op : Int) : Int := if op = 0 ∨ op = 1 then 0 else if op = 2 then 1 else if op = 3 ∨ op = 4 ∨ op = 5 then 2 else -1
theorem operandsF_bd (op : Int) : -1 ≤ operandsF op ∧ operandsF op ≤ 2 := by unfold operandsF; split <;> (try split) <;> (try split) <;> omega

/-- The closure 'wire' of circuit.Right: n operands, wire w at place k, below lim. -/
def wireOk (n w k lim : Int) : Bool := decide (n < k ∧ w = 0 ∨ k ≤ n ∧ 0 ≤ w ∧ w < lim)
def gateOk (lim : Int) (g : Gt) : Bool := decide (0 ≤ operandsF g.op) && wireOk (operandsF g.op) g.a 1 lim && wireOk (operandsF g.op) g.b 2 lim
def outOk (lim w : Int) : Bool := decide (0 ≤ w ∧ w < lim)
def gatesOk (inputs : Int) (gs : List Gt) : Bool := decide (∀ i, i < gs.length → gateOk (inputs + i) (gs.getD i default) = true)
def rightC (c : Circ) : Bool :=
  decide (0 ≤ c.inputs ∧ c.inputs ≤ 1000 ∧ c.gates.length ≤ 20000 ∧ c.outs.length ≤ 1000) && gatesOk c.inputs c.gates && c.outs.all (outOk (c.inputs + c.gates.length))
theorem right_false_gate (c : Circ) (k : Nat) (hk : k < c.gates.length) (h : gateOk (c.inputs + k) (c.gates.getD k default) = false) : rightC c = false := by
  have hg : gatesOk c.inputs c.gates = false := decide_eq_false (fun hh => by have := hh k hk; rw [h] at this; cases this)
  simp [rightC, hg]
theorem right_true_gates (c : Circ) (hs : 0 ≤ c.inputs ∧ c.inputs ≤ 1000 ∧ c.gates.length ≤ 20000 ∧ c.outs.length ≤ 1000) (h : ∀ k, k < c.gates.length → gateOk (c.inputs + k) (c.gates.getD k default) = true) :
    rightC c = c.outs.all (outOk (c.inputs + c.gates.length)) := by
  have hg : gatesOk c.inputs c.gates = true := decide_eq_true h
  simp [rightC, hg, hs]
theorem all_false_at (p : Int → Bool) (zs : List Int) (k : Nat) (hk : k < zs.length) (h : p (zs.getD k 0) = false) : zs.all p = false := by
  rw [List.all_eq_false]
  refine ⟨zs[k], List.getElem_mem hk, ?_⟩
  simp [List.getD_eq_getElem?_getD, List.getElem?_eq_getElem hk] at h
  simp [h]
theorem all_true_at (p : Int → Bool) (zs : List Int) (h : ∀ k, k < zs.length → p (zs.getD k 0) = true) : zs.all p = true := by
  rw [List.all_eq_true]
  intro x hx
  obtain ⟨j, hj, rfl⟩ := List.getElem_of_mem hx
  have := h j hj
  simpa [List.getD_eq_getElem?_getD, List.getElem?_eq_getElem hj] using this
/-- A circuit's slices as they lie in memory. -/
structure CAt (w : World) (c : Circ) (GA OA : Option Addr) (gn on : Nat) : Prop where
  gates : Rd w w.heap.size 3 GA gn (gatesCells c.gates)
  outs : Rd w w.heap.size 1 OA on (ints c.outs)
  g63 : gn ≤ maxLen
  o63 : on ≤ maxLen
theorem CAt.up {w w' : World} {c : Circ} {GA OA : Option Addr} {gn on : Nat} (h : CAt w c GA OA gn on) (hb : Below w.heap.size w w') : CAt w' c GA OA gn on :=
  ⟨h.gates.up hb, h.outs.up hb, h.g63, h.o63⟩
theorem CAt.gl {w : World} {c : Circ} {GA OA : Option Addr} {gn on : Nat} (h : CAt w c GA OA gn on) : c.gates.length = gn := by have := h.gates.1; rw [gatesCells_length] at this; omega
theorem CAt.ol {w : World} {c : Circ} {GA OA : Option Addr} {gn on : Nat} (h : CAt w c GA OA gn on) : c.outs.length = on := by have := h.outs.1; simp at this; omega
def okC (c : Circ) (n : Nat) : Bool := rightC c && decide ((n : Int) = c.inputs)
theorem outOk_at {lim : Int} {os : List Int} (h : os.all (outOk lim) = true) {k : Nat} (hk : k < os.length) : 0 ≤ os.getD k 0 ∧ os.getD k 0 < lim := by
  rw [List.all_eq_true] at h
  have := h _ (List.getElem_mem hk)
  rw [List.getD_eq_getElem?_getD, List.getElem?_eq_getElem hk]
  simpa [outOk] using this
end Go.Proofs.Ytbomfekfebamkaa

/-
  append onto a row that the call owns, from whatever source (nil, empty or not), as one law for plain regions and one for regions that draw their order. Any program.
-/
namespace Go.Proofs.Ytbomfekfebamkaa
open Go.RowKit
set_option linter.unusedSimpArgs false
set_option linter.unusedVariables false

theorem run_app_empty {P : Program} {w : World} {base : Nat} {t ty e : TypeId} {i : TypeInfo} {size : Nat} (ht : P.underlying t = some (.slice e)) (hi : P.info? e = some i)
    {v : Value} {n : Nat} {xs : List Value} (hown : w.ownsRow base e size v n xs) (c : Nat) : (Builtin.append_ #[t, t] ty #[v, .slice none 0 c]).run P w = .ok v w := by
  rcases hown.2 with ⟨rfl, rfl⟩ | ⟨g, cap, cur, rfl, _, _, hnc, _⟩
  · simp [Builtin.append_, run_underlying ht, sizeOf, typeInfo, hi, Builtin.lenOf, Builtin.firstCells]
  · simp [Builtin.append_, run_underlying ht, sizeOf, typeInfo, hi, Builtin.lenOf, Builtin.firstCells, hnc, storeCells]

theorem run_app {P : Program} {w : World} {base : Nat} {t ty e : TypeId} {z : Value} {size bytes : Nat} (ht : P.underlying t = some (.slice e)) (hi : (P.info? e).map (fun i => (i.zero, i.size, i.bytes)) = some (some z, size, bytes))
    (hzs : z.cells.size = size) (hsz : 0 < size) (hb1 : 1 ≤ bytes) {v : Value} {n : Nat} {xs : List Value} (hown : w.ownsRow base e size v n xs)
    {B : Nat} {A : Option Addr} {m c : Nat} {news : List Value} (hr : Rd w B size A m news) (h1 : ∀ u ∈ news, u.oneCell' = true) (hbytes : (n + m) * bytes ≤ 140737488355328) (hbase : base ≤ w.heap.size) :
    ∃ v' w', (Builtin.append_ #[t, t] ty #[v, .slice A m c]).run P w = .ok v' w' ∧ w'.ownsRow base e size v' (n + m) (xs ++ news) ∧ w.grownBy w' v.ownBlock ∧ (v'.ownBlock = v.ownBlock ∨ v'.ownBlock = some w.heap.size) := by
  obtain ⟨i, g1, g2, g3, g4⟩ := info_parts hi
  have h63 : n + m ≤ maxLen := by
    have : n + m ≤ (n + m) * bytes := Nat.le_mul_of_pos_right _ hb1
    unfold maxLen; omega
  have key : ∀ ad : Addr, A = some ad → (∀ j u, news[j]? = some u → w.cell? (ad.add j) = some u) →
      ∃ v' w', (Builtin.append_ #[t, t] ty #[v, .slice A m c]).run P w = .ok v' w' ∧ w'.ownsRow base e size v' (n + m) (xs ++ news) ∧ w.grownBy w' v.ownBlock ∧ (v'.ownBlock = v.ownBlock ∨ v'.ownBlock = some w.heap.size) := fun ad e hc => by
    subst e
    obtain ⟨v', w', hrun, h2, h3, _, h5⟩ := run_append_own_at (P := P) w base t ty e i z size bytes ht g1 g2 g3 g4 hzs hsz v n xs hown ad m c news hr.1 hc h1 h63 hbytes hbase
    exact ⟨v', w', hrun, h2, h3, h5⟩
  rcases Nat.eq_zero_or_pos m with h0 | h0
  · subst h0
    have hn : news = [] := List.eq_nil_of_length_eq_zero (by simpa using hr.1)
    subst hn
    cases A with
    | none => exact ⟨v, w, run_app_empty ht g1 hown c, by simpa using hown, World.grownBy.refl w _, .inl rfl⟩
    | some ad =>
      exact key ad rfl (by simp)
  · obtain ⟨ad, e, _, hc⟩ := hr.2 h0
    exact key ad e hc

section
variable {P : Program} {w : World} {o : Oper} {a : Act} {Q : Exit → Act → World → Prop}
theorem wp_app {K : Act → World → Prop} (s x : Operand) (t : TypeId) (ho : o.op = .call { callee := .builtin .append, args := #[s, x], argTypes := #[t, t] })
    (base : Nat) (e : TypeId) (z : Value) (size bytes : Nat) (ht : P.underlying t = some (.slice e)) (hi : (P.info? e).map (fun i => (i.zero, i.size, i.bytes)) = some (some z, size, bytes))
    (hzs : z.cells.size = size) (hsz : 0 < size) (hb1 : 1 ≤ bytes) (v : Value) (n : Nat) (xs : List Value) (hs : a.eval s = v) (hown : w.ownsRow base e size v n xs)
    (B : Nat) (A : Option Addr) (m c : Nat) (news : List Value) (hx : a.eval x = .slice A m c) (hr : Rd w B size A m news) (h1 : ∀ u ∈ news, u.oneCell' = true) (hbytes : (n + m) * bytes ≤ 140737488355328) (hbase : base ≤ w.heap.size)
    (h : ∀ v' w', w'.ownsRow base e size v' (n + m) (xs ++ news) → w.grownBy w' v.ownBlock → (v'.ownBlock = v.ownBlock ∨ v'.ownBlock = some w.heap.size) → K (a.put o.dst v') w') : o.wp P a w K Q := by
  obtain ⟨v', w', hrun, h2, h3, h4⟩ := run_app (P := P) (ty := o.type) (c := c) ht hi hzs hsz hb1 hown hr h1 hbytes hbase
  unfold Oper.wp execOp
  simp only [ho, resolve, invoke, builtin, Sem.run_bind, Sem.run_pure, Result.andThen_ok, List.map_toArray, List.map_cons, List.map_nil, hs, hx, hrun]
  exact h v' w' h2 h3 h4

theorem wpList_app {ops : Array Oper} {rest : List Oper} (hgd : o.guard = none) (s x : Operand) (t : TypeId) (ho : o.op = .call { callee := .builtin .append, args := #[s, x], argTypes := #[t, t] })
    (base : Nat) (e : TypeId) (z : Value) (size bytes : Nat) (ht : P.underlying t = some (.slice e)) (hi : (P.info? e).map (fun i => (i.zero, i.size, i.bytes)) = some (some z, size, bytes))
    (hzs : z.cells.size = size) (hsz : 0 < size) (hb1 : 1 ≤ bytes) (v : Value) (n : Nat) (xs : List Value) (hs : a.eval s = v) (hown : w.ownsRow base e size v n xs)
    (B : Nat) (A : Option Addr) (m c : Nat) (news : List Value) (hx : a.eval x = .slice A m c) (hr : Rd w B size A m news) (h1 : ∀ u ∈ news, u.oneCell' = true) (hbytes : (n + m) * bytes ≤ 140737488355328) (hbase : base ≤ w.heap.size)
    (h : ∀ v' w', w'.ownsRow base e size v' (n + m) (xs ++ news) → w.grownBy w' v.ownBlock → (v'.ownBlock = v.ownBlock ∨ v'.ownBlock = some w.heap.size) → wpList P ops Q rest (a.put o.dst v') w') : wpList P ops Q (o :: rest) a w :=
  wpList_plain hgd fun _ hK => wp_app s x t ho base e z size bytes ht hi hzs hsz hb1 v n xs hs hown B A m c news hx hr h1 hbytes hbase fun v' w' h2 h3 h4 => hK _ _ (h v' w' h2 h3 h4)

theorem step_app {ops : Array Oper} {K : Act → World → Prop} {E : Prop} (hgd : o.guard = none) (s x : Operand) (t : TypeId) (ho : o.op = .call { callee := .builtin .append, args := #[s, x], argTypes := #[t, t] })
    (base : Nat) (e : TypeId) (z : Value) (size bytes : Nat) (ht : P.underlying t = some (.slice e)) (hi : (P.info? e).map (fun i => (i.zero, i.size, i.bytes)) = some (some z, size, bytes))
    (hzs : z.cells.size = size) (hsz : 0 < size) (hb1 : 1 ≤ bytes) (v : Value) (n : Nat) (xs : List Value) (hs : a.eval s = v) (hown : w.ownsRow base e size v n xs)
    (B : Nat) (A : Option Addr) (m c : Nat) (news : List Value) (hx : a.eval x = .slice A m c) (hr : Rd w B size A m news) (h1 : ∀ u ∈ news, u.oneCell' = true) (hbytes : (n + m) * bytes ≤ 140737488355328) (hbase : base ≤ w.heap.size)
    (h : ∀ v' w', w'.ownsRow base e size v' (n + m) (xs ++ news) → w.grownBy w' v.ownBlock → (v'.ownBlock = v.ownBlock ∨ v'.ownBlock = some w.heap.size) → K (a.put o.dst v') w') :
    if Region.wanted o (yielded ops a.tmps) = true then Oper.wp P o a w K Q else E := by
  have hw : Region.wanted o (yielded ops a.tmps) = true := by simp [Region.wanted, hgd]
  rw [if_pos hw]
  exact wp_app s x t ho base e z size bytes ht hi hzs hsz hb1 v n xs hs hown B A m c news hx hr h1 hbytes hbase h
end

/-- A literal's own block, just laid. -/
theorem Rd.lit (w : World) (cs : Array Value) (T : TypeId) {sz m : Nat} (h : cs.size = m * sz) : Rd (w.alloc (.cells cs T)) (w.heap.size + 1) sz (some ⟨w.heap.size, 0, none⟩) m cs.toList :=
  ⟨by simpa using h, fun _ => ⟨_, rfl, Nat.lt_succ_self _, fun j u hu => by
    rw [add_zero_off, World.cell?_alloc_new]; simpa using hu⟩⟩
theorem own_far {w : World} {base : Nat} {e : TypeId} {sz n : Nat} {v : Value} {xs : List Value} (h : w.ownsRow base e sz v n xs) {p : Addr} (hp : v.ownBlock ≠ some p.block) (u : Value) : (w.setCell p u).ownsRow base e sz v n xs := by
  refine ⟨h.1, ?_⟩
  rcases h.2 with hn | ⟨g, cap, cur, rfl, hb, hg, rest⟩
  · exact .inl hn
  · exact .inr ⟨g, cap, cur, rfl, hb, by rw [Below.heap_setCell _ _ _ _ (fun e => hp (by simp [Value.ownBlock, e]))]; exact hg, rest⟩
theorem own_ne_row {w : World} {base : Nat} {e T : TypeId} {sz n g : Nat} {v : Value} {xs cs : List Value} (h : w.ownsRow base e sz v n xs) (hr : Row w g T cs) (hne : e ≠ T) : v.ownBlock ≠ some g := by
  rcases h.2 with ⟨rfl, _⟩ | ⟨g', cap, cur, rfl, _, hg, _⟩
  · simp [Value.ownBlock]
  · intro he
    obtain rfl : g' = g := by simpa [Value.ownBlock] using he
    unfold Row at hr
    rw [hg] at hr
    injection hr with hr
    injection hr with _ ht
    exact hne ht
theorem own_ne_own {w : World} {b b' : Nat} {e e' : TypeId} {sz sz' n n' : Nat} {v v' : Value} {xs xs' : List Value} (h : w.ownsRow b e sz v n xs) (h' : w.ownsRow b' e' sz' v' n' xs') (hne : e ≠ e') : v.ownBlock = none ∨ v.ownBlock ≠ v'.ownBlock := by
  rcases h.2 with ⟨rfl, _⟩ | ⟨g, cap, cur, rfl, _, hg, _⟩
  · exact .inl rfl
  · refine .inr ?_
    rcases h'.2 with ⟨rfl, _⟩ | ⟨g', cap', cur', rfl, _, hg', _⟩
    · simp [Value.ownBlock]
    · intro he
      obtain rfl : g = g' := by simpa [Value.ownBlock] using he
      rw [hg] at hg'
      injection hg' with hg'
      injection hg' with _ ht
      exact hne ht
theorem own_base {w : World} {base base' : Nat} {e : TypeId} {sz n : Nat} {v : Value} {xs : List Value} (h : w.ownsRow base e sz v n xs) (hb : base' ≤ base) : w.ownsRow base' e sz v n xs :=
  ⟨h.1, h.2.imp id (fun ⟨g, cap, cur, a, b, c⟩ => ⟨g, cap, cur, a, Nat.le_trans hb b, c⟩)⟩
theorem own_below {w w' : World} {base B : Nat} {e : TypeId} {sz n : Nat} {v : Value} {xs : List Value} (h : w.ownsRow base e sz v n xs) (hb : Below B w w') (hB : w.heap.size ≤ B) : w'.ownsRow base e sz v n xs := by
  refine ⟨h.1, ?_⟩
  rcases h.2 with hn | ⟨g, cap, cur, rfl, hbb, hg, rest⟩
  · exact .inl hn
  · have hlt : g < w.heap.size := (h.lt g rfl).2
    exact .inr ⟨g, cap, cur, rfl, hbb, by rw [hb.block g (by omega)]; exact hg, rest⟩
/-- An owned row reads. -/
theorem Rd.own {w : World} {base : Nat} {e : TypeId} {sz n : Nat} {v : Value} {xs : List Value} (h : w.ownsRow base e sz v n xs) : ∃ A c, v = .slice A n c ∧ Rd w w.heap.size sz A n xs := by
  rcases h.2 with ⟨rfl, rfl⟩ | ⟨g, cap, cur, rfl, hb, hg, hc⟩
  · refine ⟨none, 0, rfl, ?_⟩
    have : xs = [] := List.eq_nil_of_length_eq_zero (by simpa using h.1)
    rw [this]; exact Rd.empty none
  · exact ⟨_, _, rfl, Rd.of_own h⟩
@[simp] theorem bools_length (bs : List Bool) : (bools bs).length = bs.length := by simp [bools]
theorem bools_get (bs : List Bool) (k : Nat) (h : k < bs.length) : (bools bs)[k]? = some (.bool (bs.getD k false)) := by
  simp [bools, List.getElem?_map, List.getElem?_eq_getElem h, List.getD_eq_getElem?_getD]
theorem Rd.bool {w : World} {B n : Nat} {A : Option Addr} {bs : List Bool} (h : Rd w B 1 A n (bools bs)) {k : Nat} (hk : k < n) :
    ∃ ad, A = some ad ∧ ad.block < B ∧ w.cell? (ad.add k) = some (.bool (bs.getD k false)) := by
  obtain ⟨ad, u, e, hb, hu, hc⟩ := h.get1 hk
  have hl : k < bs.length := by have := h.1; simp at this; omega
  rw [bools_get bs k hl] at hu
  injection hu with hu
  exact ⟨ad, e, hb, by rw [hc, hu]⟩
theorem w64s_get (bs : List (BitVec 64)) (k : Nat) (h : k < bs.length) : (w64s bs)[k]? = some (w64 (bs.getD k 0)) := by
  simp [w64s, List.getElem?_map, List.getElem?_eq_getElem h, List.getD_eq_getElem?_getD]
theorem Rd.word {w : World} {B n : Nat} {A : Option Addr} {bs : List (BitVec 64)} (h : Rd w B 1 A n (w64s bs)) {k : Nat} (hk : k < n) :
    ∃ ad, A = some ad ∧ ad.block < B ∧ w.cell? (ad.add k) = some (w64 (bs.getD k 0)) := by
  obtain ⟨ad, u, e, hb, hu, hc⟩ := h.get1 hk
  have hl : k < bs.length := by have := h.1; simp [w64s] at this; omega
  rw [w64s_get bs k hl] at hu
  injection hu with hu
  exact ⟨ad, e, hb, by rw [hc, hu]⟩
theorem bools_one (bs : List Bool) : ∀ u ∈ bools bs, u.oneCell' = true := by
  intro u hu
  simp only [bools, List.mem_map] at hu
  obtain ⟨x, _, rfl⟩ := hu
  rfl
theorem ints_one (zs : List Int) : ∀ u ∈ ints zs, u.oneCell' = true := by
  intro u hu
  simp only [ints, List.mem_map] at hu
  obtain ⟨x, _, rfl⟩ := hu
  rfl
theorem w64s_one (zs : List (BitVec 64)) : ∀ u ∈ w64s zs, u.oneCell' = true := by
  intro u hu
  simp only [w64s, List.mem_map] at hu
  obtain ⟨x, _, rfl⟩ := hu
  rfl
end Go.Proofs.Ytbomfekfebamkaa

/-
  What an argument's reading says of memory: slices of integers, words, Bools, and of structs of three integers. And the end of a law's row: true, all as it was. Any program.
-/
namespace Go.Proofs.Ytbomfekfebamkaa
open Go.RowKit Go.ChangeShapes Go.WideShapes Go.Deep Go.Joins
set_option linter.unusedSimpArgs false
set_option linter.unusedVariables false

section
variable {H : Type} {enc : TypeId × Value → H} {P : Program} {w : World} {base : Nat} {spare : Nat → Bool} {held : Bool}

theorem rd_of_cells {sz n : Nat} {ad : Addr} {xs : List Value} (hl : xs.length = n * sz) (h : ∀ j u, xs[j]? = some u → w.cell? (ad.add j) = some u) (h0 : 0 < sz) : Rd w w.heap.size sz (some ad) n xs :=
  ⟨hl, fun hn => ⟨ad, rfl, by
    have hp : 0 < xs.length := by rw [hl]; exact Nat.mul_pos hn h0
    have := World.block_lt_of_cell? w _ (h 0 xs[0] (List.getElem?_eq_getElem hp))
    rwa [add_block] at this, h⟩⟩

theorem read_ints {t e : TypeId} {fuel : Nat} {v : Value} {x : DataW H × List MemPlace} (ht : P.underlying t = some (.slice e)) (he : P.underlying e = some (.int .i64)) (hc : P.cellsOf e = 1)
    (h : DataW.trod enc P w base spare held fuel t [v] = some x) : ∃ A n c zs, v = .slice A n c ∧ Rd w w.heap.size 1 A n (ints zs) ∧ n ≤ maxLen ∧ (∀ z ∈ zs, -9223372036854775808 ≤ z ∧ z ≤ 9223372036854775807) := by
  rcases open_ints ht he hc h with ⟨hcs, _⟩ | ⟨a, len, cap, zs, hcs, _, hl, hm, hz, _, hcell, hwf⟩
  · injection hcs with hcs
    exact ⟨none, 0, 0, [], hcs, Rd.empty none, by unfold maxLen; omega, by simp⟩
  · injection hcs with hcs
    have hln : len ≤ zs.length := by rw [hz]; split <;> omega
    refine ⟨some a, len, cap, zs.take len, hcs, rd_of_cells (by simp; omega) (fun j u hu => ?_) (by omega), by omega, fun z hz => ?_⟩
    · have hj : j < len := by
        have := (List.getElem?_eq_some_iff.1 hu).1
        simp at this; omega
      rw [ints_get _ j (by simp; omega)] at hu
      injection hu with hu
      rw [hcell j (by omega), ← hu]
      simp [List.getD_eq_getElem?_getD, List.getElem?_take, hj]
    · have := hwf z (List.mem_of_mem_take hz)
      simpa [Lit.wf, IntKind.min, IntKind.max, IntKind.signed, IntKind.bits] using this

theorem read_words {t e : TypeId} {fuel : Nat} {v : Value} {x : DataW H × List MemPlace} (ht : P.underlying t = some (.slice e)) (he : P.underlying e = some (.int .u64)) (hc : P.cellsOf e = 1)
    (h : DataW.trod enc P w base spare held fuel t [v] = some x) : ∃ A n c zs, v = .slice A n c ∧ Rd w w.heap.size 1 A n (w64s zs) ∧ n ≤ maxLen := by
  rcases open_ints ht he hc h with ⟨hcs, _⟩ | ⟨a, len, cap, zs, hcs, _, hl, hm, hz, _, hcell, hwf⟩
  · injection hcs with hcs
    exact ⟨none, 0, 0, [], hcs, Rd.empty none, by unfold maxLen; omega⟩
  · injection hcs with hcs
    have hln : len ≤ zs.length := by rw [hz]; split <;> omega
    refine ⟨some a, len, cap, (zs.take len).map (fun z => BitVec.ofNat 64 z.toNat), hcs, rd_of_cells (by simp [w64s]; omega) (fun j u hu => ?_) (by omega), by omega⟩
    have hj : j < len := by
      have := (List.getElem?_eq_some_iff.1 hu).1
      simp [w64s] at this; omega
    rw [w64s_get _ j (by simp; omega)] at hu
    injection hu with hu
    rw [hcell j (by omega), ← hu]
    have hb := hwf (zs.getD j 0) (by rw [List.getD_eq_getElem?_getD, List.getElem?_eq_getElem (by omega)]; exact List.getElem_mem _)
    have e1 : ((zs.take len).map (fun z => BitVec.ofNat 64 z.toNat)).getD j 0 = BitVec.ofNat 64 (zs.getD j 0).toNat := by
      simp [List.getD_eq_getElem?_getD, List.getElem?_map, List.getElem?_take, hj, List.getElem?_eq_getElem (show j < zs.length by omega)]
    rw [e1]
    generalize zs.getD j 0 = z at hb
    simp only [Lit.wf, IntKind.min, IntKind.max, IntKind.signed, IntKind.bits] at hb
    simp at hb
    rw [w64, BitVec.toNat_ofNat, Nat.mod_eq_of_lt (by omega)]
    congr 2
    omega

theorem read_bools {t e : TypeId} {fuel : Nat} {v : Value} {x : DataW H × List MemPlace} (ht : P.underlying t = some (.slice e)) (he : P.underlying e = some .bool) (hc : P.cellsOf e = 1)
    (h : DataW.trod enc P w base spare held fuel t [v] = some x) : ∃ A n c bs, v = .slice A n c ∧ Rd w w.heap.size 1 A n (bools bs) ∧ n ≤ maxLen := by
  rcases open_slice1 ht hc h with ⟨hcs, _⟩ | ⟨a, len, cap, m, n, V, D, Pl, hcs, _, hl, hm, hmm, _, hx⟩
  · injection hcs with hcs
    exact ⟨none, 0, 0, [], hcs, Rd.empty none, by unfold maxLen; omega⟩
  · injection hcs with hcs
    have hln : len ≤ m := by rw [hmm]; split <;> omega
    have hV : ∀ i, i < m → ∃ b, V i = .bool b := fun i hi => by
      obtain ⟨b, hb, _⟩ := DataW.trod_bool he (hx i hi).2
      injection hb with hb
      exact ⟨b, hb⟩
    refine ⟨some a, len, cap, (List.range len).map (fun i => match V i with | .bool b => b | _ => false), hcs, rd_of_cells (by simp) (fun j u hu => ?_) (by omega), by omega⟩
    have hj : j < len := by
      have := (List.getElem?_eq_some_iff.1 hu).1
      simp at this; omega
    obtain ⟨b, hb⟩ := hV j (by omega)
    rw [(hx j (by omega)).1, ← hu, hb]
    simp [bools, List.getElem?_map, List.getElem?_range hj, hb]

/-- A slice of structs of three integers. -/
theorem read_gates {t e e1 : TypeId} {f0 f1 f2 : Field} {fuel : Nat} {v : Value} {x : DataW H × List MemPlace} (ht : P.underlying t = some (.slice e)) (he : P.underlying e = some (.struct #[f0, f1, f2])) (hC : P.cellsOf e = 3)
    (h0 : f0.type = e1 ∧ f0.offset = 0) (h1 : f1.type = e1 ∧ f1.offset = 1) (h2 : f2.type = e1 ∧ f2.offset = 2) (hi : P.underlying e1 = some (.int .i64)) (hc : P.cellsOf e1 = 1)
    (h : DataW.trod enc P w base spare held fuel t [v] = some x) : ∃ A n c gs, v = .slice A n c ∧ Rd w w.heap.size 3 A n (gatesCells gs) ∧ n ≤ maxLen := by
  rcases open_slice ht h with ⟨hcs, _⟩ | ⟨a, len, cap, m, n, D, Pl, hcs, _, hl, hm, hmm, _, hx⟩
  · injection hcs with hcs
    exact ⟨none, 0, 0, [], hcs, Rd.empty none, by unfold maxLen; omega⟩
  · injection hcs with hcs
    have hln : len ≤ m := by rw [hmm]; split <;> omega
    have hV : ∀ i, i < m → ∃ g : Gt, w.cell? (a.add (i * 3)) = some (.int .i64 g.op) ∧ w.cell? (a.add (i * 3 + 1)) = some (.int .i64 g.a) ∧ w.cell? (a.add (i * 3 + 2)) = some (.int .i64 g.b) := fun i hi' => by
      obtain ⟨cs', hcells, ht'⟩ := hx i hi'
      rw [hC] at hcells
      obtain ⟨_, hlen, hat⟩ := World.cells?_some hcells
      obtain ⟨y0, y1, y2, n', _, _, t0, t1, t2⟩ := trod_struct3 he ht'
      match cs', hlen with
      | [c0, c1, c2], _ =>
        rw [h0.1, h0.2, hc] at t0
        rw [h1.1, h1.2, hc] at t1
        rw [h2.1, h2.2, hc] at t2
        simp only [List.drop_zero, List.drop_succ_cons, List.take_succ_cons, List.take_zero] at t0 t1 t2
        obtain ⟨z0, e0, _⟩ := DataW.trod_int hi t0
        obtain ⟨z1, e1, _⟩ := DataW.trod_int hi t1
        obtain ⟨z2, e2, _⟩ := DataW.trod_int hi t2
        injection e0 with e0
        injection e1 with e1
        injection e2 with e2
        have q0 := hat 0 (by omega)
        have q1 := hat 1 (by omega)
        have q2 := hat 2 (by omega)
        rw [add_add'] at q0 q1 q2
        refine ⟨⟨z0, z1, z2⟩, ?_, ?_, ?_⟩
        · simpa [e0] using q0
        · simpa [e1] using q1
        · simpa [e2] using q2
    obtain ⟨G, hG⟩ := choose_lt (α := Gt) (p := fun i g => w.cell? (a.add (i * 3)) = some (.int .i64 g.op) ∧ w.cell? (a.add (i * 3 + 1)) = some (.int .i64 g.a) ∧ w.cell? (a.add (i * 3 + 2)) = some (.int .i64 g.b)) hV
    refine ⟨some a, len, cap, (List.range len).map G, hcs, rd_of_cells (by rw [gatesCells_length]; simp) (fun j u hu => ?_) (by omega), by omega⟩
    have hj : j < len * 3 := by
      have := (List.getElem?_eq_some_iff.1 hu).1
      rw [gatesCells_length] at this; simpa using this
    have hk : j / 3 < len := by omega
    obtain ⟨p0, p1, p2⟩ := gatesCells_get ((List.range len).map G) (j / 3) (by simpa using hk)
    have hg : ((List.range len).map G).getD (j / 3) default = G (j / 3) := by
      simp [List.getD_eq_getElem?_getD, List.getElem?_map, List.getElem?_range hk]
    rw [hg] at p0 p1 p2
    obtain ⟨r0, r1, r2⟩ := hG (j / 3) (by omega)
    have hj3 : j = j / 3 * 3 ∨ j = j / 3 * 3 + 1 ∨ j = j / 3 * 3 + 2 := by omega
    rcases hj3 with e | e | e
    · rw [← e] at p0 r0; rw [r0, ← p0, hu]
    · rw [← e] at p1 r1; rw [r1, ← p1, hu]
    · rw [← e] at p2 r2; rw [r2, ← p2, hu]

end

/-- The end of a law's row where nothing that was there has turned. -/
theorem law_post {H : Type} {enc : TypeId × Value → H} {P : Program} {f : Func} {s : ChangeSpec} {apart fresh handsOn : Bool} {W W' : World} {args : Array Value} {v : Value} {ds gs : List (DataW H)} {before pa pv : List MemPlace}
    (hW : DataW.Whole enc P f.params.toList s.vars apart W args.toList ds gs before)
    (hres : ∀ (b : Nat) (sp : Nat → Bool) (hd : Bool), DataW.TrodAll enc P W' b sp hd f.resultTypes.toList (v.resultList f.resultTypes.size) (s.fn H (ds ++ gs)).results [])
    (hargs : DataW.TrodAll enc P W' 0 (fun b => decide (b < W.heap.size)) true f.params.toList args.toList (s.fn H (ds ++ gs)).args pa)
    (hvars : DataW.TrodVars enc P W' (fun b => decide (b < W.heap.size)) s.vars (s.fn H (ds ++ gs)).vars pv) (hb : Below W.heap.size W W') :
    s.post enc P f apart fresh handsOn false W args v W' :=
  ⟨ds, gs, before, [], pa, pv, hW, hres _ _ _, hargs, hvars, hb.frame _, fun h => by cases h⟩
end Go.Proofs.Ytbomfekfebamkaa

/-
  Formulas as plain data, and what the functions of package encode and of its reference compute. Nothing of the program stands here.
-/
namespace Go.Proofs.Ytbomfekfebamkaa
open Go.RowKit
set_option linter.unusedSimpArgs false
set_option linter.unusedVariables false

structure Fml where
  vars : Int
  cls : List (List Int)
def noFml : Fml := ⟨0, []⟩
theorem Fml.ext' {a b : Fml} (h1 : a.vars = b.vars) (h2 : a.cls = b.cls) : a = b := by
  cases a; cases b; simp only at h1 h2; rw [h1, h2]
def sameF (a b : Fml) : Bool := decide (a.vars = b.vars ∧ a.cls = b.cls)
theorem sameF_self (a : Fml) : sameF a a = true := decide_eq_true ⟨rfl, rfl⟩
def litOk (v x : Int) : Bool := decide (x ≠ 0 ∧ -v ≤ x ∧ x ≤ v)
def sizesF (f : Fml) : Bool := decide (0 ≤ f.vars ∧ f.vars ≤ 65536 ∧ f.cls.length ≤ 262144)
def rightF (f : Fml) : Bool := sizesF f && f.cls.all (fun c => c.all (litOk f.vars))
def varOk (v x : Int) : Bool := decide (1 ≤ x ∧ x ≤ v)
def varsOk (v : Int) (l : List Int) : Bool := l.all (varOk v)
def fitsErr (f : Fml) : Int := if f.vars ≤ 65536 ∧ f.cls.length ≤ 262144 then 0 else 6
def fitsR (f : Fml) : Fml := if fitsErr f = 0 then f else noFml
/-- The clauses of a gate. -/
def clausesF (op g a b : Int) : List (List Int) :=
  if op = 0 then [[-g]] else if op = 1 then [[g]] else if op = 2 then [[g, a], [-g, -a]] else if op = 3 then [[-g, a], [-g, b], [g, -a, -b]]
  else if op = 4 then [[g, -a], [g, -b], [-g, a, b]] else [[-g, a, b], [-g, -a, -b], [g, -a, b], [g, a, -b]]
theorem clausesF_len (op g a b : Int) : (clausesF op g a b).length ≤ 4 := by
  unfold clausesF; split <;> (try split) <;> (try split) <;> (try split) <;> (try split) <;> simp
/-- Operands that an operation does not have do not matter. -/
theorem clausesF_0 {op : Int} (h : op = 0 ∨ op = 1) (g a b a' b' : Int) : clausesF op g a b = clausesF op g a' b' := by
  rcases h with rfl | rfl <;> rfl
theorem clausesF_1 (g a b b' : Int) : clausesF 2 g a b = clausesF 2 g a b' := rfl

/-- The variables of the wires while k gates are placed. -/
def wiresV (nv : Int) (ins : List Int) (k : Nat) : List Int := ins ++ (List.range k).map (fun i => nv + ((i : Nat) : Int) + 1)
theorem wiresV_length (nv : Int) (ins : List Int) (k : Nat) : (wiresV nv ins k).length = ins.length + k := by simp [wiresV]
theorem wiresV_succ (nv : Int) (ins : List Int) (k : Nat) : wiresV nv ins (k + 1) = wiresV nv ins k ++ [nv + k + 1] := by simp [wiresV, List.range_succ]
theorem wiresV_zero (nv : Int) (ins : List Int) : wiresV nv ins 0 = ins := by simp [wiresV]
theorem wiresV_more (nv : Int) (ins : List Int) (k j w : Nat) (h : w < ins.length + k) (hk : k ≤ j) : (wiresV nv ins j).getD w 0 = (wiresV nv ins k).getD w 0 := by
  induction j with
  | zero => have : k = 0 := by omega
            rw [this]
  | succ j ih =>
    by_cases e : k = j + 1
    · rw [e]
    · rw [wiresV_succ, List.getD_eq_getElem?_getD, List.getElem?_append_left (by rw [wiresV_length]; omega), ← List.getD_eq_getElem?_getD, ih (by omega)]
/-- The clauses of gate i, its wires' variables as wiresV says. -/
def gateCls (nv : Int) (ins : List Int) (gs : List Gt) (i : Nat) : List (List Int) :=
  clausesF (gs.getD i default).op (nv + (i : Int) + 1) ((wiresV nv ins i).getD (gs.getD i default).a.toNat 0) ((wiresV nv ins i).getD (gs.getD i default).b.toNat 0)
def placeTo (nv : Int) (ins : List Int) (gs : List Gt) (k : Nat) : List (List Int) := (List.range k).flatMap (gateCls nv ins gs)
theorem placeTo_succ (nv : Int) (ins : List Int) (gs : List Gt) (k : Nat) : placeTo nv ins gs (k + 1) = placeTo nv ins gs k ++ gateCls nv ins gs k := by simp [placeTo, List.range_succ]
theorem placeTo_len (nv : Int) (ins : List Int) (gs : List Gt) (k : Nat) : (placeTo nv ins gs k).length ≤ 4 * k := by
  induction k with
  | zero => simp [placeTo]
  | succ k ih =>
    rw [placeTo_succ, List.length_append]
    have := clausesF_len (gs.getD k default).op (nv + (k : Int) + 1) ((wiresV nv ins k).getD (gs.getD k default).a.toNat 0) ((wiresV nv ins k).getD (gs.getD k default).b.toNat 0)
    unfold gateCls
    omega
def placeF (f : Fml) (c : Circ) (ins : List Int) : Fml := ⟨f.vars + c.gates.length, f.cls ++ placeTo f.vars ins c.gates c.gates.length⟩
def placeO (f : Fml) (c : Circ) (ins : List Int) : List Int := c.outs.map (fun w => (wiresV f.vars ins c.gates.length).getD w.toNat 0)
def placeOk (f : Fml) (c : Circ) (ins : List Int) : Bool := rightF f && (rightC c && (decide ((ins.length : Int) = c.inputs) && varsOk f.vars ins))
def placeErr (f : Fml) (c : Circ) (ins : List Int) : Int := if placeOk f c ins = true then fitsErr (placeF f c ins) else 2
def placeR (f : Fml) (c : Circ) (ins : List Int) : Fml := if placeErr f c ins = 0 then placeF f c ins else noFml
def placeOuts (f : Fml) (c : Circ) (ins : List Int) : List Int := if placeErr f c ins = 0 then placeO f c ins else []
/-- 1, 2, .. n. -/
def upto1 (n : Nat) : List Int := (List.range n).map (fun i => ((i : Nat) : Int) + 1)
theorem upto1_length (n : Nat) : (upto1 n).length = n := by simp [upto1]
theorem upto1_succ (n : Nat) : upto1 (n + 1) = upto1 n ++ [(n : Int) + 1] := by simp [upto1, List.range_succ]
def circErr (c : Circ) : Int := if rightC c = true then fitsErr (placeF ⟨c.inputs, []⟩ c (upto1 c.inputs.toNat)) else 2
def circR (c : Circ) : Fml := if circErr c = 0 then placeF ⟨c.inputs, []⟩ c (upto1 c.inputs.toNat) else noFml
theorem rightF_nil {v : Int} (h0 : 0 ≤ v) (h1 : v ≤ 65536) : rightF ⟨v, []⟩ = true := by simp [rightF, sizesF, h0, h1]
theorem varsOk_upto1 (n : Nat) : varsOk n (upto1 n) = true := by
  unfold varsOk
  rw [List.all_eq_true]
  intro x hx
  simp only [upto1, List.mem_map, List.mem_range] at hx
  obtain ⟨i, hi, rfl⟩ := hx
  simp [varOk]; omega
theorem circ_place (c : Circ) : placeErr ⟨c.inputs, []⟩ c (upto1 c.inputs.toNat) = circErr c ∧ placeR ⟨c.inputs, []⟩ c (upto1 c.inputs.toNat) = circR c := by
  have h : placeErr ⟨c.inputs, []⟩ c (upto1 c.inputs.toNat) = circErr c := by
    unfold placeErr circErr
    cases hr : rightC c
    · have : placeOk ⟨c.inputs, []⟩ c (upto1 c.inputs.toNat) = false := by unfold placeOk; rw [hr]; simp
      rw [this]
    · have hs : 0 ≤ c.inputs ∧ c.inputs ≤ 1000 := by
        simp only [rightC, Bool.and_eq_true, decide_eq_true_eq] at hr
        exact ⟨hr.1.1.1, hr.1.1.2.1⟩
      have : placeOk ⟨c.inputs, []⟩ c (upto1 c.inputs.toNat) = true := by
        unfold placeOk
        rw [rightF_nil hs.1 (by omega), hr, upto1_length, Int.toNat_of_nonneg hs.1]
        have h3 := varsOk_upto1 c.inputs.toNat
        rw [Int.toNat_of_nonneg hs.1] at h3
        show (true && (true && (decide (c.inputs = c.inputs) && varsOk c.inputs (upto1 c.inputs.toNat)))) = true
        rw [h3, decide_eq_true rfl]; rfl
      rw [this]
  exact ⟨h, by unfold placeR circR; rw [h]⟩
/-- Fix. -/
def fixTo (vs : List Int) (bs : List Bool) (k : Nat) : List (List Int) := (List.range k).map (fun i => [if bs.getD i false = true then vs.getD i 0 else -(vs.getD i 0)])
theorem fixTo_succ (vs : List Int) (bs : List Bool) (k : Nat) : fixTo vs bs (k + 1) = fixTo vs bs k ++ [[if bs.getD k false = true then vs.getD k 0 else -(vs.getD k 0)]] := by simp [fixTo, List.range_succ]
theorem fixTo_length (vs : List Int) (bs : List Bool) (k : Nat) : (fixTo vs bs k).length = k := by simp [fixTo]
def fixF (f : Fml) (vs : List Int) (bs : List Bool) : Fml := ⟨f.vars, f.cls ++ fixTo vs bs vs.length⟩
def fixOk (f : Fml) (vs : List Int) (bs : List Bool) : Bool := rightF f && (decide (vs.length = bs.length) && varsOk f.vars vs)
def fixErr (f : Fml) (vs : List Int) (bs : List Bool) : Int := if fixOk f vs bs = true then fitsErr (fixF f vs bs) else 2
def fixR (f : Fml) (vs : List Int) (bs : List Bool) : Fml := if fixErr f vs bs = 0 then fixF f vs bs else noFml
/-- Same. -/
def eqTo (a b : List Int) (k : Nat) : List (List Int) := (List.range k).flatMap (fun i => [[-(a.getD i 0), b.getD i 0], [a.getD i 0, -(b.getD i 0)]])
theorem eqTo_succ (a b : List Int) (k : Nat) : eqTo a b (k + 1) = eqTo a b k ++ [[-(a.getD k 0), b.getD k 0], [a.getD k 0, -(b.getD k 0)]] := by simp [eqTo, List.range_succ]
theorem eqTo_length (a b : List Int) (k : Nat) : (eqTo a b k).length = 2 * k := by
  induction k with
  | zero => rfl
  | succ k ih => rw [eqTo_succ, List.length_append, ih]; simp; omega
def eqF (f : Fml) (a b : List Int) : Fml := ⟨f.vars, f.cls ++ eqTo a b a.length⟩
def eqOk (f : Fml) (a b : List Int) : Bool := rightF f && (decide (a.length = b.length) && (varsOk f.vars a && varsOk f.vars b))
def eqErr (f : Fml) (a b : List Int) : Int := if eqOk f a b = true then fitsErr (eqF f a b) else 2
def eqR (f : Fml) (a b : List Int) : Fml := if eqErr f a b = 0 then eqF f a b else noFml
end Go.Proofs.Ytbomfekfebamkaa

/-
  Rule trees as plain data, as they lie in memory. Nothing of the program stands here.
-/
namespace Go.Proofs.Ytbomfekfebamkaa
open Go.RowKit
set_option linter.unusedSimpArgs false
set_option linter.unusedVariables false

structure Pt where
  x : Int
  y : Int
instance : Inhabited Pt := ⟨⟨0, 0⟩⟩
structure Nd where
  level : Int
  next : List Int
instance : Inhabited Nd := ⟨⟨0, []⟩⟩
structure Tre where
  states : Int
  hood : List Pt
  nodes : List Nd

/-- Where a slice lies: address, length, capacity. -/
structure Sl where
  at_ : Option Addr
  len : Nat
  cap : Nat
instance : Inhabited Sl := ⟨⟨none, 0, 0⟩⟩

def ptCells (p : Pt) : List Value := [.int .i64 p.x, .int .i64 p.y]
def hoodCells (l : List Pt) : List Value := l.flatMap ptCells
def ndCells (p : Nd × Sl) : List Value := [.int .i64 p.1.level, .slice p.2.at_ p.2.len p.2.cap]
def nodesCells (ns : List Nd) (sl : List Sl) : List Value := (ns.zip sl).flatMap ndCells

theorem flat2_length {α : Type} (f : α → List Value) (hf : ∀ x, (f x).length = 2) (l : List α) : (l.flatMap f).length = l.length * 2 := by
  induction l with
  | nil => rfl
  | cons x l ih => simp only [List.flatMap_cons, List.length_append, List.length_cons, hf, ih]; omega
theorem flat2_get {α : Type} [Inhabited α] (f : α → List Value) (hf : ∀ x, (f x).length = 2) (l : List α) (k : Nat) (hk : k < l.length) :
    (l.flatMap f)[k * 2]? = (f (l.getD k default))[0]? ∧ (l.flatMap f)[k * 2 + 1]? = (f (l.getD k default))[1]? := by
  induction l generalizing k with
  | nil => simp at hk
  | cons x l ih =>
    cases k with
    | zero =>
      simp only [List.flatMap_cons, Nat.zero_mul, Nat.zero_add, List.getD_cons_zero]
      rw [List.getElem?_append_left (by rw [hf]; omega), List.getElem?_append_left (by rw [hf]; omega)]
      exact ⟨rfl, rfl⟩
    | succ k =>
      have := ih k (by simpa using hk)
      simp only [List.flatMap_cons, List.getD_cons_succ]
      rw [List.getElem?_append_right (by rw [hf]; omega), List.getElem?_append_right (by rw [hf]; omega), hf]
      rw [show (k + 1) * 2 - 2 = k * 2 by omega, show (k + 1) * 2 + 1 - 2 = k * 2 + 1 by omega]
      exact this
theorem Rd.row2 {w : World} {B n : Nat} {A : Option Addr} {xs : List Value} (h : Rd w B 2 A n xs) {k : Nat} (hk : k < n) {x0 x1 : Value}
    (h0 : xs[k * 2]? = some x0) (h1 : xs[k * 2 + 1]? = some x1) :
    ∃ ad, A = some ad ∧ ad.block < B ∧ w.cell? (ad.add (k * 2)) = some x0 ∧ w.cell? ⟨(ad.add (k * 2)).block, (ad.add (k * 2)).off + 1, none⟩ = some x1 := by
  obtain ⟨ad, e, hb, hc⟩ := h.2 (by omega)
  exact ⟨ad, e, hb, hc _ _ h0, (congrArg w.cell? (add_add' ad (k * 2) 1)).trans (hc _ _ h1)⟩

/-- A tree's slices as they lie in memory. -/
structure TAt (w : World) (t : Tre) (HA NA : Option Addr) (hn nn : Nat) (sl : List Sl) : Prop where
  hood : Rd w w.heap.size 2 HA hn (hoodCells t.hood)
  nodes : Rd w w.heap.size 2 NA nn (nodesCells t.nodes sl)
  sll : sl.length = t.nodes.length
  next : ∀ i, i < t.nodes.length → Rd w w.heap.size 1 (sl.getD i default).at_ (sl.getD i default).len (ints (t.nodes.getD i default).next) ∧ (sl.getD i default).len ≤ maxLen
  h63 : hn ≤ maxLen
  n63 : nn ≤ maxLen
theorem TAt.up {w w' : World} {t : Tre} {HA NA : Option Addr} {hn nn : Nat} {sl : List Sl} (h : TAt w t HA NA hn nn sl) (hb : Below w.heap.size w w') : TAt w' t HA NA hn nn sl :=
  ⟨h.hood.up hb, h.nodes.up hb, h.sll, fun i hi => ⟨(h.next i hi).1.up hb, (h.next i hi).2⟩, h.h63, h.n63⟩
theorem TAt.hl {w : World} {t : Tre} {HA NA : Option Addr} {hn nn : Nat} {sl : List Sl} (h : TAt w t HA NA hn nn sl) : t.hood.length = hn := by
  have := h.hood.1; rw [hoodCells, flat2_length _ (fun _ => rfl)] at this; omega
theorem TAt.nl {w : World} {t : Tre} {HA NA : Option Addr} {hn nn : Nat} {sl : List Sl} (h : TAt w t HA NA hn nn sl) : t.nodes.length = nn := by
  have h1 := h.nodes.1
  have h2 := h.sll
  rw [nodesCells, flat2_length _ (fun _ => rfl), List.length_zip] at h1; omega
theorem TAt.node {w : World} {t : Tre} {HA NA : Option Addr} {hn nn : Nat} {sl : List Sl} (h : TAt w t HA NA hn nn sl) {k : Nat} (hk : k < nn) :
    ∃ ad, NA = some ad ∧ ad.block < w.heap.size ∧ w.cell? (ad.add (k * 2)) = some (.int .i64 (t.nodes.getD k default).level) ∧
      w.cell? ⟨(ad.add (k * 2)).block, (ad.add (k * 2)).off + 1, none⟩ = some (.slice (sl.getD k default).at_ (sl.getD k default).len (sl.getD k default).cap) := by
  have hl := h.nl
  have hs := h.sll
  have hz : k < (t.nodes.zip sl).length := by rw [List.length_zip]; omega
  have hg : (t.nodes.zip sl).getD k default = (t.nodes.getD k default, sl.getD k default) := by
    simp only [List.getD_eq_getElem?_getD, List.getElem?_eq_getElem hz, List.getElem?_eq_getElem (show k < t.nodes.length by omega), List.getElem?_eq_getElem (show k < sl.length by omega), Option.getD_some, List.getElem_zip]
  obtain ⟨h0, h1⟩ := flat2_get ndCells (fun _ => rfl) (t.nodes.zip sl) k hz
  rw [hg] at h0 h1
  exact h.nodes.row2 hk h0 h1
theorem TAt.point {w : World} {t : Tre} {HA NA : Option Addr} {hn nn : Nat} {sl : List Sl} (h : TAt w t HA NA hn nn sl) {k : Nat} (hk : k < hn) :
    ∃ ad, HA = some ad ∧ ad.block < w.heap.size ∧ w.cell? (ad.add (k * 2)) = some (.int .i64 (t.hood.getD k default).x) ∧
      w.cell? ⟨(ad.add (k * 2)).block, (ad.add (k * 2)).off + 1, none⟩ = some (.int .i64 (t.hood.getD k default).y) := by
  have hl := h.hl
  obtain ⟨h0, h1⟩ := flat2_get ptCells (fun _ => rfl) t.hood k (by omega)
  exact h.hood.row2 hk h0 h1
end Go.Proofs.Ytbomfekfebamkaa

/-
  Steps of a walk call by call: what lies below, new rows, cells kept. Any program.
-/
namespace Go.Proofs.Ytbomfekfebamkaa
open Go.RowKit
set_option linter.unusedSimpArgs false
set_option linter.unusedVariables false

theorem below_next {w W w' : World} (hb : Below W.heap.size W w') (hw : Below w.heap.size w W) : Below w.heap.size w w' := hw.trans (hb.mono hw.size)
theorem below_on {w W1 W w' : World} (h0 : Below w.heap.size w W1) (h1 : Below W1.heap.size W1 W) (hb : Below W.heap.size W w') : Below w.heap.size w w' := h0.trans ((h1.trans (hb.mono h1.size)).mono h0.size)
theorem below_on2 {w W1 W : World} (h0 : Below w.heap.size w W1) (h1 : Below W1.heap.size W1 W) : Below w.heap.size w W := h0.trans (h1.mono h0.size)
theorem rowCells {w : World} {g : Nat} {T : TypeId} {xs : List Value} (h : Row w g T xs) {w' : World} (hb : Below w.heap.size w w') : Row w' g T xs := h.below hb h.lt
theorem rowNew1 (w : World) (o : Obj) (T : TypeId) (xs : List Value) : Row ((w.alloc o).alloc (.cells xs.toArray T)) (w.heap.size + 1) T xs := by
  have := Row.new (w.alloc o) T xs
  rw [World.size_alloc] at this
  exact this
theorem rowNew2 (w : World) (o o' : Obj) (T : TypeId) (xs : List Value) : Row (((w.alloc o).alloc o').alloc (.cells xs.toArray T)) (w.heap.size + 1 + 1) T xs := by
  have := Row.new ((w.alloc o).alloc o') T xs
  rw [World.size_alloc, World.size_alloc] at this
  exact this
/-- A callee that leaves the world as it is, within go_quiet. -/
theorem quiet_same {P : Program} {f : FuncId} {args : Array Value} {w : World} {n : Nat} {v : Value}
    (h : Calls P f args (w.drewN n) fun e w' => e = .returned v ∧ w.drewN n = w') : Calls P f args (w.drewN n) fun e w'' => e = .returned v ∧ ∃ m, w'' = w.drewN m :=
  h.mono fun _ _ h2 => ⟨h2.1, n, h2.2.symm⟩
end Go.Proofs.Ytbomfekfebamkaa
