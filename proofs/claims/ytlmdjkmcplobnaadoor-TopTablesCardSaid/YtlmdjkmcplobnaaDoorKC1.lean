/-
  Words for memory that every walk of this work uses: a slice that reads as a list of cells (nil and empty let in), kept over new blocks, stores elsewhere, draws. Nothing of the program stands here.
-/
import Derived.Handy
import Derived.Deep.LoopGhost
import Derived.Deep.Draws
import Derived.Deep.AppendLies
import Derived.Laws.OwnMore
import Derived.Lib.Hide
import Derived.Maps.AppendAt
import Derived.RegionTactic
import Derived.ProofKit
import Derived.Deep.Slices
import Derived.Deep.Strs
import Derived.Lib.SmallJoins
import Derived.Test.YtlmdjkmcplobnaaDoorRows
namespace Go.Proofs.YtlmdjkmcplobnaaDoor
open Go.RowKit
set_option linter.unusedSimpArgs false
set_option linter.unusedVariables false

theorem add_block (a : Addr) (n : Nat) : (a.add n).block = a.block := by unfold Addr.add; split <;> rfl
theorem add_add' (a : Addr) (i j : Nat) : (a.add i).add j = a.add (i + j) := by
  unfold Addr.add
  by_cases hi : i = 0 <;> by_cases hj : j = 0 <;> simp [hi, hj, Nat.add_assoc]

/-- The slice at address A of length n, its elements of sz cells each, reads as the cells xs, all below block B. -/
def Rd (w : World) (B sz : Nat) (A : Option Addr) (n : Nat) (xs : List Value) : Prop :=
  xs.length = n * sz ∧ (0 < n → ∃ ad, A = some ad ∧ ad.block < B ∧ ∀ j u, xs[j]? = some u → w.cell? (ad.add j) = some u)

section
variable {w w' : World} {B B' sz n : Nat} {A : Option Addr} {xs : List Value}
theorem Rd.empty (A : Option Addr) : Rd w B sz A 0 [] := ⟨by simp, fun h => absurd h (by omega)⟩
theorem Rd.len (h : Rd w B sz A n xs) : xs.length = n * sz := h.1
theorem Rd.ex (h : Rd w B sz A n xs) (hn : 0 < n) : ∃ ad, A = some ad ∧ ad.block < B ∧ ∀ j u, xs[j]? = some u → w.cell? (ad.add j) = some u := h.2 hn
theorem Rd.keep (h : Rd w B sz A n xs) (hk : ∀ p : Addr, p.block < B → w'.cell? p = w.cell? p) : Rd w' B sz A n xs :=
  ⟨h.1, fun hn => let ⟨ad, e, hb, hc⟩ := h.2 hn; ⟨ad, e, hb, fun j u hu => (hk _ (by rw [add_block]; exact hb)).trans (hc j u hu)⟩⟩
theorem Rd.more (h : Rd w B sz A n xs) (hB : B ≤ B') : Rd w B' sz A n xs :=
  ⟨h.1, fun hn => let ⟨ad, e, hb, hc⟩ := h.2 hn; ⟨ad, e, by omega, hc⟩⟩
theorem Rd.below (h : Rd w B sz A n xs) {C : Nat} (hb : Below C w w') (hB : B ≤ C) : Rd w' B sz A n xs := h.keep fun _ hp => hb.cell (by omega)
/-- What read at a call's beginning reads in every later world. -/
theorem Rd.up (h : Rd w w.heap.size sz A n xs) (hb : Below w.heap.size w w') : Rd w' w'.heap.size sz A n xs := (h.below hb (Nat.le_refl _)).more hb.size
theorem Rd.drew (h : Rd w B sz A n xs) : Rd w.drew B sz A n xs := h
theorem Rd.drewN (h : Rd w B sz A n xs) (k : Nat) : Rd (w.drewN k) B sz A n xs := h
theorem Rd.alloc (h : Rd w B sz A n xs) (hB : B ≤ w.heap.size) (o : Obj) : Rd (w.alloc o) B sz A n xs := h.keep fun p hp => World.cell?_alloc_lt w o p (by omega)
theorem Rd.setCell (h : Rd w B sz A n xs) {p : Addr} (hB : B ≤ p.block) (u : Value) : Rd (w.setCell p u) B sz A n xs :=
  h.keep fun q hq => World.cell?_setCell_other w p q u (fun e => by subst e; omega)
theorem Rd.of_own {base : Nat} {e : TypeId} {c : Nat} (h : w.ownsRow base e sz (.slice A n c) n xs) : Rd w w.heap.size sz A n xs := by
  refine ⟨h.1, fun hn => ?_⟩
  obtain ⟨g, cap, hv, _, hlt⟩ := h.form hn
  have hA : A = some ⟨g, 0, none⟩ := by injection hv
  subst hA
  exact ⟨_, rfl, hlt, h.cells (g := g) rfl⟩
/-- The address of an element that is there. -/
theorem Rd.some_ (h : Rd w B sz A n xs) {k : Nat} (hk : k < n) : ∃ ad, A = some ad ∧ ad.block < B ∧ ∀ j u, xs[j]? = some u → w.cell? (ad.add j) = some u := h.2 (by omega)
theorem Rd.get1 (h : Rd w B 1 A n xs) {k : Nat} (hk : k < n) : ∃ ad u, A = some ad ∧ ad.block < B ∧ xs[k]? = some u ∧ w.cell? (ad.add k) = some u := by
  obtain ⟨ad, e, hb, hc⟩ := h.2 (by omega)
  have hl : k < xs.length := by have := h.1; omega
  exact ⟨ad, xs[k], e, hb, List.getElem?_eq_getElem hl, hc k _ (List.getElem?_eq_getElem hl)⟩
end

/-- What lies below a box that the call laid at its head lies below the call. -/
theorem below_box {w w' : World} {o : Obj} {k : Nat} (h : Below (w.heap.size + k) (w.alloc o) w') : Below w.heap.size w w' :=
  ((Below.refl _ _).alloc (Nat.le_refl _) o).trans (h.mono (by omega))
/-- A call of a function value of function f comes to f's body. -/
theorem enters {P : Program} {f : FuncId} {fn : Func} {c : Code} (hf : P.funcs[f]? = some fn) (hn : (fn.name == "runtime.NumGoroutine") = false) (hb : fn.body = some c) (args : Array Value) (w : World) :
    (callFunc f args).run P w = .ok (.enter f args) w := by
  have h1 : fn.name ≠ "runtime.NumGoroutine" := by simpa using hn
  simp [callFunc, hf, h1, hb, mark]
theorem below_drewN {B : Nat} {a w : World} (h : Below B a w) (n : Nat) : Below B a (w.drewN n) := ⟨h.os, h.tape, h.output, h.size, h.block⟩
theorem ret_bool {a b : Bool} (h : a = b) : Ending.returned (.bool a) = .returned (.bool b) := by rw [h]
theorem ret_i64 {a b : Int} (h : a = b) : Ending.returned (.int .i64 a) = .returned (.int .i64 b) := by rw [h]

/-- Three cells of an element, as a load of a struct of three asks for them. -/
theorem Rd.row3 {w : World} {B n : Nat} {A : Option Addr} {xs : List Value} (h : Rd w B 3 A n xs) {k : Nat} (hk : k < n) {x0 x1 x2 : Value}
    (h0 : xs[k * 3]? = some x0) (h1 : xs[k * 3 + 1]? = some x1) (h2 : xs[k * 3 + 2]? = some x2) :
    ∃ ad, A = some ad ∧ ad.block < B ∧ w.cell? (ad.add (k * 3)) = some x0 ∧ w.cell? ⟨(ad.add (k * 3)).block, (ad.add (k * 3)).off + 1, none⟩ = some x1 ∧ w.cell? ⟨(ad.add (k * 3)).block, (ad.add (k * 3)).off + 2, none⟩ = some x2 := by
  obtain ⟨ad, e, hb, hc⟩ := h.2 (by omega)
  refine ⟨ad, e, hb, hc _ _ h0, ?_, ?_⟩
  · exact (congrArg w.cell? (add_add' ad (k * 3) 1)).trans (hc _ _ h1)
  · exact (congrArg w.cell? (add_add' ad (k * 3) 2)).trans (hc _ _ h2)

/-- Integers as cells. -/
def ints (zs : List Int) : List Value := zs.map (Value.int .i64)
/-- A word as a cell. -/
def w64 (x : BitVec 64) : Value := .int .u64 (x.toNat : Int)
def w64s (xs : List (BitVec 64)) : List Value := xs.map w64
def bools (bs : List Bool) : List Value := bs.map Value.bool
@[simp] theorem ints_length (zs : List Int) : (ints zs).length = zs.length := by simp [ints]
theorem ints_get (zs : List Int) (k : Nat) (h : k < zs.length) : (ints zs)[k]? = some (.int .i64 (zs.getD k 0)) := by
  simp [ints, List.getElem?_map, List.getElem?_eq_getElem h, List.getD_eq_getElem?_getD]
theorem Rd.int {w : World} {B n : Nat} {A : Option Addr} {zs : List Int} (h : Rd w B 1 A n (ints zs)) {k : Nat} (hk : k < n) :
    ∃ ad, A = some ad ∧ ad.block < B ∧ w.cell? (ad.add k) = some (.int .i64 (zs.getD k 0)) := by
  obtain ⟨ad, u, e, hb, hu, hc⟩ := h.get1 hk
  have hl : k < zs.length := by have := h.1; simp at this; omega
  rw [ints_get zs k hl] at hu
  injection hu with hu
  exact ⟨ad, e, hb, by rw [hc, hu]⟩
/-- Block g is just the cells xs of element type T, none of them frozen. -/
def Row (w : World) (g : Nat) (T : TypeId) (xs : List Value) : Prop := w.heap[g]? = some (.cells xs.toArray T (0, 0))
section
variable {w w' : World} {g : Nat} {T : TypeId} {xs : List Value}
theorem Row.lt (h : Row w g T xs) : g < w.heap.size := by
  rcases Nat.lt_or_ge g w.heap.size with hl | hge
  · exact hl
  · unfold Row at h; rw [Array.getElem?_eq_none hge] at h; cases h
theorem Row.cell (h : Row w g T xs) (i : Nat) : w.cell? ⟨g, i, none⟩ = xs[i]? := by
  rw [cell_of_row w g i xs.toArray T (0, 0) h]; simp
theorem Row.frozen (h : Row w g T xs) (i : Nat) : w.frozen? ⟨g, i, none⟩ = false := by
  unfold Row at h
  simp [World.frozen?, h]
theorem Row.new (w : World) (T : TypeId) (xs : List Value) : Row (w.alloc (.cells xs.toArray T)) w.heap.size T xs := heap_alloc_new w _
theorem Row.drew (h : Row w g T xs) : Row w.drew g T xs := h
theorem Row.drewN (h : Row w g T xs) (n : Nat) : Row (w.drewN n) g T xs := h
theorem Row.alloc (h : Row w g T xs) (o : Obj) : Row (w.alloc o) g T xs := (Below.heap_alloc w o g h.lt).trans h
theorem Row.set (h : Row w g T xs) (i : Nat) (u : Value) : Row (w.setCell ⟨g, i, none⟩ u) g T (xs.set i u) := by
  unfold Row at h ⊢
  simp [World.setCell, Array.getElem?_modify, h]
theorem Row.far (h : Row w g T xs) {p : Addr} (hp : g ≠ p.block) (u : Value) : Row (w.setCell p u) g T xs := (Below.heap_setCell w p u g hp).trans h
theorem Row.below {B : Nat} (h : Row w g T xs) (hb : Below B w w') (hg : g < B) : Row w' g T xs := (hb.block g hg).trans h
theorem Row.grown {row : Option Nat} (h : Row w g T xs) (hb : w.grownBy w' row) (hg : some g ≠ row) : Row w' g T xs := (hb.block g h.lt hg).trans h
theorem add_zero_off (g j : Nat) : (⟨g, 0, none⟩ : Addr).add j = ⟨g, j, none⟩ := by
  unfold Addr.add
  split
  · rename_i h; rw [h]
  · simp
theorem Row.rd (h : Row w g T xs) {sz n : Nat} (hn : xs.length = n * sz) : Rd w w.heap.size sz (some ⟨g, 0, none⟩) n xs :=
  ⟨hn, fun _ => ⟨_, rfl, h.lt, fun j u hu => by rw [add_zero_off, h.cell]; exact hu⟩⟩
theorem Row.own (h : Row w g T xs) {base sz n : Nat} (hb : base ≤ g) (hn : xs.length = n * sz) (hm : n ≤ maxLen) : w.ownsRow base T sz (.slice (some ⟨g, 0, none⟩) n n) n xs :=
  ⟨hn, .inr ⟨g, n, xs.toArray, rfl, hb, h, Nat.le_refl _, hm, by simpa using hn, by simp [← hn]⟩⟩
end

/-- A new row of n like cells. -/
def likeRow (z : Value) (n : Nat) : Array Value := (List.replicate n z).toArray
theorem madeCells_one (z : Value) (n : Nat) : madeCells #[z] n = likeRow z n := by
  apply Array.ext
  · simp [madeCells, likeRow]
  · intro i h1 h2
    simp [madeCells, likeRow, Nat.mod_one]
/-- make of n elements of one cell each, the size reckoned as x. -/
theorem make_like {P : Program} {t e : TypeId} {z : Value} {bytes : Nat} (ht : P.underlying t = some (.slice e)) (hi : (P.info? e).map (fun i => (i.zero, i.size, i.bytes)) = some (some z, 1, bytes)) (hz : z.cells = #[z])
    (n : Nat) (x : Int) (hx : x = n) (hb : bytes * n ≤ 281474976710656) (hn : n ≤ 9223372036854775807) (W : World) :
    (Instr.makeSlice t (.int .i64 x) (.int .i64 x)).run P W = .ok (.slice (some ⟨W.heap.size, 0, none⟩) n n) (W.alloc (.cells (likeRow z n) e)) := by
  obtain ⟨i, h1, h2, h3, h4⟩ := info_parts hi
  subst hx
  have hb' : (i.bytes : Int) * (n : Int) ≤ 281474976710656 := by
    rw [h4, ← Int.natCast_mul]; omega
  have hr := run_make (P := P) W t e i z ht h1 h2 .i64 .i64 (n : Int) (n : Int) (by omega) (by omega) hb' (by omega)
  simp only [Int.toNat_natCast, h3, Nat.mul_one, hz, madeCells_one] at hr
  exact hr
end Go.Proofs.YtlmdjkmcplobnaaDoor

/-
  Circuits as plain data, and what the functions of package circuit and of its reference compute. Nothing of the program stands here.
-/
namespace Go.Proofs.YtlmdjkmcplobnaaDoor
open Go.RowKit
set_option linter.unusedSimpArgs false
set_option linter.unusedVariables false

structure Gt where
  op : Int
  a : Int
  b : Int
instance : Inhabited Gt := ⟨⟨0, 0, 0⟩⟩
structure Circ where
  inputs : Int
  gates : List Gt
  outs : List Int

def gtEq (x y : Gt) : Bool := x.op == y.op && (x.a == y.a && x.b == y.b)
theorem gtEq_iff (x y : Gt) : gtEq x y = true ↔ x = y := by
  cases x; cases y; simp [gtEq]
instance : DecidableEq Gt := fun x y => if h : gtEq x y = true then isTrue ((gtEq_iff x y).1 h) else isFalse (fun e => h ((gtEq_iff x y).2 e))
def gtCells (g : Gt) : List Value := [.int .i64 g.op, .int .i64 g.a, .int .i64 g.b]
def gatesCells (gs : List Gt) : List Value := gs.flatMap gtCells

theorem gatesCells_length (gs : List Gt) : (gatesCells gs).length = gs.length * 3 := by
  induction gs with
  | nil => rfl
  | cons g l ih => simp only [gatesCells, List.flatMap_cons, List.length_append, List.length_cons] at *; rw [ih]; simp [gtCells]; omega
theorem gatesCells_get (gs : List Gt) (k : Nat) (h : k < gs.length) : (gatesCells gs)[k * 3]? = some (.int .i64 (gs.getD k default).op) ∧ (gatesCells gs)[k * 3 + 1]? = some (.int .i64 (gs.getD k default).a) ∧ (gatesCells gs)[k * 3 + 2]? = some (.int .i64 (gs.getD k default).b) := by
  induction gs generalizing k with
  | nil => simp at h
  | cons g l ih =>
    cases k with
    | zero => simp [gatesCells, gtCells]
    | succ k =>
      have := ih k (by simpa using h)
      have e : (k + 1) * 3 = k * 3 + 3 := by omega
      have hh : ∀ j, (gatesCells (g :: l))[k * 3 + 3 + j]? = (gatesCells l)[k * 3 + j]? := fun j => by
        simp only [gatesCells, List.flatMap_cons]
        rw [List.getElem?_append_right (by simp [gtCells]; omega)]
        congr 1
        simp [gtCells]; omega
      rw [e]
      refine ⟨(hh 0).trans ?_, (hh 1).trans ?_, (hh 2).trans ?_⟩
      · simpa using this.1
      · simpa using this.2.1
      · simpa using this.2.2

theorem Rd.gate {w : World} {B n : Nat} {A : Option Addr} {gs : List Gt} (h : Rd w B 3 A n (gatesCells gs)) {k : Nat} (hk : k < n) :
    ∃ ad, A = some ad ∧ ad.block < B ∧ w.cell? (ad.add (k * 3)) = some (.int .i64 (gs.getD k default).op) ∧ w.cell? ⟨(ad.add (k * 3)).block, (ad.add (k * 3)).off + 1, none⟩ = some (.int .i64 (gs.getD k default).a) ∧ w.cell? ⟨(ad.add (k * 3)).block, (ad.add (k * 3)).off + 2, none⟩ = some (.int .i64 (gs.getD k default).b) := by
  have hl : k < gs.length := by have := h.1; rw [gatesCells_length] at this; omega
  obtain ⟨h0, h1, h2⟩ := gatesCells_get gs k hl
  exact h.row3 hk h0 h1 h2

def sameC (c d : Circ) : Bool := c.inputs == d.inputs && (decide (c.gates = d.gates) && decide (c.outs = d.outs))

def operandsF (op : Int) : Int := if op = 0 ∨ op = 1 then 0 else if op = 2 then 1 else if op = 3 ∨ op = 4 ∨ op = 5 then 2 else -1
theorem operandsF_bd (op : Int) : -1 ≤ operandsF op ∧ operandsF op ≤ 2 := by unfold operandsF; split <;> (try split) <;> (try split) <;> omega

/-- The closure 'wire' of circuit.Right: n operands, wire w at place k, below lim. -/
def wireOk (n w k lim : Int) : Bool := decide (n < k ∧ w = 0 ∨ k ≤ n ∧ 0 ≤ w ∧ w < lim)
def gateOk (lim : Int) (g : Gt) : Bool := decide (0 ≤ operandsF g.op) && wireOk (operandsF g.op) g.a 1 lim && wireOk (operandsF g.op) g.b 2 lim
def outOk (lim w : Int) : Bool := decide (0 ≤ w ∧ w < lim)
def gatesOk (inputs : Int) (gs : List Gt) : Bool := decide (∀ i, i < gs.length → gateOk (inputs + i) (gs.getD i default) = true)
def rightC (c : Circ) : Bool :=
  decide (0 ≤ c.inputs ∧ c.inputs ≤ 1000 ∧ c.gates.length ≤ 20000 ∧ c.outs.length ≤ 1000) && gatesOk c.inputs c.gates && c.outs.all (outOk (c.inputs + c.gates.length))
theorem right_false_gate (c : Circ) (k : Nat) (hk : k < c.gates.length) (h : gateOk (c.inputs + k) (c.gates.getD k default) = false) : rightC c = false := by
  have hg : gatesOk c.inputs c.gates = false := decide_eq_false (fun hh => by have := hh k hk; rw [h] at this; cases this)
  simp [rightC, hg]
theorem right_true_gates (c : Circ) (hs : 0 ≤ c.inputs ∧ c.inputs ≤ 1000 ∧ c.gates.length ≤ 20000 ∧ c.outs.length ≤ 1000) (h : ∀ k, k < c.gates.length → gateOk (c.inputs + k) (c.gates.getD k default) = true) :
    rightC c = c.outs.all (outOk (c.inputs + c.gates.length)) := by
  have hg : gatesOk c.inputs c.gates = true := decide_eq_true h
  simp [rightC, hg, hs]
theorem all_false_at (p : Int → Bool) (zs : List Int) (k : Nat) (hk : k < zs.length) (h : p (zs.getD k 0) = false) : zs.all p = false := by
  rw [List.all_eq_false]
  refine ⟨zs[k], List.getElem_mem hk, ?_⟩
  simp [List.getD_eq_getElem?_getD, List.getElem?_eq_getElem hk] at h
  simp [h]
theorem all_true_at (p : Int → Bool) (zs : List Int) (h : ∀ k, k < zs.length → p (zs.getD k 0) = true) : zs.all p = true := by
  rw [List.all_eq_true]
  intro x hx
  obtain ⟨j, hj, rfl⟩ := List.getElem_of_mem hx
  have := h j hj
  simpa [List.getD_eq_getElem?_getD, List.getElem?_eq_getElem hj] using this
/-- A circuit's slices as they lie in memory. -/
structure CAt (w : World) (c : Circ) (GA OA : Option Addr) (gn on : Nat) : Prop where
  gates : Rd w w.heap.size 3 GA gn (gatesCells c.gates)
  outs : Rd w w.heap.size 1 OA on (ints c.outs)
  g63 : gn ≤ maxLen
  o63 : on ≤ maxLen
theorem CAt.up {w w' : World} {c : Circ} {GA OA : Option Addr} {gn on : Nat} (h : CAt w c GA OA gn on) (hb : Below w.heap.size w w') : CAt w' c GA OA gn on :=
  ⟨h.gates.up hb, h.outs.up hb, h.g63, h.o63⟩
theorem CAt.gl {w : World} {c : Circ} {GA OA : Option Addr} {gn on : Nat} (h : CAt w c GA OA gn on) : c.gates.length = gn := by have := h.gates.1; rw [gatesCells_length] at this; omega
theorem CAt.ol {w : World} {c : Circ} {GA OA : Option Addr} {gn on : Nat} (h : CAt w c GA OA gn on) : c.outs.length = on := by have := h.outs.1; simp at this; omega
def okC (c : Circ) (n : Nat) : Bool := rightC c && decide ((n : Int) = c.inputs)
theorem outOk_at {lim : Int} {os : List Int} (h : os.all (outOk lim) = true) {k : Nat} (hk : k < os.length) : 0 ≤ os.getD k 0 ∧ os.getD k 0 < lim := by
  rw [List.all_eq_true] at h
  have := h _ (List.getElem_mem hk)
  rw [List.getD_eq_getElem?_getD, List.getElem?_eq_getElem hk]
  simpa [outOk] using this
end Go.Proofs.YtlmdjkmcplobnaaDoor

/-
  append onto a row that the call owns, from whatever source (nil, empty or not), as one law for plain regions and one for regions that draw their order. Any program.
-/
namespace Go.Proofs.YtlmdjkmcplobnaaDoor
open Go.RowKit
set_option linter.unusedSimpArgs false
set_option linter.unusedVariables false

theorem run_app_empty {P : Program} {w : World} {base : Nat} {t ty e : TypeId} {i : TypeInfo} {size : Nat} (ht : P.underlying t = some (.slice e)) (hi : P.info? e = some i)
    {v : Value} {n : Nat} {xs : List Value} (hown : w.ownsRow base e size v n xs) (c : Nat) : (Builtin.append_ #[t, t] ty #[v, .slice none 0 c]).run P w = .ok v w := by
  rcases hown.2 with ⟨rfl, rfl⟩ | ⟨g, cap, cur, rfl, _, _, hnc, _⟩
  · simp [Builtin.append_, run_underlying ht, sizeOf, typeInfo, hi, Builtin.lenOf, Builtin.firstCells]
  · simp [Builtin.append_, run_underlying ht, sizeOf, typeInfo, hi, Builtin.lenOf, Builtin.firstCells, hnc, storeCells]

theorem run_app {P : Program} {w : World} {base : Nat} {t ty e : TypeId} {z : Value} {size bytes : Nat} (ht : P.underlying t = some (.slice e)) (hi : (P.info? e).map (fun i => (i.zero, i.size, i.bytes)) = some (some z, size, bytes))
    (hzs : z.cells.size = size) (hsz : 0 < size) (hb1 : 1 ≤ bytes) {v : Value} {n : Nat} {xs : List Value} (hown : w.ownsRow base e size v n xs)
    {B : Nat} {A : Option Addr} {m c : Nat} {news : List Value} (hr : Rd w B size A m news) (h1 : ∀ u ∈ news, u.oneCell' = true) (hbytes : (n + m) * bytes ≤ 140737488355328) (hbase : base ≤ w.heap.size) :
    ∃ v' w', (Builtin.append_ #[t, t] ty #[v, .slice A m c]).run P w = .ok v' w' ∧ w'.ownsRow base e size v' (n + m) (xs ++ news) ∧ w.grownBy w' v.ownBlock ∧ (v'.ownBlock = v.ownBlock ∨ v'.ownBlock = some w.heap.size) := by
  obtain ⟨i, g1, g2, g3, g4⟩ := info_parts hi
  have h63 : n + m ≤ maxLen := by
    have : n + m ≤ (n + m) * bytes := Nat.le_mul_of_pos_right _ hb1
    unfold maxLen; omega
  have key : ∀ ad : Addr, A = some ad → (∀ j u, news[j]? = some u → w.cell? (ad.add j) = some u) →
      ∃ v' w', (Builtin.append_ #[t, t] ty #[v, .slice A m c]).run P w = .ok v' w' ∧ w'.ownsRow base e size v' (n + m) (xs ++ news) ∧ w.grownBy w' v.ownBlock ∧ (v'.ownBlock = v.ownBlock ∨ v'.ownBlock = some w.heap.size) := fun ad e hc => by
    subst e
    obtain ⟨v', w', hrun, h2, h3, _, h5⟩ := run_append_own_at (P := P) w base t ty e i z size bytes ht g1 g2 g3 g4 hzs hsz v n xs hown ad m c news hr.1 hc h1 h63 hbytes hbase
    exact ⟨v', w', hrun, h2, h3, h5⟩
  rcases Nat.eq_zero_or_pos m with h0 | h0
  · subst h0
    have hn : news = [] := List.eq_nil_of_length_eq_zero (by simpa using hr.1)
    subst hn
    cases A with
    | none => exact ⟨v, w, run_app_empty ht g1 hown c, by simpa using hown, World.grownBy.refl w _, .inl rfl⟩
    | some ad =>
      exact key ad rfl (by simp)
  · obtain ⟨ad, e, _, hc⟩ := hr.2 h0
    exact key ad e hc

section
variable {P : Program} {w : World} {o : Oper} {a : Act} {Q : Exit → Act → World → Prop}
theorem wp_app {K : Act → World → Prop} (s x : Operand) (t : TypeId) (ho : o.op = .call { callee := .builtin .append, args := #[s, x], argTypes := #[t, t] })
    (base : Nat) (e : TypeId) (z : Value) (size bytes : Nat) (ht : P.underlying t = some (.slice e)) (hi : (P.info? e).map (fun i => (i.zero, i.size, i.bytes)) = some (some z, size, bytes))
    (hzs : z.cells.size = size) (hsz : 0 < size) (hb1 : 1 ≤ bytes) (v : Value) (n : Nat) (xs : List Value) (hs : a.eval s = v) (hown : w.ownsRow base e size v n xs)
    (B : Nat) (A : Option Addr) (m c : Nat) (news : List Value) (hx : a.eval x = .slice A m c) (hr : Rd w B size A m news) (h1 : ∀ u ∈ news, u.oneCell' = true) (hbytes : (n + m) * bytes ≤ 140737488355328) (hbase : base ≤ w.heap.size)
    (h : ∀ v' w', w'.ownsRow base e size v' (n + m) (xs ++ news) → w.grownBy w' v.ownBlock → (v'.ownBlock = v.ownBlock ∨ v'.ownBlock = some w.heap.size) → K (a.put o.dst v') w') : o.wp P a w K Q := by
  obtain ⟨v', w', hrun, h2, h3, h4⟩ := run_app (P := P) (ty := o.type) (c := c) ht hi hzs hsz hb1 hown hr h1 hbytes hbase
  unfold Oper.wp execOp
  simp only [ho, resolve, invoke, builtin, Sem.run_bind, Sem.run_pure, Result.andThen_ok, List.map_toArray, List.map_cons, List.map_nil, hs, hx, hrun]
  exact h v' w' h2 h3 h4

theorem wpList_app {ops : Array Oper} {rest : List Oper} (hgd : o.guard = none) (s x : Operand) (t : TypeId) (ho : o.op = .call { callee := .builtin .append, args := #[s, x], argTypes := #[t, t] })
    (base : Nat) (e : TypeId) (z : Value) (size bytes : Nat) (ht : P.underlying t = some (.slice e)) (hi : (P.info? e).map (fun i => (i.zero, i.size, i.bytes)) = some (some z, size, bytes))
    (hzs : z.cells.size = size) (hsz : 0 < size) (hb1 : 1 ≤ bytes) (v : Value) (n : Nat) (xs : List Value) (hs : a.eval s = v) (hown : w.ownsRow base e size v n xs)
    (B : Nat) (A : Option Addr) (m c : Nat) (news : List Value) (hx : a.eval x = .slice A m c) (hr : Rd w B size A m news) (h1 : ∀ u ∈ news, u.oneCell' = true) (hbytes : (n + m) * bytes ≤ 140737488355328) (hbase : base ≤ w.heap.size)
    (h : ∀ v' w', w'.ownsRow base e size v' (n + m) (xs ++ news) → w.grownBy w' v.ownBlock → (v'.ownBlock = v.ownBlock ∨ v'.ownBlock = some w.heap.size) → wpList P ops Q rest (a.put o.dst v') w') : wpList P ops Q (o :: rest) a w :=
  wpList_plain hgd fun _ hK => wp_app s x t ho base e z size bytes ht hi hzs hsz hb1 v n xs hs hown B A m c news hx hr h1 hbytes hbase fun v' w' h2 h3 h4 => hK _ _ (h v' w' h2 h3 h4)

theorem step_app {ops : Array Oper} {K : Act → World → Prop} {E : Prop} (hgd : o.guard = none) (s x : Operand) (t : TypeId) (ho : o.op = .call { callee := .builtin .append, args := #[s, x], argTypes := #[t, t] })
    (base : Nat) (e : TypeId) (z : Value) (size bytes : Nat) (ht : P.underlying t = some (.slice e)) (hi : (P.info? e).map (fun i => (i.zero, i.size, i.bytes)) = some (some z, size, bytes))
    (hzs : z.cells.size = size) (hsz : 0 < size) (hb1 : 1 ≤ bytes) (v : Value) (n : Nat) (xs : List Value) (hs : a.eval s = v) (hown : w.ownsRow base e size v n xs)
    (B : Nat) (A : Option Addr) (m c : Nat) (news : List Value) (hx : a.eval x = .slice A m c) (hr : Rd w B size A m news) (h1 : ∀ u ∈ news, u.oneCell' = true) (hbytes : (n + m) * bytes ≤ 140737488355328) (hbase : base ≤ w.heap.size)
    (h : ∀ v' w', w'.ownsRow base e size v' (n + m) (xs ++ news) → w.grownBy w' v.ownBlock → (v'.ownBlock = v.ownBlock ∨ v'.ownBlock = some w.heap.size) → K (a.put o.dst v') w') :
    if Region.wanted o (yielded ops a.tmps) = true then Oper.wp P o a w K Q else E := by
  have hw : Region.wanted o (yielded ops a.tmps) = true := by simp [Region.wanted, hgd]
  rw [if_pos hw]
  exact wp_app s x t ho base e z size bytes ht hi hzs hsz hb1 v n xs hs hown B A m c news hx hr h1 hbytes hbase h
end

/-- A literal's own block, just laid. -/
theorem Rd.lit (w : World) (cs : Array Value) (T : TypeId) {sz m : Nat} (h : cs.size = m * sz) : Rd (w.alloc (.cells cs T)) (w.heap.size + 1) sz (some ⟨w.heap.size, 0, none⟩) m cs.toList :=
  ⟨by simpa using h, fun _ => ⟨_, rfl, Nat.lt_succ_self _, fun j u hu => by
    rw [add_zero_off, World.cell?_alloc_new]; simpa using hu⟩⟩
theorem own_far {w : World} {base : Nat} {e : TypeId} {sz n : Nat} {v : Value} {xs : List Value} (h : w.ownsRow base e sz v n xs) {p : Addr} (hp : v.ownBlock ≠ some p.block) (u : Value) : (w.setCell p u).ownsRow base e sz v n xs := by
  refine ⟨h.1, ?_⟩
  rcases h.2 with hn | ⟨g, cap, cur, rfl, hb, hg, rest⟩
  · exact .inl hn
  · exact .inr ⟨g, cap, cur, rfl, hb, by rw [Below.heap_setCell _ _ _ _ (fun e => hp (by simp [Value.ownBlock, e]))]; exact hg, rest⟩
theorem own_ne_row {w : World} {base : Nat} {e T : TypeId} {sz n g : Nat} {v : Value} {xs cs : List Value} (h : w.ownsRow base e sz v n xs) (hr : Row w g T cs) (hne : e ≠ T) : v.ownBlock ≠ some g := by
  rcases h.2 with ⟨rfl, _⟩ | ⟨g', cap, cur, rfl, _, hg, _⟩
  · simp [Value.ownBlock]
  · intro he
    obtain rfl : g' = g := by simpa [Value.ownBlock] using he
    unfold Row at hr
    rw [hg] at hr
    injection hr with hr
    injection hr with _ ht
    exact hne ht
theorem own_ne_own {w : World} {b b' : Nat} {e e' : TypeId} {sz sz' n n' : Nat} {v v' : Value} {xs xs' : List Value} (h : w.ownsRow b e sz v n xs) (h' : w.ownsRow b' e' sz' v' n' xs') (hne : e ≠ e') : v.ownBlock = none ∨ v.ownBlock ≠ v'.ownBlock := by
  rcases h.2 with ⟨rfl, _⟩ | ⟨g, cap, cur, rfl, _, hg, _⟩
  · exact .inl rfl
  · refine .inr ?_
    rcases h'.2 with ⟨rfl, _⟩ | ⟨g', cap', cur', rfl, _, hg', _⟩
    · simp [Value.ownBlock]
    · intro he
      obtain rfl : g = g' := by simpa [Value.ownBlock] using he
      rw [hg] at hg'
      injection hg' with hg'
      injection hg' with _ ht
      exact hne ht
theorem own_base {w : World} {base base' : Nat} {e : TypeId} {sz n : Nat} {v : Value} {xs : List Value} (h : w.ownsRow base e sz v n xs) (hb : base' ≤ base) : w.ownsRow base' e sz v n xs :=
  ⟨h.1, h.2.imp id (fun ⟨g, cap, cur, a, b, c⟩ => ⟨g, cap, cur, a, Nat.le_trans hb b, c⟩)⟩
theorem own_below {w w' : World} {base B : Nat} {e : TypeId} {sz n : Nat} {v : Value} {xs : List Value} (h : w.ownsRow base e sz v n xs) (hb : Below B w w') (hB : w.heap.size ≤ B) : w'.ownsRow base e sz v n xs := by
  refine ⟨h.1, ?_⟩
  rcases h.2 with hn | ⟨g, cap, cur, rfl, hbb, hg, rest⟩
  · exact .inl hn
  · have hlt : g < w.heap.size := (h.lt g rfl).2
    exact .inr ⟨g, cap, cur, rfl, hbb, by rw [hb.block g (by omega)]; exact hg, rest⟩
/-- An owned row reads. -/
theorem Rd.own {w : World} {base : Nat} {e : TypeId} {sz n : Nat} {v : Value} {xs : List Value} (h : w.ownsRow base e sz v n xs) : ∃ A c, v = .slice A n c ∧ Rd w w.heap.size sz A n xs := by
  rcases h.2 with ⟨rfl, rfl⟩ | ⟨g, cap, cur, rfl, hb, hg, hc⟩
  · refine ⟨none, 0, rfl, ?_⟩
    have : xs = [] := List.eq_nil_of_length_eq_zero (by simpa using h.1)
    rw [this]; exact Rd.empty none
  · exact ⟨_, _, rfl, Rd.of_own h⟩
@[simp] theorem bools_length (bs : List Bool) : (bools bs).length = bs.length := by simp [bools]
theorem bools_get (bs : List Bool) (k : Nat) (h : k < bs.length) : (bools bs)[k]? = some (.bool (bs.getD k false)) := by
  simp [bools, List.getElem?_map, List.getElem?_eq_getElem h, List.getD_eq_getElem?_getD]
theorem Rd.bool {w : World} {B n : Nat} {A : Option Addr} {bs : List Bool} (h : Rd w B 1 A n (bools bs)) {k : Nat} (hk : k < n) :
    ∃ ad, A = some ad ∧ ad.block < B ∧ w.cell? (ad.add k) = some (.bool (bs.getD k false)) := by
  obtain ⟨ad, u, e, hb, hu, hc⟩ := h.get1 hk
  have hl : k < bs.length := by have := h.1; simp at this; omega
  rw [bools_get bs k hl] at hu
  injection hu with hu
  exact ⟨ad, e, hb, by rw [hc, hu]⟩
theorem w64s_get (bs : List (BitVec 64)) (k : Nat) (h : k < bs.length) : (w64s bs)[k]? = some (w64 (bs.getD k 0)) := by
  simp [w64s, List.getElem?_map, List.getElem?_eq_getElem h, List.getD_eq_getElem?_getD]
theorem Rd.word {w : World} {B n : Nat} {A : Option Addr} {bs : List (BitVec 64)} (h : Rd w B 1 A n (w64s bs)) {k : Nat} (hk : k < n) :
    ∃ ad, A = some ad ∧ ad.block < B ∧ w.cell? (ad.add k) = some (w64 (bs.getD k 0)) := by
  obtain ⟨ad, u, e, hb, hu, hc⟩ := h.get1 hk
  have hl : k < bs.length := by have := h.1; simp [w64s] at this; omega
  rw [w64s_get bs k hl] at hu
  injection hu with hu
  exact ⟨ad, e, hb, by rw [hc, hu]⟩
theorem bools_one (bs : List Bool) : ∀ u ∈ bools bs, u.oneCell' = true := by
  intro u hu
  simp only [bools, List.mem_map] at hu
  obtain ⟨x, _, rfl⟩ := hu
  rfl
theorem ints_one (zs : List Int) : ∀ u ∈ ints zs, u.oneCell' = true := by
  intro u hu
  simp only [ints, List.mem_map] at hu
  obtain ⟨x, _, rfl⟩ := hu
  rfl
theorem w64s_one (zs : List (BitVec 64)) : ∀ u ∈ w64s zs, u.oneCell' = true := by
  intro u hu
  simp only [w64s, List.mem_map] at hu
  obtain ⟨x, _, rfl⟩ := hu
  rfl
end Go.Proofs.YtlmdjkmcplobnaaDoor

/-
  What an argument's reading says of memory: slices of integers, words, Bools, and of structs of three integers. And the end of a law's row: true, all as it was. Any program.
-/
namespace Go.Proofs.YtlmdjkmcplobnaaDoor
open Go.RowKit Go.ChangeShapes Go.WideShapes Go.Deep Go.Joins
set_option linter.unusedSimpArgs false
set_option linter.unusedVariables false

section
variable {H : Type} {enc : TypeId × Value → H} {P : Program} {w : World} {base : Nat} {spare : Nat → Bool} {held : Bool}

theorem rd_of_cells {sz n : Nat} {ad : Addr} {xs : List Value} (hl : xs.length = n * sz) (h : ∀ j u, xs[j]? = some u → w.cell? (ad.add j) = some u) (h0 : 0 < sz) : Rd w w.heap.size sz (some ad) n xs :=
  ⟨hl, fun hn => ⟨ad, rfl, by
    have hp : 0 < xs.length := by rw [hl]; exact Nat.mul_pos hn h0
    have := World.block_lt_of_cell? w _ (h 0 xs[0] (List.getElem?_eq_getElem hp))
    rwa [add_block] at this, h⟩⟩

theorem read_ints {t e : TypeId} {fuel : Nat} {v : Value} {x : DataW H × List MemPlace} (ht : P.underlying t = some (.slice e)) (he : P.underlying e = some (.int .i64)) (hc : P.cellsOf e = 1)
    (h : DataW.trod enc P w base spare held fuel t [v] = some x) : ∃ A n c zs, v = .slice A n c ∧ Rd w w.heap.size 1 A n (ints zs) ∧ n ≤ maxLen ∧ (∀ z ∈ zs, -9223372036854775808 ≤ z ∧ z ≤ 9223372036854775807) := by
  rcases open_ints ht he hc h with ⟨hcs, _⟩ | ⟨a, len, cap, zs, hcs, _, hl, hm, hz, _, hcell, hwf⟩
  · injection hcs with hcs
    exact ⟨none, 0, 0, [], hcs, Rd.empty none, by unfold maxLen; omega, by simp⟩
  · injection hcs with hcs
    have hln : len ≤ zs.length := by rw [hz]; split <;> omega
    refine ⟨some a, len, cap, zs.take len, hcs, rd_of_cells (by simp; omega) (fun j u hu => ?_) (by omega), by omega, fun z hz => ?_⟩
    · have hj : j < len := by
        have := (List.getElem?_eq_some_iff.1 hu).1
        simp at this; omega
      rw [ints_get _ j (by simp; omega)] at hu
      injection hu with hu
      rw [hcell j (by omega), ← hu]
      simp [List.getD_eq_getElem?_getD, List.getElem?_take, hj]
    · have := hwf z (List.mem_of_mem_take hz)
      simpa [Lit.wf, IntKind.min, IntKind.max, IntKind.signed, IntKind.bits] using this

theorem read_words {t e : TypeId} {fuel : Nat} {v : Value} {x : DataW H × List MemPlace} (ht : P.underlying t = some (.slice e)) (he : P.underlying e = some (.int .u64)) (hc : P.cellsOf e = 1)
    (h : DataW.trod enc P w base spare held fuel t [v] = some x) : ∃ A n c zs, v = .slice A n c ∧ Rd w w.heap.size 1 A n (w64s zs) ∧ n ≤ maxLen := by
  rcases open_ints ht he hc h with ⟨hcs, _⟩ | ⟨a, len, cap, zs, hcs, _, hl, hm, hz, _, hcell, hwf⟩
  · injection hcs with hcs
    exact ⟨none, 0, 0, [], hcs, Rd.empty none, by unfold maxLen; omega⟩
  · injection hcs with hcs
    have hln : len ≤ zs.length := by rw [hz]; split <;> omega
    refine ⟨some a, len, cap, (zs.take len).map (fun z => BitVec.ofNat 64 z.toNat), hcs, rd_of_cells (by simp [w64s]; omega) (fun j u hu => ?_) (by omega), by omega⟩
    have hj : j < len := by
      have := (List.getElem?_eq_some_iff.1 hu).1
      simp [w64s] at this; omega
    rw [w64s_get _ j (by simp; omega)] at hu
    injection hu with hu
    rw [hcell j (by omega), ← hu]
    have hb := hwf (zs.getD j 0) (by rw [List.getD_eq_getElem?_getD, List.getElem?_eq_getElem (by omega)]; exact List.getElem_mem _)
    have e1 : ((zs.take len).map (fun z => BitVec.ofNat 64 z.toNat)).getD j 0 = BitVec.ofNat 64 (zs.getD j 0).toNat := by
      simp [List.getD_eq_getElem?_getD, List.getElem?_map, List.getElem?_take, hj, List.getElem?_eq_getElem (show j < zs.length by omega)]
    rw [e1]
    generalize zs.getD j 0 = z at hb
    simp only [Lit.wf, IntKind.min, IntKind.max, IntKind.signed, IntKind.bits] at hb
    simp at hb
    rw [w64, BitVec.toNat_ofNat, Nat.mod_eq_of_lt (by omega)]
    congr 2
    omega

theorem read_bools {t e : TypeId} {fuel : Nat} {v : Value} {x : DataW H × List MemPlace} (ht : P.underlying t = some (.slice e)) (he : P.underlying e = some .bool) (hc : P.cellsOf e = 1)
    (h : DataW.trod enc P w base spare held fuel t [v] = some x) : ∃ A n c bs, v = .slice A n c ∧ Rd w w.heap.size 1 A n (bools bs) ∧ n ≤ maxLen := by
  rcases open_slice1 ht hc h with ⟨hcs, _⟩ | ⟨a, len, cap, m, n, V, D, Pl, hcs, _, hl, hm, hmm, _, hx⟩
  · injection hcs with hcs
    exact ⟨none, 0, 0, [], hcs, Rd.empty none, by unfold maxLen; omega⟩
  · injection hcs with hcs
    have hln : len ≤ m := by rw [hmm]; split <;> omega
    have hV : ∀ i, i < m → ∃ b, V i = .bool b := fun i hi => by
      obtain ⟨b, hb, _⟩ := DataW.trod_bool he (hx i hi).2
      injection hb with hb
      exact ⟨b, hb⟩
    refine ⟨some a, len, cap, (List.range len).map (fun i => match V i with | .bool b => b | _ => false), hcs, rd_of_cells (by simp) (fun j u hu => ?_) (by omega), by omega⟩
    have hj : j < len := by
      have := (List.getElem?_eq_some_iff.1 hu).1
      simp at this; omega
    obtain ⟨b, hb⟩ := hV j (by omega)
    rw [(hx j (by omega)).1, ← hu, hb]
    simp [bools, List.getElem?_map, List.getElem?_range hj, hb]

/-- A slice of structs of three integers. -/
theorem read_gates {t e e1 : TypeId} {f0 f1 f2 : Field} {fuel : Nat} {v : Value} {x : DataW H × List MemPlace} (ht : P.underlying t = some (.slice e)) (he : P.underlying e = some (.struct #[f0, f1, f2])) (hC : P.cellsOf e = 3)
    (h0 : f0.type = e1 ∧ f0.offset = 0) (h1 : f1.type = e1 ∧ f1.offset = 1) (h2 : f2.type = e1 ∧ f2.offset = 2) (hi : P.underlying e1 = some (.int .i64)) (hc : P.cellsOf e1 = 1)
    (h : DataW.trod enc P w base spare held fuel t [v] = some x) : ∃ A n c gs, v = .slice A n c ∧ Rd w w.heap.size 3 A n (gatesCells gs) ∧ n ≤ maxLen := by
  rcases open_slice ht h with ⟨hcs, _⟩ | ⟨a, len, cap, m, n, D, Pl, hcs, _, hl, hm, hmm, _, hx⟩
  · injection hcs with hcs
    exact ⟨none, 0, 0, [], hcs, Rd.empty none, by unfold maxLen; omega⟩
  · injection hcs with hcs
    have hln : len ≤ m := by rw [hmm]; split <;> omega
    have hV : ∀ i, i < m → ∃ g : Gt, w.cell? (a.add (i * 3)) = some (.int .i64 g.op) ∧ w.cell? (a.add (i * 3 + 1)) = some (.int .i64 g.a) ∧ w.cell? (a.add (i * 3 + 2)) = some (.int .i64 g.b) := fun i hi' => by
      obtain ⟨cs', hcells, ht'⟩ := hx i hi'
      rw [hC] at hcells
      obtain ⟨_, hlen, hat⟩ := World.cells?_some hcells
      obtain ⟨y0, y1, y2, n', _, _, t0, t1, t2⟩ := trod_struct3 he ht'
      match cs', hlen with
      | [c0, c1, c2], _ =>
        rw [h0.1, h0.2, hc] at t0
        rw [h1.1, h1.2, hc] at t1
        rw [h2.1, h2.2, hc] at t2
        simp only [List.drop_zero, List.drop_succ_cons, List.take_succ_cons, List.take_zero] at t0 t1 t2
        obtain ⟨z0, e0, _⟩ := DataW.trod_int hi t0
        obtain ⟨z1, e1, _⟩ := DataW.trod_int hi t1
        obtain ⟨z2, e2, _⟩ := DataW.trod_int hi t2
        injection e0 with e0
        injection e1 with e1
        injection e2 with e2
        have q0 := hat 0 (by omega)
        have q1 := hat 1 (by omega)
        have q2 := hat 2 (by omega)
        rw [add_add'] at q0 q1 q2
        refine ⟨⟨z0, z1, z2⟩, ?_, ?_, ?_⟩
        · simpa [e0] using q0
        · simpa [e1] using q1
        · simpa [e2] using q2
    obtain ⟨G, hG⟩ := choose_lt (α := Gt) (p := fun i g => w.cell? (a.add (i * 3)) = some (.int .i64 g.op) ∧ w.cell? (a.add (i * 3 + 1)) = some (.int .i64 g.a) ∧ w.cell? (a.add (i * 3 + 2)) = some (.int .i64 g.b)) hV
    refine ⟨some a, len, cap, (List.range len).map G, hcs, rd_of_cells (by rw [gatesCells_length]; simp) (fun j u hu => ?_) (by omega), by omega⟩
    have hj : j < len * 3 := by
      have := (List.getElem?_eq_some_iff.1 hu).1
      rw [gatesCells_length] at this; simpa using this
    have hk : j / 3 < len := by omega
    obtain ⟨p0, p1, p2⟩ := gatesCells_get ((List.range len).map G) (j / 3) (by simpa using hk)
    have hg : ((List.range len).map G).getD (j / 3) default = G (j / 3) := by
      simp [List.getD_eq_getElem?_getD, List.getElem?_map, List.getElem?_range hk]
    rw [hg] at p0 p1 p2
    obtain ⟨r0, r1, r2⟩ := hG (j / 3) (by omega)
    have hj3 : j = j / 3 * 3 ∨ j = j / 3 * 3 + 1 ∨ j = j / 3 * 3 + 2 := by omega
    rcases hj3 with e | e | e
    · rw [← e] at p0 r0; rw [r0, ← p0, hu]
    · rw [← e] at p1 r1; rw [r1, ← p1, hu]
    · rw [← e] at p2 r2; rw [r2, ← p2, hu]

end

/-- The end of a law's row where nothing that was there has turned. -/
theorem law_post {H : Type} {enc : TypeId × Value → H} {P : Program} {f : Func} {s : ChangeSpec} {apart fresh handsOn : Bool} {W W' : World} {args : Array Value} {v : Value} {ds gs : List (DataW H)} {before pa pv : List MemPlace}
    (hW : DataW.Whole enc P f.params.toList s.vars apart W args.toList ds gs before)
    (hres : ∀ (b : Nat) (sp : Nat → Bool) (hd : Bool), DataW.TrodAll enc P W' b sp hd f.resultTypes.toList (v.resultList f.resultTypes.size) (s.fn H (ds ++ gs)).results [])
    (hargs : DataW.TrodAll enc P W' 0 (fun b => decide (b < W.heap.size)) true f.params.toList args.toList (s.fn H (ds ++ gs)).args pa)
    (hvars : DataW.TrodVars enc P W' (fun b => decide (b < W.heap.size)) s.vars (s.fn H (ds ++ gs)).vars pv) (hb : Below W.heap.size W W') :
    s.post enc P f apart fresh handsOn false W args v W' :=
  ⟨ds, gs, before, [], pa, pv, hW, hres _ _ _, hargs, hvars, hb.frame _, fun h => by cases h⟩
end Go.Proofs.YtlmdjkmcplobnaaDoor

/-
  Rule trees as plain data, as they lie in memory. Nothing of the program stands here.
-/
namespace Go.Proofs.YtlmdjkmcplobnaaDoor
open Go.RowKit
set_option linter.unusedSimpArgs false
set_option linter.unusedVariables false

structure Pt where
  x : Int
  y : Int
instance : Inhabited Pt := ⟨⟨0, 0⟩⟩
structure Nd where
  level : Int
  next : List Int
instance : Inhabited Nd := ⟨⟨0, []⟩⟩
structure Tre where
  states : Int
  hood : List Pt
  nodes : List Nd

/-- Where a slice lies: address, length, capacity. -/
structure Sl where
  at_ : Option Addr
  len : Nat
  cap : Nat
instance : Inhabited Sl := ⟨⟨none, 0, 0⟩⟩

def ptCells (p : Pt) : List Value := [.int .i64 p.x, .int .i64 p.y]
def hoodCells (l : List Pt) : List Value := l.flatMap ptCells
def ndCells (p : Nd × Sl) : List Value := [.int .i64 p.1.level, .slice p.2.at_ p.2.len p.2.cap]
def nodesCells (ns : List Nd) (sl : List Sl) : List Value := (ns.zip sl).flatMap ndCells

theorem flat2_length {α : Type} (f : α → List Value) (hf : ∀ x, (f x).length = 2) (l : List α) : (l.flatMap f).length = l.length * 2 := by
  induction l with
  | nil => rfl
  | cons x l ih => simp only [List.flatMap_cons, List.length_append, List.length_cons, hf, ih]; omega
theorem flat2_get {α : Type} [Inhabited α] (f : α → List Value) (hf : ∀ x, (f x).length = 2) (l : List α) (k : Nat) (hk : k < l.length) :
    (l.flatMap f)[k * 2]? = (f (l.getD k default))[0]? ∧ (l.flatMap f)[k * 2 + 1]? = (f (l.getD k default))[1]? := by
  induction l generalizing k with
  | nil => simp at hk
  | cons x l ih =>
    cases k with
    | zero =>
      simp only [List.flatMap_cons, Nat.zero_mul, Nat.zero_add, List.getD_cons_zero]
      rw [List.getElem?_append_left (by rw [hf]; omega), List.getElem?_append_left (by rw [hf]; omega)]
      exact ⟨rfl, rfl⟩
    | succ k =>
      have := ih k (by simpa using hk)
      simp only [List.flatMap_cons, List.getD_cons_succ]
      rw [List.getElem?_append_right (by rw [hf]; omega), List.getElem?_append_right (by rw [hf]; omega), hf]
      rw [show (k + 1) * 2 - 2 = k * 2 by omega, show (k + 1) * 2 + 1 - 2 = k * 2 + 1 by omega]
      exact this
theorem Rd.row2 {w : World} {B n : Nat} {A : Option Addr} {xs : List Value} (h : Rd w B 2 A n xs) {k : Nat} (hk : k < n) {x0 x1 : Value}
    (h0 : xs[k * 2]? = some x0) (h1 : xs[k * 2 + 1]? = some x1) :
    ∃ ad, A = some ad ∧ ad.block < B ∧ w.cell? (ad.add (k * 2)) = some x0 ∧ w.cell? ⟨(ad.add (k * 2)).block, (ad.add (k * 2)).off + 1, none⟩ = some x1 := by
  obtain ⟨ad, e, hb, hc⟩ := h.2 (by omega)
  exact ⟨ad, e, hb, hc _ _ h0, (congrArg w.cell? (add_add' ad (k * 2) 1)).trans (hc _ _ h1)⟩

/-- A tree's slices as they lie in memory. -/
structure TAt (w : World) (t : Tre) (HA NA : Option Addr) (hn nn : Nat) (sl : List Sl) : Prop where
  hood : Rd w w.heap.size 2 HA hn (hoodCells t.hood)
  nodes : Rd w w.heap.size 2 NA nn (nodesCells t.nodes sl)
  sll : sl.length = t.nodes.length
  next : ∀ i, i < t.nodes.length → Rd w w.heap.size 1 (sl.getD i default).at_ (sl.getD i default).len (ints (t.nodes.getD i default).next) ∧ (sl.getD i default).len ≤ maxLen
  h63 : hn ≤ maxLen
  n63 : nn ≤ maxLen
theorem TAt.up {w w' : World} {t : Tre} {HA NA : Option Addr} {hn nn : Nat} {sl : List Sl} (h : TAt w t HA NA hn nn sl) (hb : Below w.heap.size w w') : TAt w' t HA NA hn nn sl :=
  ⟨h.hood.up hb, h.nodes.up hb, h.sll, fun i hi => ⟨(h.next i hi).1.up hb, (h.next i hi).2⟩, h.h63, h.n63⟩
theorem TAt.hl {w : World} {t : Tre} {HA NA : Option Addr} {hn nn : Nat} {sl : List Sl} (h : TAt w t HA NA hn nn sl) : t.hood.length = hn := by
  have := h.hood.1; rw [hoodCells, flat2_length _ (fun _ => rfl)] at this; omega
theorem TAt.nl {w : World} {t : Tre} {HA NA : Option Addr} {hn nn : Nat} {sl : List Sl} (h : TAt w t HA NA hn nn sl) : t.nodes.length = nn := by
  have h1 := h.nodes.1
  have h2 := h.sll
  rw [nodesCells, flat2_length _ (fun _ => rfl), List.length_zip] at h1; omega
theorem TAt.node {w : World} {t : Tre} {HA NA : Option Addr} {hn nn : Nat} {sl : List Sl} (h : TAt w t HA NA hn nn sl) {k : Nat} (hk : k < nn) :
    ∃ ad, NA = some ad ∧ ad.block < w.heap.size ∧ w.cell? (ad.add (k * 2)) = some (.int .i64 (t.nodes.getD k default).level) ∧
      w.cell? ⟨(ad.add (k * 2)).block, (ad.add (k * 2)).off + 1, none⟩ = some (.slice (sl.getD k default).at_ (sl.getD k default).len (sl.getD k default).cap) := by
  have hl := h.nl
  have hs := h.sll
  have hz : k < (t.nodes.zip sl).length := by rw [List.length_zip]; omega
  have hg : (t.nodes.zip sl).getD k default = (t.nodes.getD k default, sl.getD k default) := by
    simp only [List.getD_eq_getElem?_getD, List.getElem?_eq_getElem hz, List.getElem?_eq_getElem (show k < t.nodes.length by omega), List.getElem?_eq_getElem (show k < sl.length by omega), Option.getD_some, List.getElem_zip]
  obtain ⟨h0, h1⟩ := flat2_get ndCells (fun _ => rfl) (t.nodes.zip sl) k hz
  rw [hg] at h0 h1
  exact h.nodes.row2 hk h0 h1
theorem TAt.point {w : World} {t : Tre} {HA NA : Option Addr} {hn nn : Nat} {sl : List Sl} (h : TAt w t HA NA hn nn sl) {k : Nat} (hk : k < hn) :
    ∃ ad, HA = some ad ∧ ad.block < w.heap.size ∧ w.cell? (ad.add (k * 2)) = some (.int .i64 (t.hood.getD k default).x) ∧
      w.cell? ⟨(ad.add (k * 2)).block, (ad.add (k * 2)).off + 1, none⟩ = some (.int .i64 (t.hood.getD k default).y) := by
  have hl := h.hl
  obtain ⟨h0, h1⟩ := flat2_get ptCells (fun _ => rfl) t.hood k (by omega)
  exact h.hood.row2 hk h0 h1
end Go.Proofs.YtlmdjkmcplobnaaDoor

/-
  Valid rule trees and their value, plain. Nothing of the program stands here.
-/
namespace Go.Proofs.YtlmdjkmcplobnaaDoor
open Go.RowKit
set_option linter.unusedSimpArgs false
set_option linter.unusedVariables false

def radius : Int := 2
def ptOk (p : Pt) : Bool := decide ((-radius ≤ p.x ∧ p.x ≤ radius) ∧ (-radius ≤ p.y ∧ p.y ≤ radius))
def beforeP (a b : Pt) : Bool := decide (a.y < b.y ∨ a.y = b.y ∧ a.x < b.x)
def hoodPts (l : List Pt) : Bool := decide (∀ k, k < l.length → ptOk (l.getD k default) = true ∧ (k = 0 ∨ beforeP (l.getD (k - 1) default) (l.getD k default) = true))
def hoodOk (l : List Pt) : Bool := decide (1 ≤ l.length ∧ l.length ≤ 25) && hoodPts l
def linkOk (t : Tre) (i : Nat) (x : Nd) (k : Int) : Bool := decide (0 ≤ k ∧ (x.level = 1 → k < t.states) ∧ (1 < x.level → k < i ∧ (t.nodes.getD k.toNat default).level = x.level - 1))
def nodeOk (t : Tre) (i : Nat) : Bool :=
  decide (1 ≤ (t.nodes.getD i default).level ∧ (t.nodes.getD i default).level ≤ t.hood.length ∧ ((t.nodes.getD i default).next.length : Int) = t.states) && (t.nodes.getD i default).next.all (linkOk t i (t.nodes.getD i default))
def nodesOk (t : Tre) : Bool := decide (∀ i, i < t.nodes.length → nodeOk t i = true)
def headOk (t : Tre) : Bool := decide ((2 ≤ t.states ∧ t.states ≤ 8) ∧ 1 ≤ t.nodes.length ∧ t.nodes.length ≤ 4096 ∧ (t.nodes.getD (t.nodes.length - 1) default).level = t.hood.length)
def rightT (t : Tre) : Bool := hoodOk t.hood && (headOk t && nodesOk t)

theorem rightT_parts {t : Tre} (h : rightT t = true) : hoodOk t.hood = true ∧ ((2 ≤ t.states ∧ t.states ≤ 8) ∧ 1 ≤ t.nodes.length ∧ t.nodes.length ≤ 4096 ∧ (t.nodes.getD (t.nodes.length - 1) default).level = t.hood.length) ∧ (∀ i, i < t.nodes.length → nodeOk t i = true) := by
  simpa [rightT, headOk, nodesOk] using h
theorem nodeOk_parts {t : Tre} {i : Nat} (h : nodeOk t i = true) : (1 ≤ (t.nodes.getD i default).level ∧ (t.nodes.getD i default).level ≤ t.hood.length ∧ ((t.nodes.getD i default).next.length : Int) = t.states) ∧
    ∀ s, s < (t.nodes.getD i default).next.length → linkOk t i (t.nodes.getD i default) ((t.nodes.getD i default).next.getD s 0) = true := by
  simp only [nodeOk, Bool.and_eq_true, decide_eq_true_eq] at h
  refine ⟨h.1, fun s hs => ?_⟩
  have h2 := h.2
  rw [List.all_eq_true] at h2
  have := h2 _ (List.getElem_mem hs)
  generalize (t.nodes.getD i default) = x at hs this ⊢
  rw [List.getD_eq_getElem?_getD, List.getElem?_eq_getElem hs]
  exact this

def stepT (t : Tre) (k s : Int) : Int := (t.nodes.getD k.toNat default).next.getD s.toNat 0
def walkT (t : Tre) (k : Int) (ins : List Int) : Int := ins.foldl (stepT t) k
def valueT (t : Tre) (ins : List Int) : Int := walkT t ((t.nodes.length : Int) - 1) ins
def stateIn (t : Tre) (s : Int) : Bool := decide (0 ≤ s ∧ s < t.states)
def evalErr (t : Tre) (ins : List Int) : Int := if rightT t = true then (if ins.length = t.hood.length then (if ins.all (stateIn t) = true then 0 else 10) else 2) else 11
def evalV (t : Tre) (ins : List Int) : Int := if evalErr t ins = 0 then valueT t ins else 0

theorem walkT_snoc (t : Tre) (k : Int) (l : List Int) (s : Int) : walkT t k (l ++ [s]) = stepT t (walkT t k l) s := by simp [walkT, List.foldl_append]
/-- Where the walk stands behind j states. -/
theorem walkT_at {t : Tre} (hr : rightT t = true) (ins : List Int) (hl : ins.length = t.hood.length) (hs : ∀ j, j < ins.length → 0 ≤ ins.getD j 0 ∧ ins.getD j 0 < t.states) (j : Nat) (hj : j ≤ ins.length) :
    (j < ins.length → 0 ≤ walkT t ((t.nodes.length : Int) - 1) (ins.take j) ∧ walkT t ((t.nodes.length : Int) - 1) (ins.take j) < t.nodes.length ∧ (t.nodes.getD (walkT t ((t.nodes.length : Int) - 1) (ins.take j)).toNat default).level = (t.hood.length : Int) - j) ∧
    (j = ins.length → 0 < j → 0 ≤ walkT t ((t.nodes.length : Int) - 1) (ins.take j) ∧ walkT t ((t.nodes.length : Int) - 1) (ins.take j) < t.states) := by
  obtain ⟨_, ⟨h1, h2, h3, h4⟩, hn⟩ := rightT_parts hr
  induction j with
  | zero =>
    refine ⟨fun _ => ?_, fun _ h => absurd h (by omega)⟩
    simp only [List.take_zero, walkT, List.foldl_nil]
    rw [show ((t.nodes.length : Int) - 1).toNat = t.nodes.length - 1 by omega, h4]
    omega
  | succ j ih =>
    have hjl : j < ins.length := by omega
    obtain ⟨i1, i2, i3⟩ := (ih (by omega)).1 hjl
    have hsj := hs j hjl
    rw [show ins.take (j + 1) = ins.take j ++ [ins.getD j 0] from by rw [List.take_succ_eq_append_getElem hjl, List.getD_eq_getElem?_getD, List.getElem?_eq_getElem hjl]; rfl, walkT_snoc]
    generalize walkT t ((t.nodes.length : Int) - 1) (ins.take j) = k at i1 i2 i3
    generalize ins.getD j 0 = s at hsj
    have hk : k.toNat < t.nodes.length := by omega
    obtain ⟨⟨n1, n2, n3⟩, n4⟩ := nodeOk_parts (hn _ hk)
    have hlk := n4 s.toNat (by omega)
    simp only [linkOk, decide_eq_true_eq] at hlk
    unfold stepT
    generalize (t.nodes.getD k.toNat default).next.getD s.toNat 0 = u at hlk
    obtain ⟨l1, l2, l3⟩ := hlk
    refine ⟨fun hlt => ?_, fun he _ => ?_⟩
    · have hlev : 1 < (t.nodes.getD k.toNat default).level := by omega
      obtain ⟨a1, a2⟩ := l3 hlev
      refine ⟨l1, by omega, ?_⟩
      rw [a2]; omega
    · exact ⟨l1, l2 (by omega)⟩
theorem stateIn_at {t : Tre} {ins : List Int} (h : ins.all (stateIn t) = true) {j : Nat} (hj : j < ins.length) : 0 ≤ ins.getD j 0 ∧ ins.getD j 0 < t.states := by
  rw [List.all_eq_true] at h
  have := h _ (List.getElem_mem hj)
  rw [List.getD_eq_getElem?_getD, List.getElem?_eq_getElem hj]
  simpa [stateIn] using this
end Go.Proofs.YtlmdjkmcplobnaaDoor

/-
  Rule trees and lists of integers that came in as arguments: the value written out, the memory.
-/
namespace Go.Proofs.YtlmdjkmcplobnaaDoor
open Go.RowKit Go.ChangeShapes Go.WideShapes Go.Deep Go.Joins
set_option linter.unusedSimpArgs false
set_option linter.unusedVariables false

theorem Tryd.own' : ownKnob Tryd.prog.godebug = none := by kernel_rfl
theorem Tryd.laidOut' : laidOutB Tryd.prog = true := by kernel_rfl

section
variable {H : Type} {enc : TypeId × Value → H} {P : Program} {w : World} {base : Nat} {spare : Nat → Bool} {held : Bool}
/-- A slice of points. -/
theorem read_pts {t e e1 : TypeId} {f0 f1 : Field} {fuel : Nat} {v : Value} {x : DataW H × List MemPlace} (ht : P.underlying t = some (.slice e)) (he : P.underlying e = some (.struct #[f0, f1])) (hC : P.cellsOf e = 2)
    (h0 : f0.type = e1 ∧ f0.offset = 0) (h1 : f1.type = e1 ∧ f1.offset = 1) (hi : P.underlying e1 = some (.int .i64)) (hc : P.cellsOf e1 = 1)
    (h : DataW.trod enc P w base spare held fuel t [v] = some x) : ∃ A n c l, v = .slice A n c ∧ Rd w w.heap.size 2 A n (hoodCells l) ∧ n ≤ maxLen := by
  rcases open_slice ht h with ⟨hcs, _⟩ | ⟨a, len, cap, m, n, D, Pl, hcs, _, hl, hm, hmm, _, hx⟩
  · injection hcs with hcs
    exact ⟨none, 0, 0, [], hcs, Rd.empty none, by unfold maxLen; omega⟩
  · injection hcs with hcs
    have hln : len ≤ m := by rw [hmm]; split <;> omega
    have hV : ∀ i, i < m → ∃ g : Pt, w.cell? (a.add (i * 2)) = some (.int .i64 g.x) ∧ w.cell? (a.add (i * 2 + 1)) = some (.int .i64 g.y) := fun i hi' => by
      obtain ⟨cs', hcells, ht'⟩ := hx i hi'
      rw [hC] at hcells
      obtain ⟨_, hlen, hat⟩ := World.cells?_some hcells
      obtain ⟨y0, y1, n', _, _, t0, t1⟩ := trod_struct2 he ht'
      match cs', hlen with
      | [c0, c1], _ =>
        rw [h0.1, h0.2, hc] at t0
        rw [h1.1, h1.2, hc] at t1
        simp only [List.drop_zero, List.drop_succ_cons, List.take_succ_cons, List.take_zero] at t0 t1
        obtain ⟨z0, e0, _⟩ := DataW.trod_int hi t0
        obtain ⟨z1, e1, _⟩ := DataW.trod_int hi t1
        injection e0 with e0
        injection e1 with e1
        have q0 := hat 0 (by omega)
        have q1 := hat 1 (by omega)
        rw [add_add'] at q0 q1
        refine ⟨⟨z0, z1⟩, ?_, ?_⟩
        · simpa [e0] using q0
        · simpa [e1] using q1
    obtain ⟨G, hG⟩ := choose_lt (α := Pt) (p := fun i g => w.cell? (a.add (i * 2)) = some (.int .i64 g.x) ∧ w.cell? (a.add (i * 2 + 1)) = some (.int .i64 g.y)) hV
    refine ⟨some a, len, cap, (List.range len).map G, hcs, rd_of_cells (by rw [hoodCells, flat2_length _ (fun _ => rfl)]; simp) (fun j u hu => ?_) (by omega), by omega⟩
    have hj : j < len * 2 := by
      have := (List.getElem?_eq_some_iff.1 hu).1
      rw [hoodCells, flat2_length _ (fun _ => rfl)] at this; simpa using this
    have hk : j / 2 < len := by omega
    obtain ⟨p0, p1⟩ := flat2_get ptCells (fun _ => rfl) ((List.range len).map G) (j / 2) (by simpa using hk)
    have hg : ((List.range len).map G).getD (j / 2) default = G (j / 2) := by
      simp [List.getD_eq_getElem?_getD, List.getElem?_map, List.getElem?_range hk]
    rw [hg] at p0 p1
    obtain ⟨r0, r1⟩ := hG (j / 2) (by omega)
    have hj2 : j = j / 2 * 2 ∨ j = j / 2 * 2 + 1 := by omega
    rcases hj2 with e | e
    · rw [← e] at p0 r0; rw [r0, ← hu]; exact p0.symm
    · rw [← e] at p1 r1; rw [r1, ← hu]; exact p1.symm
/-- A slice of nodes. -/
theorem read_nodes {t e e1 e2 : TypeId} {f0 f1 : Field} {fuel : Nat} {v : Value} {x : DataW H × List MemPlace} (ht : P.underlying t = some (.slice e)) (he : P.underlying e = some (.struct #[f0, f1])) (hC : P.cellsOf e = 2)
    (h0 : f0.type = e1 ∧ f0.offset = 0) (h1 : f1.type = e2 ∧ f1.offset = 1) (hi : P.underlying e1 = some (.int .i64)) (hc : P.cellsOf e1 = 1) (hs : P.underlying e2 = some (.slice e1)) (hcs : P.cellsOf e2 = 1)
    (h : DataW.trod enc P w base spare held fuel t [v] = some x) : ∃ A n c ns sl, v = .slice A n c ∧ Rd w w.heap.size 2 A n (nodesCells ns sl) ∧ n ≤ maxLen ∧ sl.length = ns.length ∧
      ∀ i, i < ns.length → Rd w w.heap.size 1 (sl.getD i default).at_ (sl.getD i default).len (ints (ns.getD i default).next) ∧ (sl.getD i default).len ≤ maxLen := by
  rcases open_slice ht h with ⟨hcs', _⟩ | ⟨a, len, cap, m, n, D, Pl, hcs', _, hl, hm, hmm, _, hx⟩
  · injection hcs' with hcs'
    exact ⟨none, 0, 0, [], [], hcs', Rd.empty none, by unfold maxLen; omega, rfl, fun i hi => absurd hi (Nat.not_lt_zero _)⟩
  · injection hcs' with hcs'
    have hln : len ≤ m := by rw [hmm]; split <;> omega
    have hV : ∀ i, i < m → ∃ g : Nd × Sl, (w.cell? (a.add (i * 2)) = some (.int .i64 g.1.level) ∧ w.cell? (a.add (i * 2 + 1)) = some (.slice g.2.at_ g.2.len g.2.cap)) ∧ Rd w w.heap.size 1 g.2.at_ g.2.len (ints g.1.next) ∧ g.2.len ≤ maxLen := fun i hi' => by
      obtain ⟨cs', hcells, ht'⟩ := hx i hi'
      rw [hC] at hcells
      obtain ⟨_, hlen, hat⟩ := World.cells?_some hcells
      obtain ⟨y0, y1, n', _, _, t0, t1⟩ := trod_struct2 he ht'
      match cs', hlen with
      | [c0, c1], _ =>
        rw [h0.1, h0.2, hc] at t0
        rw [h1.1, h1.2, hcs] at t1
        simp only [List.drop_zero, List.drop_succ_cons, List.take_succ_cons, List.take_zero] at t0 t1
        obtain ⟨z0, e0, _⟩ := DataW.trod_int hi t0
        obtain ⟨NA, nn, nc, zs, hv, hR, hn, _⟩ := read_ints hs hi hc t1
        injection e0 with e0
        have q0 := hat 0 (by omega)
        have q1 := hat 1 (by omega)
        rw [add_add'] at q0 q1
        refine ⟨⟨⟨z0, zs⟩, ⟨NA, nn, nc⟩⟩, ⟨?_, ?_⟩, hR, hn⟩
        · simpa [e0] using q0
        · simpa [hv] using q1
    obtain ⟨G, hG⟩ := choose_lt (α := Nd × Sl) (p := fun i g => (w.cell? (a.add (i * 2)) = some (.int .i64 g.1.level) ∧ w.cell? (a.add (i * 2 + 1)) = some (.slice g.2.at_ g.2.len g.2.cap)) ∧ Rd w w.heap.size 1 g.2.at_ g.2.len (ints g.1.next) ∧ g.2.len ≤ maxLen) hV
    have hz : ((List.range len).map fun i => (G i).1).zip ((List.range len).map fun i => (G i).2) = (List.range len).map G := by
      rw [List.zip_map', ]
    refine ⟨some a, len, cap, (List.range len).map fun i => (G i).1, (List.range len).map fun i => (G i).2, hcs', rd_of_cells (by rw [nodesCells, flat2_length _ (fun _ => rfl), hz]; simp) (fun j u hu => ?_) (by omega), by omega, by simp, fun i hi => ?_⟩
    · rw [nodesCells, hz] at hu
      have hj : j < len * 2 := by
        have := (List.getElem?_eq_some_iff.1 hu).1
        rw [flat2_length _ (fun _ => rfl)] at this; simpa using this
      have hk : j / 2 < len := by omega
      obtain ⟨p0, p1⟩ := flat2_get ndCells (fun _ => rfl) ((List.range len).map G) (j / 2) (by simpa using hk)
      have hg : ((List.range len).map G).getD (j / 2) default = G (j / 2) := by
        simp [List.getD_eq_getElem?_getD, List.getElem?_map, List.getElem?_range hk]
      rw [hg] at p0 p1
      obtain ⟨⟨r0, r1⟩, _⟩ := hG (j / 2) (by omega)
      have hj2 : j = j / 2 * 2 ∨ j = j / 2 * 2 + 1 := by omega
      rcases hj2 with e | e
      · rw [← e] at p0 r0; rw [r0, ← hu]; exact p0.symm
      · rw [← e] at p1 r1; rw [r1, ← hu]; exact p1.symm
    · have hi' : i < len := by simpa using hi
      have e1 : ((List.range len).map fun i => (G i).1).getD i default = (G i).1 := by simp [List.getD_eq_getElem?_getD, List.getElem?_map, List.getElem?_range hi']
      have e2 : ((List.range len).map fun i => (G i).2).getD i default = (G i).2 := by simp [List.getD_eq_getElem?_getD, List.getElem?_map, List.getElem?_range hi']
      rw [e1, e2]
      exact (hG i (by omega)).2
end

section
variable {H : Type} {enc : TypeId × Value → H} {w : World} {base b0 : Nat} {spare : Nat → Bool} {held : Bool} {r : Reach} {v : Value} {d : DataW H} {p : List MemPlace}
set_option maxRecDepth 100000 in
theorem open_tree (hv : Value.okWide Tryd.prog w r b0 31 v) (h : DataW.Trod enc Tryd.prog w base spare held 31 v d p) :
    ∃ t HA hn hc NA nn nc sl, v = .agg #[.int .i64 (Tre.states t), .slice HA hn hc, .slice NA nn nc] ∧ TAt w t HA NA hn nn sl := by
  obtain ⟨v0, v1, v2, y0, y1, y2, n, rfl, _, _, h0, h1, h2⟩ := open_agg3 Tryd.underlying31 (by kernel_rfl) (by kernel_rfl) hv h
  obtain ⟨z, e0, _⟩ := DataW.trod_int Tryd.underlying3 h0
  injection e0 with e0
  obtain ⟨HA, hn, hc, hs, rfl, hH, hh⟩ := read_pts Tryd.underlying22 Tryd.underlying70 (by kernel_rfl) ⟨rfl, rfl⟩ ⟨rfl, rfl⟩ Tryd.underlying3 (by kernel_rfl) h1
  obtain ⟨NA, nn, nc, ns, sl, rfl, hN, hm, hsl, hnx⟩ := read_nodes Tryd.underlying29 Tryd.underlying72 (by kernel_rfl) ⟨rfl, rfl⟩ ⟨rfl, rfl⟩ Tryd.underlying3 (by kernel_rfl) Tryd.underlying27 (by kernel_rfl) h2
  subst e0
  exact ⟨⟨z, hs, ns⟩, HA, hn, hc, NA, nn, nc, sl, rfl, ⟨hH, hN, hsl, hnx, hh, hm⟩⟩
set_option maxRecDepth 100000 in
theorem open_ints_arg (hv : Value.okWide Tryd.prog w r b0 27 v) (h : DataW.Trod enc Tryd.prog w base spare held 27 v d p) :
    ∃ A n c xs, v = .slice A n c ∧ Rd w w.heap.size 1 A n (ints xs) ∧ n ≤ maxLen := by
  obtain ⟨A, n, c, rfl⟩ := okWide_slice Tryd.underlying27 hv
  obtain ⟨fuel, hf⟩ := h
  obtain ⟨A', n', c', xs, e, hR, hm, _⟩ := read_ints Tryd.underlying27 Tryd.underlying3 (by kernel_rfl) (v := .slice A n c) (by simpa [Value.cells] using hf)
  cases e
  exact ⟨_, _, _, xs, rfl, hR, hm⟩
end
end Go.Proofs.YtlmdjkmcplobnaaDoor
