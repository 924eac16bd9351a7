/-
  Words for memory that every walk of this work uses: a slice that reads as a list of cells (nil and empty let in), kept over new blocks, stores elsewhere, draws. Nothing of the program stands here.
-/
import Derived.Handy
import Derived.Deep.LoopGhost
import Derived.Deep.Draws
import Derived.Deep.AppendLies
import Derived.Laws.OwnMore
import Derived.Lib.Hide
namespace Go.Proofs.Ytamijjpnklbgnaa
open Go.RowKit
set_option linter.unusedSimpArgs false
set_option linter.unusedVariables false

theorem add_block (a : Addr) (n : Nat) : (a.add n).block = a.block := by unfold Addr.add; split <;> rfl
theorem add_add' (a : Addr) (i j : Nat) : (a.add i).add j = a.add (i + j) := by
  unfold Addr.add
  by_cases hi : i = 0 <;> by_cases hj : j = 0 <;> simp [hi, hj, Nat.add_assoc]

/-- The slice at address A of length n, its elements of sz cells each, reads as the cells xs, all below block B. -/
def Rd (w : World) (B sz : Nat) (A : Option Addr) (n : Nat) (xs : List Value) : Prop :=
  xs.length = n * sz ∧ (0 < n → ∃ ad, A = some ad ∧ ad.block < B ∧ ∀ j u, xs[j]? = some u → w.cell? (ad.add j) = some u)

section
variable {w w' : World} {B B' sz n : Nat} {A : Option Addr} {xs : List Value}
theorem Rd.empty (A : Option Addr) : Rd w B sz A 0 [] := ⟨by simp, fun h => absurd h (by omega)⟩
theorem Rd.len (h : Rd w B sz A n xs) : xs.length = n * sz := h.1
theorem Rd.ex (h : Rd w B sz A n xs) (hn : 0 < n) : ∃ ad, A = some ad ∧ ad.block < B ∧ ∀ j u, xs[j]? = some u → w.cell? (ad.add j) = some u := h.2 hn
theorem Rd.keep (h : Rd w B sz A n xs) (hk : ∀ p : Addr, p.block < B → w'.cell? p = w.cell? p) : Rd w' B sz A n xs :=
  ⟨h.1, fun hn => let ⟨ad, e, hb, hc⟩ := h.2 hn; ⟨ad, e, hb, fun j u hu => (hk _ (by rw [add_block]; exact hb)).trans (hc j u hu)⟩⟩
theorem Rd.more (h : Rd w B sz A n xs) (hB : B ≤ B') : Rd w B' sz A n xs :=
  ⟨h.1, fun hn => let ⟨ad, e, hb, hc⟩ := h.2 hn; ⟨ad, e, by omega, hc⟩⟩
theorem Rd.below (h : Rd w B sz A n xs) {C : Nat} (hb : Below C w w') (hB : B ≤ C) : Rd w' B sz A n xs := h.keep fun _ hp => hb.cell (by omega)
/-- What read at a call's beginning reads in every later world. -/
theorem Rd.up (h : Rd w w.heap.size sz A n xs) (hb : Below w.heap.size w w') : Rd w' w'.heap.size sz A n xs := (h.below hb (Nat.le_refl _)).more hb.size
theorem Rd.drew (h : Rd w B sz A n xs) : Rd w.drew B sz A n xs := h
theorem Rd.drewN (h : Rd w B sz A n xs) (k : Nat) : Rd (w.drewN k) B sz A n xs := h
theorem Rd.alloc (h : Rd w B sz A n xs) (hB : B ≤ w.heap.size) (o : Obj) : Rd (w.alloc o) B sz A n xs := h.keep fun p hp => World.cell?_alloc_lt w o p (by omega)
theorem Rd.setCell (h : Rd w B sz A n xs) {p : Addr} (hB : B ≤ p.block) (u : Value) : Rd (w.setCell p u) B sz A n xs :=
  h.keep fun q hq => World.cell?_setCell_other w p q u (fun e => by subst e; omega)
theorem Rd.of_own {base : Nat} {e : TypeId} {c : Nat} (h : w.ownsRow base e sz (.slice A n c) n xs) : Rd w w.heap.size sz A n xs := by
  refine ⟨h.1, fun hn => ?_⟩
  obtain ⟨g, cap, hv, _, hlt⟩ := h.form hn
  have hA : A = some ⟨g, 0, none⟩ := by injection hv
  subst hA
  exact ⟨_, rfl, hlt, h.cells (g := g) rfl⟩
/-- The address of an element that is there. -/
theorem Rd.some_ (h : Rd w B sz A n xs) {k : Nat} (hk : k < n) : ∃ ad, A = some ad ∧ ad.block < B ∧ ∀ j u, xs[j]? = some u → w.cell? (ad.add j) = some u := h.2 (by omega)
theorem Rd.get1 (h : Rd w B 1 A n xs) {k : Nat} (hk : k < n) : ∃ ad u, A = some ad ∧ ad.block < B ∧ xs[k]? = some u ∧ w.cell? (ad.add k) = some u := by
  obtain ⟨ad, e, hb, hc⟩ := h.2 (by omega)
  have hl : k < xs.length := by have := h.1; omega
  exact ⟨ad, xs[k], e, hb, List.getElem?_eq_getElem hl, hc k _ (List.getElem?_eq_getElem hl)⟩
end

/-- What lies below a box that the call laid at its head lies below the call. -/
theorem below_box {w w' : World} {o : Obj} {k : Nat} (h : Below (w.heap.size + k) (w.alloc o) w') : Below w.heap.size w w' :=
  ((Below.refl _ _).alloc (Nat.le_refl _) o).trans (h.mono (by omega))
/-- A call of a function value of function f comes to f's body. -/
theorem enters {P : Program} {f : FuncId} {fn : Func} {c : Code} (hf : P.funcs[f]? = some fn) (hn : (fn.name == "runtime.NumGoroutine") = false) (hb : fn.body = some c) (args : Array Value) (w : World) :
    (callFunc f args).run P w = .ok (.enter f args) w := by
  have h1 : fn.name ≠ "runtime.NumGoroutine" := by simpa using hn
  simp [callFunc, hf, h1, hb, mark]
theorem below_drewN {B : Nat} {a w : World} (h : Below B a w) (n : Nat) : Below B a (w.drewN n) := ⟨h.os, h.tape, h.output, h.size, h.block⟩
theorem ret_bool {a b : Bool} (h : a = b) : Ending.returned (.bool a) = .returned (.bool b) := by rw [h]
theorem ret_i64 {a b : Int} (h : a = b) : Ending.returned (.int .i64 a) = .returned (.int .i64 b) := by rw [h]

/-- Three cells of an element, as a load of a struct of three asks for them. -/
theorem Rd.row3 {w : World} {B n : Nat} {A : Option Addr} {xs : List Value} (h : Rd w B 3 A n xs) {k : Nat} (hk : k < n) {x0 x1 x2 : Value}
    (h0 : xs[k * 3]? = some x0) (h1 : xs[k * 3 + 1]? = some x1) (h2 : xs[k * 3 + 2]? = some x2) :
    ∃ ad, A = some ad ∧ ad.block < B ∧ w.cell? (ad.add (k * 3)) = some x0 ∧ w.cell? ⟨(ad.add (k * 3)).block, (ad.add (k * 3)).off + 1, none⟩ = some x1 ∧ w.cell? ⟨(ad.add (k * 3)).block, (ad.add (k * 3)).off + 2, none⟩ = some x2 := by
  obtain ⟨ad, e, hb, hc⟩ := h.2 (by omega)
  refine ⟨ad, e, hb, hc _ _ h0, ?_, ?_⟩
  · exact (congrArg w.cell? (add_add' ad (k * 3) 1)).trans (hc _ _ h1)
  · exact (congrArg w.cell? (add_add' ad (k * 3) 2)).trans (hc _ _ h2)

/-- Integers as cells. -/
def ints (zs : List Int) : List Value := zs.map (Value.int .i64)
/-- A word as a cell. -/
def w64 (x : BitVec 64) : Value := .int .u64 (x.toNat : Int)
def w64s (xs : List (BitVec 64)) : List Value := xs.map w64
def bools (bs : List Bool) : List Value := bs.map Value.bool
@[simp] theorem ints_length (zs : List Int) : (ints zs).length = zs.length := by simp [ints]
theorem ints_get (zs : List Int) (k : Nat) (h : k < zs.length) : (ints zs)[k]? = some (.int .i64 (zs.getD k 0)) := by
  simp [ints, List.getElem?_map, List.getElem?_eq_getElem h, List.getD_eq_getElem?_getD]
theorem Rd.int {w : World} {B n : Nat} {A : Option Addr} {zs : List Int} (h : Rd w B 1 A n (ints zs)) {k : Nat} (hk : k < n) :
    ∃ ad, A = some ad ∧ ad.block < B ∧ w.cell? (ad.add k) = some (.int .i64 (zs.getD k 0)) := by
  obtain ⟨ad, u, e, hb, hu, hc⟩ := h.get1 hk
  have hl : k < zs.length := by have := h.1; simp at this; omega
  rw [ints_get zs k hl] at hu
  injection hu with hu
  exact ⟨ad, e, hb, by rw [hc, hu]⟩
/-- Block g is just the cells xs of element type T, none of them frozen. -/
def Row (w : World) (g : Nat) (T : TypeId) (xs : List Value) : Prop := w.heap[g]? = some (.cells xs.toArray T (0, 0))
section
variable {w w' : World} {g : Nat} {T : TypeId} {xs : List Value}
theorem Row.lt (h : Row w g T xs) : g < w.heap.size := by
  rcases Nat.lt_or_ge g w.heap.size with hl | hge
  · exact hl
  · unfold Row at h; rw [Array.getElem?_eq_none hge] at h; cases h
theorem Row.cell (h : Row w g T xs) (i : Nat) : w.cell? ⟨g, i, none⟩ = xs[i]? := by
  rw [cell_of_row w g i xs.toArray T (0, 0) h]; simp
theorem Row.frozen (h : Row w g T xs) (i : Nat) : w.frozen? ⟨g, i, none⟩ = false := by
  unfold Row at h
  simp [World.frozen?, h]
theorem Row.new (w : World) (T : TypeId) (xs : List Value) : Row (w.alloc (.cells xs.toArray T)) w.heap.size T xs := heap_alloc_new w _
theorem Row.drew (h : Row w g T xs) : Row w.drew g T xs := h
theorem Row.drewN (h : Row w g T xs) (n : Nat) : Row (w.drewN n) g T xs := h
theorem Row.alloc (h : Row w g T xs) (o : Obj) : Row (w.alloc o) g T xs := (Below.heap_alloc w o g h.lt).trans h
theorem Row.set (h : Row w g T xs) (i : Nat) (u : Value) : Row (w.setCell ⟨g, i, none⟩ u) g T (xs.set i u) := by
  unfold Row at h ⊢
  simp [World.setCell, Array.getElem?_modify, h]
theorem Row.far (h : Row w g T xs) {p : Addr} (hp : g ≠ p.block) (u : Value) : Row (w.setCell p u) g T xs := (Below.heap_setCell w p u g hp).trans h
theorem Row.below {B : Nat} (h : Row w g T xs) (hb : Below B w w') (hg : g < B) : Row w' g T xs := (hb.block g hg).trans h
theorem Row.grown {row : Option Nat} (h : Row w g T xs) (hb : w.grownBy w' row) (hg : some g ≠ row) : Row w' g T xs := (hb.block g h.lt hg).trans h
theorem add_zero_off (g j : Nat) : (⟨g, 0, none⟩ : Addr).add j = ⟨g, j, none⟩ := by
  unfold Addr.add
  split
  · rename_i h; rw [h]
  · simp
theorem Row.rd (h : Row w g T xs) {sz n : Nat} (hn : xs.length = n * sz) : Rd w w.heap.size sz (some ⟨g, 0, none⟩) n xs :=
  ⟨hn, fun _ => ⟨_, rfl, h.lt, fun j u hu => by rw [add_zero_off, h.cell]; exact hu⟩⟩
theorem Row.own (h : Row w g T xs) {base sz n : Nat} (hb : base ≤ g) (hn : xs.length = n * sz) (hm : n ≤ maxLen) : w.ownsRow base T sz (.slice (some ⟨g, 0, none⟩) n n) n xs :=
  ⟨hn, .inr ⟨g, n, xs.toArray, rfl, hb, h, Nat.le_refl _, hm, by simpa using hn, by simp [← hn]⟩⟩
end

/-- A new row of n like cells. -/
def likeRow (z : Value) (n : Nat) : Array Value := (List.replicate n z).toArray
theorem madeCells_one (z : Value) (n : Nat) : madeCells #[z] n = likeRow z n := by
  apply Array.ext
  · simp [madeCells, likeRow]
  · intro i h1 h2
    simp [madeCells, likeRow, Nat.mod_one]
/-- make of n elements of one cell each, the size reckoned as x. -/
theorem make_like {P : Program} {t e : TypeId} {z : Value} {bytes : Nat} (ht : P.underlying t = some (.slice e)) (hi : (P.info? e).map (fun i => (i.zero, i.size, i.bytes)) = some (some z, 1, bytes)) (hz : z.cells = #[z])
    (n : Nat) (x : Int) (hx : x = n) (hb : bytes * n ≤ 281474976710656) (hn : n ≤ 9223372036854775807) (W : World) :
    (Instr.makeSlice t (.int .i64 x) (.int .i64 x)).run P W = .ok (.slice (some ⟨W.heap.size, 0, none⟩) n n) (W.alloc (.cells (likeRow z n) e)) := by
  obtain ⟨i, h1, h2, h3, h4⟩ := info_parts hi
  subst hx
  have hb' : (i.bytes : Int) * (n : Int) ≤ 281474976710656 := by
    rw [h4, ← Int.natCast_mul]; omega
  have hr := run_make (P := P) W t e i z ht h1 h2 .i64 .i64 (n : Int) (n : Int) (by omega) (by omega) hb' (by omega)
  simp only [Int.toNat_natCast, h3, Nat.mul_one, hz, madeCells_one] at hr
  exact hr
end Go.Proofs.Ytamijjpnklbgnaa
