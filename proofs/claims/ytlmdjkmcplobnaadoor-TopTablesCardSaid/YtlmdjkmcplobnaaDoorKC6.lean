/-
  The builder of a tree in memory while it builds; a node and its text that a call makes beside it.
-/
import Derived.Test.YtlmdjkmcplobnaaDoorKC4
import Derived.Test.YtlmdjkmcplobnaaDoorKC5
import Derived.Laws.BytesArg
import Derived.Lib.OthersKept
import Derived.Lib.AppendIntMem
import Derived.Ground.NamesProg
import Derived.Shelf.Strconv.AppendIntPublic10
import Derived.Lib.ItoaLen
import Derived.Lib.LaidTab
import Derived.Test.YtlmdjkmcplobnaaDoorProg
namespace Go.Proofs.YtlmdjkmcplobnaaDoor
open Go.RowKit
set_option linter.unusedSimpArgs false
set_option linter.unusedVariables false
def blk (A : Option Addr) : Option Nat := A.map (·.block)
theorem own_blk (A : Option Addr) (n c : Nat) : (Value.slice A n c).ownBlock = blk A := by cases A <;> rfl
theorem blk_some {A : Option Addr} {g : Nat} (h : A = some ⟨g, 0, none⟩) : blk A = some g := by rw [h]; rfl
section
variable {w w' : World} {base sz n : Nat} {e : TypeId} {v : Value} {xs : List Value}
theorem own_same (ho : w.ownsRow base e sz v n xs) (hk : ∀ k, v.ownBlock = some k → w'.heap[k]? = w.heap[k]?) : w'.ownsRow base e sz v n xs :=
  ⟨ho.1, ho.2.imp id (fun ⟨g, cap, cur, a, b, c, d⟩ => ⟨g, cap, cur, a, b, (hk g (by rw [a]; rfl)).trans c, d⟩)⟩
theorem Kept.own {S : Nat → Prop} (h : Kept S w w') (ho : w.ownsRow base e sz v n xs) (hs : ∀ k, v.ownBlock = some k → ¬ S k) : w'.ownsRow base e sz v n xs :=
  own_same ho (fun k hk => h.block k (own_lt ho k hk) (hs k hk))
theorem Kept.grown {S : Nat → Prop} {a : World} {row : Option Nat} (h : Kept S a w) (hg : w.grownBy w' row) (hr : ∀ k, row = some k → S k ∨ a.heap.size ≤ k) : Kept S a w' :=
  ⟨hg.os.trans h.os, hg.tape.trans h.tape, hg.output.trans h.output, Nat.le_trans h.size hg.size, fun k hk hs => (hg.block k (Nat.lt_of_lt_of_le hk h.size) (fun q => by
    rcases hr k q.symm with h1 | h1
    · exact hs h1
    · omega)).trans (h.block k hk hs)⟩
end
/-- Where the builder lies: its struct, its map, the box of the table, the states, the neighbourhood. -/
structure BEnv where
  bb : Nat
  mb : Nat
  tb : Nat
  S : Nat
  HA : Option Addr
  hn : Nat
  hc : Nat
def BEnv.fv (E : BEnv) : Value := .func (.func 11) #[] #[.pointer (some ⟨E.tb, 0, none⟩)]
/-- Where its rows lie now. -/
structure BPos where
  NA : Option Addr
  nc : Nat
  sl : List Sl
  IA : Option Addr
  ic : Nat
/-- The builder's blocks. -/
def BPos.R (p : BPos) (E : BEnv) (k : Nat) : Prop := k = E.bb ∨ k = E.mb ∨ blk p.NA = some k ∨ blk p.IA = some k ∨ ∃ i, i < p.sl.length ∧ blk (p.sl.getD i default).at_ = some k
def BEnv.cells (E : BEnv) (p : BPos) (n i : Nat) : List Value := [.int .i64 (E.S : Int), .slice E.HA E.hn E.hc, .slice p.NA n p.nc, .map (some E.mb), .slice p.IA i p.ic, E.fv]
def Sl.val (s : Sl) : Value := .slice s.at_ s.len s.cap
structure BSt (w0 : World) (E : BEnv) (p : BPos) (ins : List Int) (ns : List Nd) (F : Value → Option Value) (w : World) : Prop where
  bel : Below w0.heap.size w0 w
  bB : w0.heap.size ≤ E.bb
  bM : w0.heap.size ≤ E.mb
  row : Row w E.bb 65 (E.cells p ns.length ins.length)
  nown : w.ownsRow w0.heap.size 72 2 (.slice p.NA ns.length p.nc) ns.length (nodesCells ns p.sl)
  iown : w.ownsRow w0.heap.size 3 1 (.slice p.IA ins.length p.ic) ins.length (ints ins)
  sll : p.sl.length = ns.length
  nxt : ∀ i, i < ns.length → w.ownsRow w0.heap.size 3 1 (p.sl.getD i default).val (p.sl.getD i default).len (ints (ns.getD i default).next)
  nxI : ∀ i, i < ns.length → ∀ k, blk (p.sl.getD i default).at_ = some k → blk p.IA ≠ some k
  mp : MK w Tryd.prog 9 E.mb F
/-- What a stretch of the building does to all that is not its own. -/
structure BMove (E : BEnv) (p : BPos) (w : World) (p' : BPos) (w' : World) : Prop where
  kept : Kept (p.R E) w w'
  old : ∀ k, k < w.heap.size → p'.R E k → p.R E k
section
variable {w0 w w' w1 : World} {E : BEnv} {p p' p1 : BPos} {ins : List Int} {ns : List Nd} {F F' : Value → Option Value}
theorem BMove.refl (E : BEnv) (p : BPos) (w : World) : BMove E p w p w := ⟨Kept.refl _ _, fun _ _ h => h⟩
theorem BMove.trans (h : BMove E p w p1 w1) (k : BMove E p1 w1 p' w') : BMove E p w p' w' :=
  ⟨h.kept.trans k.kept h.old, fun i hi hr => h.old i hi (k.old i (Nat.lt_of_lt_of_le hi h.kept.size) hr)⟩
theorem BMove.below (E : BEnv) (p : BPos) (h : Below w.heap.size w w') : BMove E p w p w' := ⟨Kept.ofBelow h, fun _ _ h => h⟩
/-- A write beside the builder's blocks, into blocks that were not there at the beginning. -/
theorem BMove.far {S : Nat → Prop} (h : BMove E p w p1 w1) (k : Kept S w1 w') (hS : ∀ i, S i → w.heap.size ≤ i) : BMove E p w p1 w' :=
  ⟨h.kept.trans k (fun i hi hs => absurd (hS i hs) (by omega)), h.old⟩
theorem BMove.not (h : BMove E p w p1 w1) {k : Nat} (hk : k < w.heap.size) (hn : ¬ p.R E k) : ¬ p1.R E k := fun hr => hn (h.old k hk hr)
theorem BSt.lt (h : BSt w0 E p ins ns F w) {k : Nat} (hk : p.R E k) : w0.heap.size ≤ k ∧ k < w.heap.size := by
  rcases hk with rfl | rfl | hk | hk | ⟨i, hi, hk⟩
  · exact ⟨h.bB, h.row.lt⟩
  · exact ⟨h.bM, h.mp.lt⟩
  · exact h.nown.lt k (by rw [own_blk]; exact hk)
  · exact h.iown.lt k (by rw [own_blk]; exact hk)
  · exact (h.nxt i (by rw [← h.sll]; exact hi)).lt k (by unfold Sl.val; rw [own_blk]; exact hk)
/-- None of the builder's blocks is a row of bytes. -/
theorem BSt.no8 (h : BSt w0 E p ins ns F w) {k : Nat} (hk : p.R E k) (c : Array Value) (fz : Nat × Nat) : w.heap[k]? ≠ some (.cells c 5 fz) := by
  intro e
  have key : ∀ {T : TypeId} {base sz n : Nat} {v : Value} {xs : List Value}, w.ownsRow base T sz v n xs → v.ownBlock = some k → T = 5 := fun ho hb => by
    obtain ⟨cur, hc, _⟩ := own_block_type ho hb
    rw [hc] at e
    injection e with e
    injection e
  rcases hk with rfl | rfl | hk | hk | ⟨i, hi, hk⟩
  · have := h.row
    unfold Row at this
    rw [this] at e
    injection e with e
    injection e with _ e
    exact absurd e (by decide)
  · obtain ⟨es, clock, hb, _⟩ := h.mp
    rw [hb] at e; cases e
  · exact absurd (key h.nown (by rw [own_blk]; exact hk)) (by decide)
  · exact absurd (key h.iown (by rw [own_blk]; exact hk)) (by decide)
  · exact absurd (key (h.nxt i (by rw [← h.sll]; exact hi)) (by unfold Sl.val; rw [own_blk]; exact hk)) (by decide)
theorem BSt.same (h : BSt w0 E p ins ns F w) (hb : Below w0.heap.size w0 w') (hk : ∀ k, p.R E k → w'.heap[k]? = w.heap[k]?) : BSt w0 E p ins ns F w' :=
  ⟨hb, h.bB, h.bM, (hk _ (.inl rfl)).trans h.row, own_same h.nown (fun k q => hk k (.inr (.inr (.inl (by rw [← own_blk]; exact q))))), own_same h.iown (fun k q => hk k (.inr (.inr (.inr (.inl (by rw [← own_blk]; exact q)))))), h.sll,
    fun i hi => own_same (h.nxt i hi) (fun k q => hk k (.inr (.inr (.inr (.inr ⟨i, by rw [h.sll]; exact hi, by rw [← own_blk]; exact q⟩))))), h.nxI, h.mp.block (hk _ (.inr (.inl rfl)))⟩
theorem BSt.far {S : Nat → Prop} (h : BSt w0 E p ins ns F w) (k : Kept S w w') (h0 : ∀ i, S i → w0.heap.size ≤ i) (hS : ∀ i, S i → ¬ p.R E i) : BSt w0 E p ins ns F w' :=
  h.same (h.bel.trans (k.below h0 h.bel.size)) (fun i hi => k.block i (h.lt hi).2 (fun e => hS i e hi))
theorem BSt.below (h : BSt w0 E p ins ns F w) (hb : Below w.heap.size w w') : BSt w0 E p ins ns F w' := h.same (h.bel.trans (hb.mono h.bel.size)) (fun k hk => hb.block k (h.lt hk).2)
theorem BSt.ne (h : BSt w0 E p ins ns F w) : blk p.NA ≠ some E.bb ∧ blk p.IA ≠ some E.bb ∧ E.mb ≠ E.bb ∧ blk p.NA ≠ some E.mb ∧ blk p.IA ≠ some E.mb ∧ (∀ k, blk p.NA = some k → blk p.IA ≠ some k) ∧ ∀ i, i < ns.length → blk (p.sl.getD i default).at_ ≠ some E.bb ∧ blk (p.sl.getD i default).at_ ≠ some E.mb ∧ ∀ k, blk p.NA = some k → blk (p.sl.getD i default).at_ ≠ some k := by
  have hn := h.nown
  have hi := h.iown
  refine ⟨?_, ?_, h.mp.row_ne h.row, ?_, ?_, ?_, fun i hl => ⟨?_, ?_, ?_⟩⟩
  · rw [← own_blk _ ns.length p.nc]; exact own_ne_row hn h.row (by decide)
  · rw [← own_blk _ ins.length p.ic]; exact own_ne_row hi h.row (by decide)
  · rw [← own_blk _ ns.length p.nc]; exact h.mp.own_ne hn
  · rw [← own_blk _ ins.length p.ic]; exact h.mp.own_ne hi
  · intro k h1 h2
    obtain ⟨c1, q1, _⟩ := own_block_type hn (k := k) (by rw [own_blk]; exact h1)
    obtain ⟨c2, q2, _⟩ := own_block_type hi (k := k) (by rw [own_blk]; exact h2)
    rw [q1] at q2
    injection q2 with q2
    injection q2 with _ q2
    exact absurd q2 (by decide)
  · have := h.nxt i hl
    unfold Sl.val at this
    rw [← own_blk _ (p.sl.getD i default).len (p.sl.getD i default).cap]; exact own_ne_row this h.row (by decide)
  · have := h.nxt i hl
    unfold Sl.val at this
    rw [← own_blk _ (p.sl.getD i default).len (p.sl.getD i default).cap]; exact h.mp.own_ne this
  · intro k h1 h2
    obtain ⟨c1, q1, _⟩ := own_block_type hn (k := k) (by rw [own_blk]; exact h1)
    obtain ⟨c2, q2, _⟩ := own_block_type (h.nxt i hl) (k := k) (by unfold Sl.val; rw [own_blk]; exact h2)
    rw [q1] at q2
    injection q2 with q2
    injection q2 with _ q2
    exact absurd q2 (by decide)
/-- The rows of the struct's slices keep their blocks where the struct is written. -/
theorem BSt.setIn {IA : Option Addr} {ic : Nat} {ins' : List Int} (h : BSt w0 E p ins ns F w) (hn : ∀ k, blk IA = some k → blk p.IA = some k ∨ w.heap.size ≤ k) (hg : w.grownBy w' (blk p.IA)) (ho : w'.ownsRow w0.heap.size 3 1 (.slice IA ins'.length ic) ins'.length (ints ins')) :
    BSt w0 E { p with IA := IA, ic := ic } ins' ns F (w'.setCell ⟨E.bb, 4, none⟩ (.slice IA ins'.length ic)) ∧ BMove E p w { p with IA := IA, ic := ic } (w'.setCell ⟨E.bb, 4, none⟩ (.slice IA ins'.length ic)) ∧ Row w' E.bb 65 (E.cells p ns.length ins.length) := by
  obtain ⟨e1, e2, e3, e4, e5, e6, e7⟩ := h.ne
  have hrow : Row w' E.bb 65 (E.cells p ns.length ins.length) := h.row.grown hg (fun q => e2 q.symm)
  have hK : Kept (p.R E) w w' := Kept.grown (Kept.refl _ _) hg (fun k hk => .inl (.inr (.inr (.inr (.inl hk)))))
  have hK2 : Kept (p.R E) w (w'.setCell ⟨E.bb, 4, none⟩ (.slice IA ins'.length ic)) := hK.set (p := ⟨E.bb, 4, none⟩) (.inl (.inl rfl)) _
  have hold : ∀ k, k < w.heap.size → k ≠ E.bb → blk p.IA ≠ some k → (w'.setCell ⟨E.bb, 4, none⟩ (.slice IA ins'.length ic)).heap[k]? = w.heap[k]? := fun k hk h1 h2 =>
    (Below.heap_setCell w' ⟨E.bb, 4, none⟩ _ k h1).trans (hg.block k hk (fun q => h2 q.symm))
  refine ⟨⟨h.bel.trans (hK2.below (fun k hk => (h.lt hk).1) h.bel.size), h.bB, h.bM, hrow.set 4 _, own_same h.nown (fun k hk => ?_), own_set (p := ⟨E.bb, 4, none⟩) ho hrow (by decide) _, h.sll, fun i hi => own_same (h.nxt i hi) (fun k hk => ?_), fun i hi k hk => ?_, h.mp.block (hold _ h.mp.lt e3 e5)⟩, ⟨hK2, fun k hk hr => ?_⟩, hrow⟩
  · have hb : blk p.NA = some k := by rw [← own_blk]; exact hk
    exact hold k (own_lt h.nown k hk) (fun q => e1 (q ▸ hb)) (e6 k hb)
  · have hb : blk (p.sl.getD i default).at_ = some k := by rw [← own_blk]; exact hk
    exact hold k (own_lt (h.nxt i hi) k hk) (fun q => (e7 i hi).1 (q ▸ hb)) (h.nxI i hi k hb)
  · show blk IA ≠ some k
    intro q
    rcases hn k q with q2 | q2
    · exact h.nxI i hi k hk q2
    · have := (h.nxt i hi).lt k (by unfold Sl.val; rw [own_blk]; exact hk)
      omega
  · rcases hr with rfl | rfl | q | q | q
    · exact .inl rfl
    · exact .inr (.inl rfl)
    · exact .inr (.inr (.inl q))
    · rcases hn k q with q2 | q2
      · exact .inr (.inr (.inr (.inl q2)))
      · omega
    · exact .inr (.inr (.inr (.inr q)))
theorem BSt.popIn {s : Int} (h : BSt w0 E p (ins ++ [s]) ns F w) : BSt w0 E p ins ns F (w.setCell ⟨E.bb, 4, none⟩ (.slice p.IA ins.length p.ic)) ∧ BMove E p w p (w.setCell ⟨E.bb, 4, none⟩ (.slice p.IA ins.length p.ic)) := by
  have ho : w.ownsRow w0.heap.size 3 1 (.slice p.IA ins.length p.ic) ins.length (ints ins) := by
    obtain ⟨_, q⟩ := h.iown
    refine ⟨by simp, .inr ?_⟩
    rcases q with ⟨q1, q2⟩ | ⟨g, cap, cur, q1, q2, q3, q4, q5, q6, q7⟩
    · simp at q2
    · simp only [List.length_append, List.length_singleton] at q1 q4 q7
      injection q1 with r1 r2 r3
      refine ⟨g, cap, cur, by rw [r1, r3], q2, q3, by omega, q5, q6, ?_⟩
      have := congrArg (List.take ins.length) q7
      rw [List.take_take, Nat.min_eq_left (by omega)] at this
      simpa [ints] using this
  obtain ⟨a, b, _⟩ := h.setIn (IA := p.IA) (ic := p.ic) (ins' := ins) (w' := w) (fun k hk => .inl hk) ⟨rfl, rfl, rfl, Nat.le_refl _, fun _ _ _ => rfl⟩ ho
  exact ⟨a, b⟩
theorem BSt.mapUp (h : BSt w0 E p ins ns F w) (hg : w.grownBy w' (some E.mb)) (hm : MK w' Tryd.prog 9 E.mb F') : BSt w0 E p ins ns F' w' ∧ BMove E p w p w' := by
  obtain ⟨e1, e2, e3, e4, e5, e6, e7⟩ := h.ne
  have hK : Kept (p.R E) w w' := Kept.grown (Kept.refl _ _) hg (fun k hk => .inl (.inr (.inl (by injection hk with hk; exact hk.symm))))
  have hold : ∀ k, k < w.heap.size → k ≠ E.mb → w'.heap[k]? = w.heap[k]? := fun k hk h1 => hg.block k hk (fun q => by injection q with q; exact h1 q)
  exact ⟨⟨h.bel.trans (hK.below (fun k hk => (h.lt hk).1) h.bel.size), h.bB, h.bM, (hold _ h.row.lt (fun q => e3 q.symm)).trans h.row, own_same h.nown (fun k hk => hold k (own_lt h.nown k hk) (fun q => e4 (by rw [← q, ← own_blk]; exact hk))),
    own_same h.iown (fun k hk => hold k (own_lt h.iown k hk) (fun q => e5 (by rw [← q, ← own_blk]; exact hk))), h.sll, fun i hi => own_same (h.nxt i hi) (fun k hk => hold k (own_lt (h.nxt i hi) k hk) (fun q => (e7 i hi).2.1 (by rw [← q, ← own_blk]; exact hk))), h.nxI, hm⟩, ⟨hK, fun _ _ h => h⟩⟩
/-- A node is appended. -/
theorem BSt.pushN {NA : Option Addr} {nc : Nat} {x : Nd} {s : Sl} (h : BSt w0 E p ins ns F w) (hn : ∀ k, blk NA = some k → blk p.NA = some k ∨ w.heap.size ≤ k) (hg : w.grownBy w' (blk p.NA)) (ho : w'.ownsRow w0.heap.size 72 2 (.slice NA (ns.length + 1) nc) (ns.length + 1) (nodesCells ns p.sl ++ [.int .i64 x.level, s.val]))
    (hs : w.ownsRow w0.heap.size 3 1 s.val s.len (ints x.next)) (hf : ∀ k, blk s.at_ = some k → ¬ p.R E k) :
    BSt w0 E { p with NA := NA, nc := nc, sl := p.sl ++ [s] } ins (ns ++ [x]) F (w'.setCell ⟨E.bb, 2, none⟩ (.slice NA (ns.length + 1) nc)) ∧ Row w' E.bb 65 (E.cells p ns.length ins.length) ∧
      Kept (fun k => p.R E k) w (w'.setCell ⟨E.bb, 2, none⟩ (.slice NA (ns.length + 1) nc)) ∧ ∀ k, k < w.heap.size → ({ p with NA := NA, nc := nc, sl := p.sl ++ [s] } : BPos).R E k → p.R E k ∨ blk s.at_ = some k := by
  obtain ⟨e1, e2, e3, e4, e5, e6, e7⟩ := h.ne
  have hrow : Row w' E.bb 65 (E.cells p ns.length ins.length) := h.row.grown hg (fun q => e1 q.symm)
  have hK : Kept (p.R E) w w' := Kept.grown (Kept.refl _ _) hg (fun k hk => .inl (.inr (.inr (.inl hk))))
  have hK2 : Kept (p.R E) w (w'.setCell ⟨E.bb, 2, none⟩ (.slice NA (ns.length + 1) nc)) := hK.set (p := ⟨E.bb, 2, none⟩) (.inl (.inl rfl)) _
  have hold : ∀ k, k < w.heap.size → k ≠ E.bb → blk p.NA ≠ some k → (w'.setCell ⟨E.bb, 2, none⟩ (.slice NA (ns.length + 1) nc)).heap[k]? = w.heap[k]? := fun k hk h1 h2 =>
    (Below.heap_setCell w' ⟨E.bb, 2, none⟩ _ k h1).trans (hg.block k hk (fun q => h2 q.symm))
  have hget : ∀ i, i < ns.length → (p.sl ++ [s]).getD i default = p.sl.getD i default := fun i hi => gsl_old p.sl s i (by rw [h.sll]; exact hi)
  have hgl : (p.sl ++ [s]).getD ns.length default = s := by rw [← h.sll]; exact gsl_snoc p.sl s
  have hnd : ∀ i, i < ns.length → (ns ++ [x]).getD i default = ns.getD i default := fun i hi => by
    simp only [List.getD_eq_getElem?_getD]; rw [List.getElem?_append_left hi]
  have hnl : (ns ++ [x]).getD ns.length default = x := by simp [List.getD_eq_getElem?_getD]
  have hlen : (ns ++ [x]).length = ns.length + 1 := by simp
  refine ⟨⟨h.bel.trans (hK2.below (fun k hk => (h.lt hk).1) h.bel.size), h.bB, h.bM, ?_, ?_, own_same h.iown (fun k hk => ?_), by simp [h.sll], fun i hi => ?_, fun i hi k hk => ?_, h.mp.block (hold _ h.mp.lt e3 e4)⟩, hrow, hK2, fun k hk hr => ?_⟩
  · rw [hlen]; exact hrow.set 2 _
  · rw [hlen, nodesCells_snoc _ _ _ _ h.sll]
    exact own_set (p := ⟨E.bb, 2, none⟩) ho hrow (by decide) _
  · have hb : blk p.IA = some k := by rw [← own_blk]; exact hk
    exact hold k (own_lt h.iown k hk) (fun q => e2 (q ▸ hb)) (fun q => e6 k q hb)
  · rw [hlen] at hi
    show World.ownsRow _ _ _ _ ((p.sl ++ [s]).getD i default).val ((p.sl ++ [s]).getD i default).len _
    rcases Nat.lt_or_ge i ns.length with hl | hl
    · rw [hget i hl, hnd i hl]
      exact own_same (h.nxt i hl) (fun k hk => by
        have hb : blk (p.sl.getD i default).at_ = some k := by rw [← own_blk]; exact hk
        exact hold k (own_lt (h.nxt i hl) k hk) (fun q => (e7 i hl).1 (q ▸ hb)) (fun q => (e7 i hl).2.2 k q hb))
    · obtain rfl : i = ns.length := by omega
      rw [hgl, hnl]
      exact own_same hs (fun k hk => by
        have hb : blk s.at_ = some k := by rw [← own_blk]; exact hk
        exact hold k (own_lt hs k hk) (fun q => hf k hb (.inl q)) (fun q => hf k hb (.inr (.inr (.inl q)))))
  · rw [hlen] at hi
    change blk ((p.sl ++ [s]).getD i default).at_ = some k at hk
    rcases Nat.lt_or_ge i ns.length with hl | hl
    · rw [hget i hl] at hk
      exact h.nxI i hl k hk
    · obtain rfl : i = ns.length := by omega
      rw [hgl] at hk
      exact fun q => hf k hk (.inr (.inr (.inr (.inl q))))
  · rcases hr with rfl | rfl | q | q | ⟨i, hi, q⟩
    · exact .inl (.inl rfl)
    · exact .inl (.inr (.inl rfl))
    · rcases hn k q with q2 | q2
      · exact .inl (.inr (.inr (.inl q2)))
      · omega
    · exact .inl (.inr (.inr (.inr (.inl q))))
    · change i < (p.sl ++ [s]).length at hi
      change blk ((p.sl ++ [s]).getD i default).at_ = some k at q
      rw [List.length_append, List.length_singleton, h.sll] at hi
      rcases Nat.lt_or_ge i ns.length with hl | hl
      · rw [hget i hl] at q
        exact .inl (.inr (.inr (.inr (.inr ⟨i, by rw [h.sll]; exact hl, q⟩))))
      · obtain rfl : i = ns.length := by omega
        rw [hgl] at q
        exact .inr q
end
theorem BSt.congrF {w0 w : World} {E : BEnv} {p : BPos} {ins : List Int} {ns : List Nd} {F F' : Value → Option Value} (h : BSt w0 E p ins ns F w) (hf : ∀ v, F' v = F v) : BSt w0 E p ins ns F' w := by
  obtain rfl : F' = F := funext hf
  exact h
theorem BMove.push {E : BEnv} {p p1 p' : BPos} {w w1 w' : World} {A : Option Addr} (h : BMove E p w p1 w1) (hk : Kept (p1.R E) w1 w') (ho : ∀ k, k < w1.heap.size → p'.R E k → p1.R E k ∨ blk A = some k) (hA : ∀ k, blk A = some k → w.heap.size ≤ k) : BMove E p w p' w' :=
  ⟨h.kept.trans hk h.old, fun k hk1 hr => by
    rcases ho k (Nat.lt_of_lt_of_le hk1 h.kept.size) hr with q | q
    · exact h.old k hk1 q
    · have := hA k q; omega⟩
/-- A node that a call makes: its box, the row of its elements. -/
structure XSt (E : BEnv) (p : BPos) (e0 xb : Nat) (lev : Int) (XA : Option Addr) (xc : Nat) (next : List Int) (w : World) : Prop where
  row : Row w xb 72 [.int .i64 lev, .slice XA next.length xc]
  own : w.ownsRow e0 3 1 (.slice XA next.length xc) next.length (ints next)
  eb : e0 ≤ xb
  nb : ¬ p.R E xb
  na : ∀ k, blk XA = some k → ¬ p.R E k
/-- Its text. -/
structure KSt (E : BEnv) (p : BPos) (e0 : Nat) (KA : Option Addr) (kc : Nat) (txt : List UInt8) (w : World) : Prop where
  own : w.ownsRow e0 5 1 (.slice KA txt.length kc) txt.length (Lib.byteCells txt)
section
variable {w0 w w' w1 : World} {E : BEnv} {p p' p1 : BPos} {ins : List Int} {ns : List Nd} {F F' : Value → Option Value} {e0 xb : Nat} {lev : Int} {XA KA : Option Addr} {xc kc : Nat} {next : List Int} {txt : List UInt8}
theorem XSt.far {S : Nat → Prop} (h : XSt E p e0 xb lev XA xc next w) (k : Kept S w w') (h1 : ¬ S xb) (h2 : ∀ i, blk XA = some i → ¬ S i) : XSt E p e0 xb lev XA xc next w' :=
  ⟨k.row h.row h1, k.own h.own (fun i hi => h2 i (by rw [← own_blk]; exact hi)), h.eb, h.nb, h.na⟩
theorem XSt.move (h : XSt E p e0 xb lev XA xc next w) (m : BMove E p w p' w') : XSt E p' e0 xb lev XA xc next w' :=
  ⟨m.kept.row h.row h.nb, m.kept.own h.own (fun i hi => h.na i (by rw [← own_blk]; exact hi)), h.eb, m.not h.row.lt h.nb, fun k hk => m.not (own_lt h.own k (by rw [own_blk]; exact hk)) (h.na k hk)⟩
theorem KSt.far {S : Nat → Prop} (h : KSt E p e0 KA kc txt w) (k : Kept S w w') (h2 : ∀ i, blk KA = some i → ¬ S i) : KSt E p e0 KA kc txt w' :=
  ⟨k.own h.own (fun i hi => h2 i (by rw [← own_blk]; exact hi))⟩
theorem KSt.notR (h : KSt E p e0 KA kc txt w) (hb : BSt w0 E p ins ns F w) : ∀ k, blk KA = some k → ¬ p.R E k := fun k hk hr => by
  obtain ⟨cur, hc, _⟩ := own_block_type h.own (k := k) (by rw [own_blk]; exact hk)
  exact hb.no8 hr cur (0, 0) hc
theorem KSt.move (h : KSt E p e0 KA kc txt w) (hb : BSt w0 E p ins ns F w) (m : BMove E p w p' w') : KSt E p' e0 KA kc txt w' :=
  ⟨m.kept.own h.own (fun i hi => h.notR hb i (by rw [← own_blk]; exact hi))⟩
/-- The rows of bytes from a base on. -/
def U8 (w : World) (e0 : Nat) (k : Nat) : Prop := e0 ≤ k ∧ (w.heap.size ≤ k ∨ ∃ c fz, w.heap[k]? = some (.cells c 5 fz))
theorem kept_u8 (hb : Below e0 w w') (ho : Lib.OthersKept 5 none w w') : Kept (U8 w e0) w w' :=
  ⟨hb.os, hb.tape, hb.output, hb.size, fun k hk hs => by
    rcases Nat.lt_or_ge k e0 with hl | hl
    · exact hb.block k hl
    · have hx : w.heap[k]? = some w.heap[k] := Array.getElem?_eq_getElem hk
      refine (ho k w.heap[k] hx (by simp) (fun c fz e => hs ⟨hl, .inr ⟨c, fz, by rw [hx, e]⟩⟩)).trans hx.symm⟩
theorem BSt.u8 (h : BSt w0 E p ins ns F w) (hk : Kept (U8 w e0) w w') (h0 : w0.heap.size ≤ e0) : BSt w0 E p ins ns F w' :=
  h.far hk (fun i hi => Nat.le_trans h0 hi.1) (fun i hi hr => by
    rcases hi.2 with h1 | ⟨c, fz, h1⟩
    · have := (h.lt hr).2; omega
    · exact h.no8 hr c fz h1)
theorem XSt.u8 (h : XSt E p e0 xb lev XA xc next w) (hk : Kept (U8 w e0) w w') : XSt E p e0 xb lev XA xc next w' := by
  refine h.far hk (fun hi => ?_) (fun i hb hi => ?_)
  · rcases hi.2 with h1 | ⟨c, fz, h1⟩
    · have := h.row.lt; omega
    · have := h.row
      unfold Row at this
      rw [this] at h1
      injection h1 with h1
      injection h1 with _ h1
      exact absurd h1 (by decide)
  · obtain ⟨cur, hc, _⟩ := own_block_type h.own (k := i) (by rw [own_blk]; exact hb)
    rcases hi.2 with h1 | ⟨c, fz, h1⟩
    · have := own_lt h.own i (by rw [own_blk]; exact hb); omega
    · rw [hc] at h1
      injection h1 with h1
      injection h1 with _ h1
      exact absurd h1 (by decide)
theorem BMove.u8 (h : BMove E p w p1 w1) (hk : Kept (U8 w1 e0) w1 w') (h0 : w.heap.size ≤ e0) : BMove E p w p1 w' := h.far hk (fun i hi => Nat.le_trans h0 hi.1)
/-- An element is appended to the node's row. -/
theorem XSt.push {XA' : Option Addr} {xc' : Nat} {k : Int} (h : XSt E p e0 xb lev XA xc next w) (hb : BSt w0 E p ins ns F w) (hn : ∀ i, blk XA' = some i → blk XA = some i ∨ w.heap.size ≤ i) (hg : w.grownBy w' (blk XA)) (ho : w'.ownsRow e0 3 1 (.slice XA' (next ++ [k]).length xc') (next ++ [k]).length (ints (next ++ [k]))) :
    XSt E p e0 xb lev XA' xc' (next ++ [k]) (w'.setCell ⟨xb, 1, none⟩ (.slice XA' (next ++ [k]).length xc')) ∧ Kept (fun i => i = xb ∨ blk XA = some i) w (w'.setCell ⟨xb, 1, none⟩ (.slice XA' (next ++ [k]).length xc')) ∧ Row w' xb 72 [.int .i64 lev, .slice XA next.length xc] := by
  have hne : blk XA ≠ some xb := by rw [← own_blk _ next.length xc]; exact own_ne_row h.own h.row (by decide)
  have hrow : Row w' xb 72 [.int .i64 lev, .slice XA next.length xc] := h.row.grown hg (fun q => hne q.symm)
  refine ⟨⟨hrow.set 1 _, own_set (p := ⟨xb, 1, none⟩) ho hrow (by decide) _, h.eb, h.nb, fun i hi hr => ?_⟩, Kept.set (Kept.grown (Kept.refl _ _) hg (fun k hk => .inl (.inr hk))) (p := ⟨xb, 1, none⟩) (.inl (.inl rfl)) _, hrow⟩
  rcases hn i hi with q | q
  · exact h.na i q hr
  · have := (hb.lt hr).2; omega
theorem XSt.notR (h : XSt E p e0 xb lev XA xc next w) : ∀ i, (i = xb ∨ blk XA = some i) → e0 ≤ i ∧ ¬ p.R E i := fun i hi => by
  rcases hi with rfl | hi
  · exact ⟨h.eb, h.nb⟩
  · exact ⟨(h.own.lt i (by rw [own_blk]; exact hi)).1, h.na i hi⟩
theorem KSt.notX (h : KSt E p e0 KA kc txt w) (hx : XSt E p e0 xb lev XA xc next w) : ∀ i, blk KA = some i → ¬ (i = xb ∨ blk XA = some i) := fun i hi hq => by
  obtain ⟨cur, hc, _⟩ := own_block_type h.own (k := i) (by rw [own_blk]; exact hi)
  rcases hq with rfl | hq
  · have := hx.row
    unfold Row at this
    rw [this] at hc
    injection hc with hc
    injection hc with _ hc
    exact absurd hc (by decide)
  · obtain ⟨cur2, hc2, _⟩ := own_block_type hx.own (k := i) (by rw [own_blk]; exact hq)
    rw [hc] at hc2
    injection hc2 with hc2
    injection hc2 with _ hc2
    exact absurd hc2 (by decide)
end
set_option maxRecDepth 100000 in
/-- The text as a string. -/
theorem conv_txt (w : World) {e0 kc n : Nat} {KA : Option Addr} {txt : List UInt8} (h : w.ownsRow e0 5 1 (.slice KA n kc) n (Lib.byteCells txt)) (hl : txt.length = n) :
    (convert 78 9 (.slice KA n kc)).run Tryd.prog w = Result.ok (.string (KT.mkS txt)) w := by
  have hs : strOfNums (txt.map fun b => (b.toNat : Int)) = KT.mkS txt := by
    unfold KT.mkS
    have h1 := strOfNums_data (txt.map fun b => (b.toNat : Int))
    have h2 : (txt.map fun b => (b.toNat : Int)).map (fun n => UInt8.ofNat n.toNat) = txt := by
      rw [List.map_map]
      conv => rhs; rw [← List.map_id txt]
      refine List.map_congr_left fun b _ => ?_
      simp
    rw [h2] at h1
    have h3 : ∀ a b : ByteArray, a.data.toList = b.data.toList → a = b := fun a b hab => by
      cases a; cases b
      congr
      exact Array.toList_inj.1 hab
    exact h3 _ _ (by rw [h1])
  rcases h.2 with ⟨e1, e2⟩ | ⟨g, cap, cur, e1, _, hg, hn, _, hcs, ht⟩
  · subst e2
    injection e1 with r1 r2 r3
    subst r1
    have : txt = [] := List.eq_nil_of_length_eq_zero hl
    subst this
    exact (run_convert_bytes_nil (P := Tryd.prog) w 78 5 Tryd.underlying78 Tryd.underlying5 _ _ 9 Tryd.underlying9).trans rfl
  · injection e1 with r1 r2 r3
    subst r1
    refine (run_convert_bytes_arg (P := Tryd.prog) w 78 5 Tryd.underlying78 Tryd.underlying5 g 0 n kc (txt.map fun b => (b.toNat : Int)) (by rw [List.length_map]; exact hl) (fun i hi => ?_) 9 Tryd.underlying9).trans (congrArg (fun s => Result.ok (Value.string s) w) hs)
    have hcell : w.cell? ⟨g, 0 + i, none⟩ = (Lib.byteCells txt)[i]? := by
      rw [cell_of_row w g (0 + i) cur 5 (0, 0) hg, ← ht, List.getElem?_take, if_pos (by omega)]
      simp
    rw [hcell]
    unfold Lib.byteCells
    rw [List.getElem?_map, List.getElem?_eq_getElem (by omega), List.getD_eq_getElem?_getD, List.getElem?_map, List.getElem?_eq_getElem (by omega)]
    rfl
end Go.Proofs.YtlmdjkmcplobnaaDoor

/-
  strconv.AppendInt at base 10 by the shelf's contract at this program (plain text).
-/
namespace Go.Proofs.YtlmdjkmcplobnaaDoor
open Go.RowKit Go.Shelf
set_option linter.unusedSimpArgs false
set_option linter.unusedVariables false
def laysA_ren : Go.Shelf.Ren := ⟨fun | 176 => 37 | 249 => 46 | 288 => 52 | 283 => 55 | 284 => 56 | 285 => 57 | 286 => 58 | 129 => 60 | 317 => 59 | 318 => 61 | 319 => 62 | 320 => 63 | 337 => 64 | 338 => 65 | n => n, fun | 37 => 78 | 2 => 2 | 3 => 3 | 53 => 100 | 4 => 4 | 9 => 9 | 171 => 104 | 0 => 0 | 173 => 107 | 212 => 110 | 51 => 111 | 5 => 5 | 20 => 20 | 213 => 112 | 46 => 113 | 232 => 116 | 233 => 117 | n => n, fun | 17 => 1 | 18 => 2 | 19 => 3 | n => n⟩
theorem laysA : Go.Proofs.LaysM.n176 Tryd.prog laysA_ren := {
  mixed := by kernel_rfl,
  f129 := Tryd.func60.trans (congrArg some (by kernel_rfl)),
  f176 := Tryd.func37.trans (congrArg some (by kernel_rfl)),
  f249 := Tryd.func46.trans (congrArg some (by kernel_rfl)),
  f283 := Tryd.func55.trans (congrArg some (by kernel_rfl)),
  f284 := Tryd.func56.trans (congrArg some (by kernel_rfl)),
  f285 := Tryd.func57.trans (congrArg some (by kernel_rfl)),
  f286 := Tryd.func58.trans (congrArg some (by kernel_rfl)),
  f288 := Tryd.func52.trans (congrArg some (by kernel_rfl)),
  f317 := Tryd.func59.trans (congrArg some (by kernel_rfl)),
  f318 := Tryd.func61.trans (congrArg some (by kernel_rfl)),
  f319 := Tryd.func62.trans (congrArg some (by kernel_rfl)),
  f320 := Tryd.func63.trans (congrArg some (by kernel_rfl)),
  f337 := Tryd.func64.trans (congrArg some (by kernel_rfl)),
  f338 := Tryd.func65.trans (congrArg some (by kernel_rfl)),
  t0 := Tryd.underlying0,
  a0 := Tryd.isAgg0,
  z0 := Tryd.sizeOf0,
  v0 := Tryd.zeroValue0,
  t2 := Tryd.underlying2,
  a2 := Tryd.isAgg2,
  z2 := Tryd.sizeOf2,
  v2 := Tryd.zeroValue2,
  t3 := Tryd.underlying3,
  a3 := Tryd.isAgg3,
  z3 := Tryd.sizeOf3,
  v3 := Tryd.zeroValue3,
  t4 := Tryd.underlying4,
  a4 := Tryd.isAgg4,
  z4 := Tryd.sizeOf4,
  v4 := Tryd.zeroValue4,
  t5 := Tryd.underlying5,
  a5 := Tryd.isAgg5,
  z5 := Tryd.sizeOf5,
  v5 := Tryd.zeroValue5,
  t9 := Tryd.underlying9,
  a9 := Tryd.isAgg9,
  z9 := Tryd.sizeOf9,
  v9 := Tryd.zeroValue9,
  t20 := Tryd.underlying20,
  a20 := Tryd.isAgg20,
  z20 := Tryd.sizeOf20,
  v20 := Tryd.zeroValue20,
  t37 := Tryd.underlying78,
  a37 := Tryd.isAgg78,
  z37 := Tryd.sizeOf78,
  v37 := Tryd.zeroValue78,
  t46 := Tryd.underlying113,
  a46 := Tryd.isAgg113,
  z46 := Tryd.sizeOf113,
  v46 := Tryd.zeroValue113,
  t51 := Tryd.underlying111,
  a51 := Tryd.isAgg111,
  z51 := Tryd.sizeOf111,
  v51 := Tryd.zeroValue111,
  t53 := Tryd.underlying100,
  a53 := Tryd.isAgg100,
  z53 := Tryd.sizeOf100,
  v53 := Tryd.zeroValue100,
  t171 := Tryd.underlying104,
  a171 := Tryd.isAgg104,
  z171 := Tryd.sizeOf104,
  v171 := Tryd.zeroValue104,
  t173 := Tryd.underlying107,
  a173 := Tryd.isAgg107,
  z173 := Tryd.sizeOf107,
  v173 := Tryd.zeroValue107,
  t212 := Tryd.underlying110,
  a212 := Tryd.isAgg110,
  z212 := Tryd.sizeOf110,
  v212 := Tryd.zeroValue110,
  t213 := Tryd.underlying112,
  a213 := Tryd.isAgg112,
  z213 := Tryd.sizeOf112,
  t232 := Tryd.underlying116,
  a232 := Tryd.isAgg116,
  z232 := Tryd.sizeOf116,
  v232 := Tryd.zeroValue116,
  t233 := Tryd.underlying117,
  a233 := Tryd.isAgg117,
  z233 := Tryd.sizeOf117,
  v233 := Tryd.zeroValue117,
  g17 := by kernel_rfl,
  g18 := by kernel_rfl,
  g19 := by kernel_rfl,
  i0 := by kernel_rfl,
  i2 := by kernel_rfl,
  i3 := by kernel_rfl,
  i4 := by kernel_rfl,
  i5 := by kernel_rfl,
  i9 := by kernel_rfl,
  i20 := by kernel_rfl,
  i37 := by kernel_rfl,
  i46 := by kernel_rfl,
  i51 := by kernel_rfl,
  i53 := by kernel_rfl,
  i171 := by kernel_rfl,
  i173 := by kernel_rfl,
  i212 := by kernel_rfl,
  i232 := by kernel_rfl,
  i233 := by kernel_rfl,
  m17 := by kernel_rfl,
  m18 := by kernel_rfl,
  m19 := by kernel_rfl }
theorem appendInt_any (B n : Nat) (i : Int) (h0 : -9223372036854775808 ≤ i) (h1 : i ≤ 9223372036854775807) (sv : Value) (xs : List Value) (w : World) (hown : w.ownsRow B 5 1 sv n xs) (hBw : B ≤ w.heap.size) (hlim : n + 21 ≤ 140737488355328)
    (htab : Lib.TabBelow Tryd.prog B w "internal/strconv.uint64pow10" .u64 Lib.pow10Tab) :
    Calls Tryd.prog 37 #[sv, .int .i64 i, .int .i64 10] w fun e w' => ∃ v', e = .returned v' ∧ w'.ownsRow B 5 1 v' (n + (Lib.itoa i).length) (xs ++ Lib.byteCells (Lib.itoa i)) ∧ Below B w w' ∧ Lib.OthersKept 5 none w w' :=
  Any.strconv_AppendInt_10 laysA B n i h0 h1 sv xs w hown hBw hlim htab
end Go.Proofs.YtlmdjkmcplobnaaDoor
