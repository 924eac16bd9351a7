/-
  A range over a function that keeps its state in a block of its own (a captured variable) and never ends by itself: what its contract says, and the law for the statement. Any program.
-/
import Derived.RangeFuncNested
import Derived.RangeFuncBound
import Derived.RangeFuncCalls
import Derived.RangeFuncLeaves
namespace Go.Proofs.Ytdkfaphclhaiaaa
open Go.RowKit
set_option linter.unusedSimpArgs false
set_option linter.unusedVariables false
/-- Whatever holds cells lies as it lay. -/
structure KC (A B : World) : Prop where
  os : B.os = A.os
  tape : B.tape = A.tape
  output : B.output = A.output
  size : A.heap.size ≤ B.heap.size
  cells : ∀ (j : Nat) (o : Obj), A.heap[j]? = some o → o.isCells = true → B.heap[j]? = some o
theorem KC.refl (A : World) : KC A A := ⟨rfl, rfl, rfl, Nat.le_refl _, fun _ _ h _ => h⟩
theorem KC.trans {A B C : World} (h : KC A B) (k : KC B C) : KC A C := ⟨k.os.trans h.os, k.tape.trans h.tape, k.output.trans h.output, Nat.le_trans h.size k.size, fun j o hj ho => k.cells j o (h.cells j o hj ho) ho⟩
theorem KC.below {A B : World} (h : Below A.heap.size A B) : KC A B := ⟨h.os, h.tape, h.output, h.size, fun j o hj _ => (h.block j (Array.getElem?_eq_some_iff.1 hj).1).trans hj⟩
theorem KC.grown {A B : World} {row : Option Nat} (h : A.grownBy B row) (hr : ∀ r, row = some r → ∃ o : Obj, A.heap[r]? = some o ∧ o.isCells = false) : KC A B :=
  ⟨h.os, h.tape, h.output, h.size, fun j o hj ho => (h.block j (Array.getElem?_eq_some_iff.1 hj).1 (fun e => by
    obtain ⟨o', h1, h2⟩ := hr j e.symm
    rw [hj] at h1
    cases h1
    rw [ho] at h2
    cases h2)).trans hj⟩
/-- What may turn between two rounds without the loop's body: new blocks, the iterator's block G, and what is no cells and lies at or beyond B (the loop's book-keeping). -/
def Steps (G B : Nat) (X Y : World) : Prop := ∃ row, X.grownBy Y row ∧ ∀ r, row = some r → r = G ∨ (B ≤ r ∧ ∃ o : Obj, X.heap[r]? = some o ∧ o.isCells = false)
/-- The contract of an iterator that never ends by itself: its state lies in block G; in round k it hands over the number k and a value of which Px holds. -/
def SeqState (P : Program) (gf : Nat) (lb : Array Value) (G : Nat) (Px : Nat → Value → World → Prop) (N : Nat) (w : World) : Prop :=
  ∀ (l : Nat) (J Jx : Nat → World → Prop) (W : World), w.heap.size ≤ l → l < W.heap.size → Below w.heap.size w W → (∀ k A B, J k A → A.grownBy B (some G) → J k B) → (∀ k A, J k A → k < N) →
    (∀ k v W1, J k W1 → Px k v W1 → YieldAt Fence.wide 1 P l #[.int .i64 (k : Int), v] W1 fun e W' =>
      (e = .returned (.bool true) ∧ J (k + 1) W' ∧ KC W1 W') ∨ (e = .returned (.bool false) ∧ Jx k W')) →
    J 0 W →
    CallsIn Fence.wide 2 P gf (#[.func (.yield l) #[] #[]] ++ lb) W fun e W' => (∃ v, e = .returned v) ∧ ∃ k, Jx k W'
/-- How a round's body may be left. -/
def postState (B : Nat) (I : Nat → World → Prop) (Ix : Code → World → Prop) (k : Nat) (W : World) : Exit → Act → World → Prop
  | .normal, _, W' => KeepsFrom B W W' ∧ KC W W' ∧ I (k + 1) W'
  | .ret, _, W' => KeepsFrom B W W' ∧ Ix .ret W'
  | .exit id, _, W' => KeepsFrom B W W' ∧ Ix (.exit id) W'
  | .goto t, _, W' => KeepsFrom B W W' ∧ Ix (.goto t) W'
  | .panic _, _, _ => False
  | .outgrown, _, _ => False
theorem Steps.putObj {G B : Nat} {W : World} {l : Nat} {o : Obj} (o' : Obj) (hB : B ≤ l) (hl : W.heap[l]? = some o) (ho : o.isCells = false) : Steps G B W (W.putObj l o') :=
  ⟨some l, grownBy_putObj' W l o', fun r e => by cases e; exact .inr ⟨hB, o, hl, ho⟩⟩
theorem Steps.alloc (G B : Nat) (W : World) (o : Obj) : Steps G B W (W.alloc o) := ⟨none, World.grownBy_alloc W o none, fun r e => by cases e⟩
theorem KC.putObj {W : World} {l : Nat} {o : Obj} (o' : Obj) (hl : W.heap[l]? = some o) (ho : o.isCells = false) : KC W (W.putObj l o') :=
  .grown (grownBy_putObj' W l o') (fun r e => by cases e; exact ⟨o, hl, ho⟩)

theorem wpIn_rangeState {P : Program} {g : Operand} {ps : Array Tmp} {assign body : Code} {Q : Exit → Act → World → Prop} {a : Act} {w : World}
    {gf : Nat} {lb : Array Value} (hg : a.eval g = .func (.func gf) #[] lb) (eg : ∀ args w, (callFunc gf args).run P w = .ok (.enter gf args) w) (hps : ps.size = 2)
    {G N : Nat} {Px : Nat → Value → World → Prop} (hG : G < w.heap.size) (hseq : SeqState P gf lb G Px N w)
    (I : Nat → World → Prop) (Ix : Code → World → Prop) (hI : ∀ k A B, I k A → Steps G w.heap.size A B → I k B) (hIx : ∀ c A B, Ix c A → Steps G w.heap.size A B → KC A B → Ix c B)
    (hN : ∀ k A, I k A → k < N) (h0 : I 0 w) (hPx : ∀ k v A B, Px k v A → KC A B → Px k v B)
    (Ax : Nat → Value → Act → World → Prop) (hAx : ∀ k v a' A B, Ax k v a' A → KC A B → Ax k v a' B)
    (hassign : ∀ (l k : Nat) (v : Value) (W : World) (K : Act → World → Prop), I k W → Px k v W → (∀ a' W', KeepsFrom w.heap.size W W' → KC W W' → I k W' → Ax k v a' W' → K a' W') →
      assign.wpIn (Fence.wide.inRound l) 1 P (Exit.then K (fun _ _ _ => False)) { tmps := (ps.zip #[.int .i64 (k : Int), v]).foldl (fun t (p, v) => t.setIfInBounds p v) a.tmps, defers := [] } W)
    (hbody : ∀ (l k : Nat) (v : Value) (a' : Act) (W : World), I k W → Px k v W → Ax k v a' W → body.wpIn (Fence.wide.inRound l) 1 P (postState w.heap.size I Ix k W) a' W)
    (hstop : ∀ (D : Nat) (c : Code) (W : World), w.heap.size ≤ D → Ix c W → W.heap[D]? = some (.deferred (some [])) → c.wpIn Fence.wide 3 P Q { a with defers := { target := .collected D, args := #[] } :: a.defers } W) :
    (Code.rangeFunc g ps assign body).wpIn Fence.wide 3 P Q a w := by
  refine wpIn_rangeFunc (fun fn hfn => ?_)
  obtain ⟨rec, hrec⟩ : ∃ rec : LoopState → Option Code → Loop, rec = fun st pe => { state := st, pending := pe, fn, tmps := a.tmps, params := ps, assign, body, defers := w.heap.size } := ⟨_, rfl⟩
  have hst : ∀ st pe, (rec st pe).state = st := by intro st pe; rw [hrec]
  obtain ⟨W1, hW1⟩ : ∃ W1, (w.alloc (.deferred (some []))).alloc (.loop (rec .ready none)) = W1 := ⟨_, rfl⟩
  have hsz1 : W1.heap.size = w.heap.size + 2 := by rw [← hW1]; simp
  have hL1 : W1.heap[w.heap.size + 1]? = some (.loop (rec .ready none)) := by
    have h := World.alloc_heap_new (w.alloc (.deferred (some []))) (.loop (rec .ready none))
    rw [World.size_alloc, hW1] at h
    exact h
  have hK1 : W1.heap[w.heap.size]? = some (.deferred (some [])) := by
    rw [← hW1]
    exact (Below.heap_alloc _ _ _ (by simp)).trans (World.alloc_heap_new w _)
  have hI1 : I 0 W1 := by rw [← hW1]; exact hI _ _ _ (hI _ _ _ h0 (.alloc _ _ _ _)) (.alloc _ _ _ _)
  have hb1 : Below w.heap.size w W1 := by rw [← hW1]; exact ((Below.refl _ w).alloc (Nat.le_refl _) _).alloc (by simp) _
  refine ⟨w.heap.size + 1, [{ target := .collected w.heap.size, args := #[] }], W1, { target := .fn (.func gf) lb, args := #[.func (.yield (w.heap.size + 1)) #[] #[]] }, W1, gf,
    #[.func (.yield (w.heap.size + 1)) #[] #[]] ++ lb, W1, ?_, ?_, fun _ _ => trivial, ?_, fun _ => by omega, ?_⟩
  · rw [← hW1, hrec]; exact run_enterLoop_outer _ _ _ _ _
  · simp only [resolve, hg]
    simp [go_sem]
  · simp [invoke, go_sem, eg]
  have hkeep : ∀ {A B : World} {st : LoopState} {pe : Option Code}, A.grownBy B (some G) → A.heap[w.heap.size + 1]? = some (.loop (rec st pe)) → A.heap[w.heap.size]? = some (.deferred (some [])) →
      B.heap[w.heap.size + 1]? = some (.loop (rec st pe)) ∧ B.heap[w.heap.size]? = some (.deferred (some [])) := fun hgr h1 h2 =>
    ⟨(hgr.block _ (Array.getElem?_eq_some_iff.1 h1).1 (fun e => by injection e with e; omega)).trans h1, (hgr.block _ (Array.getElem?_eq_some_iff.1 h2).1 (fun e => by injection e with e; omega)).trans h2⟩
  refine (hseq (w.heap.size + 1)
    (fun k W => I k W ∧ W.heap[w.heap.size + 1]? = some (.loop (rec .ready none)) ∧ W.heap[w.heap.size]? = some (.deferred (some [])))
    (fun _ W => ∃ c, Ix c W ∧ W.heap[w.heap.size + 1]? = some (.loop (rec .done (some c))) ∧ W.heap[w.heap.size]? = some (.deferred (some [])))
    W1 (by omega) (by omega) hb1 (fun k A B hs hgr => ⟨hI k A B hs.1 ⟨some G, hgr, fun r e => by cases e; exact .inl rfl⟩, hkeep hgr hs.2.1 hs.2.2⟩) (fun k A hs => hN k A hs.1) ?_ ⟨hI1, hL1, hK1⟩).mono ?_
  · -- one round
    rintro k v W ⟨hi, hl, hk⟩ hpx
    have hy := run_yield (P := P) (args := #[.int .i64 (k : Int), v]) hl (by rw [hrec]; exact hps.symm)
    rw [hrec] at hy
    refine ⟨fn, _, assign, body, hy, ?_⟩
    refine roundIn_of_wpIn trivial (hassign _ k v W _ hi hpx ?_)
    clear hy
    intro a' Wa hkf hkc hia hax
    have hla := hkf.same _ _ (by omega) hl rfl
    have hka := hkf.same _ _ (Nat.le_refl _) hk rfl
    have hpa := hPx k v W Wa hpx hkc
    have hlt : w.heap.size + 1 < Wa.heap.size := (Array.getElem?_eq_some_iff.1 hla).1
    refine ⟨_, run_beginRound hla (hst _ _), ?_⟩
    obtain ⟨rb, hrb⟩ : ∃ rb, rb = { rec .ready none with state := LoopState.busy } := ⟨_, rfl⟩
    have hr3 : ∀ (st : LoopState) (pe : Option Code), ({ rb with state := st, pending := pe } : Loop) = rec st pe := by intro st pe; rw [hrb, hrec]
    rw [← hrb]
    have hl2 : (Wa.putObj (w.heap.size + 1) (.loop rb)).heap[w.heap.size + 1]? = some (.loop rb) := World.putObj_heap_same hlt
    have hk2 : (Wa.putObj (w.heap.size + 1) (.loop rb)).heap[w.heap.size]? = some (.deferred (some [])) := (World.putObj_heap_other (by omega)).trans hka
    have hkc2 : KC Wa (Wa.putObj (w.heap.size + 1) (.loop rb)) := .putObj _ hla rfl
    refine wpIn_mono (hbody _ k v a' _ (hI _ _ _ hia (.putObj _ (by omega) hla rfl)) (hPx _ _ _ _ hpa hkc2) (hAx _ _ _ _ _ hax hkc2)) ?_
    have fin : ∀ (jump : Option Code) (W3 : World), KeepsFrom w.heap.size (Wa.putObj (w.heap.size + 1) (.loop rb)) W3 →
        ∃ W4, (Instr.endRound (w.heap.size + 1) jump).run P W3 = .ok (.bool jump.isNone) W4 ∧ Steps G w.heap.size W3 W4 ∧ KC W3 W4 ∧ W4.heap[w.heap.size + 1]? = some (.loop (rec (if jump.isNone then .ready else .done) jump)) ∧ W4.heap[w.heap.size]? = some (.deferred (some [])) := fun jump W3 hk3 => by
      have hl3 := hk3.same _ _ (by omega) hl2 rfl
      have hD3 := hk3.same _ _ (Nat.le_refl _) hk2 rfl
      refine ⟨_, run_endRound (P := P) jump hl3, .putObj _ (by omega) hl3 rfl, .putObj _ hl3 rfl, ?_, (World.putObj_heap_other (by omega)).trans hD3⟩
      rw [World.putObj_heap_same (Array.getElem?_eq_some_iff.1 hl3).1, hr3]
    rintro e a3 W3 hp
    cases e with
    | normal =>
      obtain ⟨hk3, hkc3, hi3⟩ := hp
      obtain ⟨W4, hr, hs, hc, hl4, hk4⟩ := fin none W3 hk3
      exact ⟨_, _, hr, .inl ⟨rfl, ⟨hI _ _ _ hi3 hs, hl4, hk4⟩, ((hkc.trans hkc2).trans hkc3).trans hc⟩⟩
    | ret =>
      obtain ⟨hk3, hi3⟩ := hp
      obtain ⟨W4, hr, hs, hc, hl4, hk4⟩ := fin (some .ret) W3 hk3
      exact ⟨_, _, hr, .inr ⟨rfl, .ret, hIx _ _ _ hi3 hs hc, hl4, hk4⟩⟩
    | exit id =>
      obtain ⟨hk3, hi3⟩ := hp
      obtain ⟨W4, hr, hs, hc, hl4, hk4⟩ := fin (some (.exit id)) W3 hk3
      exact ⟨_, _, hr, .inr ⟨rfl, .exit id, hIx _ _ _ hi3 hs hc, hl4, hk4⟩⟩
    | goto t =>
      obtain ⟨hk3, hi3⟩ := hp
      obtain ⟨W4, hr, hs, hc, hl4, hk4⟩ := fin (some (.goto t)) W3 hk3
      exact ⟨_, _, hr, .inr ⟨rfl, .goto t, hIx _ _ _ hi3 hs hc, hl4, hk4⟩⟩
    | panic ch => exact hp.elim
    | outgrown => exact hp.elim
  · -- behind the iterator
    rintro e W2 ⟨⟨v, rfl⟩, k, c, hi, hl, hk⟩
    exact ⟨some c, _, (by have h := run_endLoop (P := P) hl (by rw [hst]; simp); rw [hrec] at h; exact h), hstop _ c _ (Nat.le_refl _) (hIx _ _ _ hi (.putObj _ (by omega) hl rfl) (.putObj _ hl rfl)) ((World.putObj_heap_other (by omega)).trans hk)⟩
end Go.Proofs.Ytdkfaphclhaiaaa
