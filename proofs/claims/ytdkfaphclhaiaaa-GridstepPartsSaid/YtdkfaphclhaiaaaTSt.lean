/-
  A rule tree that is being built, in memory: its struct, its nodes' row, the rows of its nodes' elements; what a write to it leaves. Nothing of the program but its types stands here.
-/
import Derived.Test.YtdkfaphclhaiaaaTSPlain
import Derived.Test.YtdkfaphclhaiaaaLFrm
import Derived.Test.YtdkfaphclhaiaaaProg
namespace Go.Proofs.Ytdkfaphclhaiaaa
open Go.RowKit
set_option linter.unusedSimpArgs false
set_option linter.unusedVariables false

/-- What stays where a call writes to the tree at block b and to its nodes' row (from block B on): all below b, all blocks of other types, all nodes' blocks below B. -/
structure TFr (B b : Nat) (w w' : World) : Prop where
  below : Below b w w'
  keep : ∀ (k : Nat) (cs : Array Value) (T : TypeId) (fz : Nat × Nat), T ≠ 25 → (T = 61 → k < B) → w.heap[k]? = some (Obj.cells cs T fz) → w'.heap[k]? = some (Obj.cells cs T fz)
section
variable {B b : Nat} {w w1 w' : World}
theorem TFr.refl (B b : Nat) (w : World) : TFr B b w w := ⟨Below.refl _ _, fun _ _ _ _ _ _ h => h⟩
theorem TFr.trans (h : TFr B b w w1) (k : TFr B b w1 w') : TFr B b w w' := ⟨h.below.trans k.below, fun g cs T fz h1 h2 hh => k.keep g cs T fz h1 h2 (h.keep g cs T fz h1 h2 hh)⟩
theorem TFr.drew (h : TFr B b w w1) : TFr B b w w1.drew := ⟨h.below.drew, h.keep⟩
theorem TFr.alloc (h : TFr B b w w1) (hB : b ≤ w1.heap.size) (o : Obj) : TFr B b w (w1.alloc o) :=
  ⟨h.below.alloc hB o, fun g cs T fz h1 h2 hh => by
    have := h.keep g cs T fz h1 h2 hh
    rw [Below.heap_alloc w1 o g (heap_lt this)]; exact this⟩
theorem TFr.set {xs : List Value} {p : Addr} (h : TFr B b w w1) (hr : Row w1 p.block 25 xs) (hB : b ≤ p.block) (u : Value) : TFr B b w (w1.setCell p u) :=
  ⟨h.below.setCell hB u, fun g cs T fz h1 h2 hh => by
    have := h.keep g cs T fz h1 h2 hh
    rw [Below.heap_setCell w1 p u g (fun e => by
      subst e
      unfold Row at hr
      rw [hr] at this
      injection this with this
      injection this with _ ht
      exact h1 ht.symm)]
    exact this⟩
theorem TFr.ofBelow (h : Below w.heap.size w w') (hB : b ≤ w.heap.size) : TFr B b w w' :=
  ⟨h.mono hB, fun g cs T fz _ _ hh => by rw [h.block g (heap_lt hh)]; exact hh⟩
/-- The nodes' row grows. -/
theorem TFr.grownN {sz n : Nat} {v : Value} {xs : List Value} (h : TFr B b w w1) (ho : w1.ownsRow B 61 sz v n xs) (hB : b ≤ B) (hS : b ≤ w1.heap.size) (hg : w1.grownBy w' v.ownBlock) : TFr B b w w' := by
  refine ⟨h.below.grown hg hS (fun k hk => Nat.le_trans hB (own_block_type ho hk).choose_spec.2), fun g cs T fz h1 h2 hh => ?_⟩
  have := h.keep g cs T fz h1 h2 hh
  rw [hg.block g (heap_lt this) (fun e => by
    obtain ⟨cur, hc, hBg⟩ := own_block_type ho e.symm
    rw [hc] at this
    injection this with this
    injection this with _ ht
    have := h2 ht.symm
    omega)]
  exact this
theorem TFr.own {base sz n : Nat} {e : TypeId} {v : Value} {xs : List Value} (h : TFr B b w w') (ho : w.ownsRow base e sz v n xs) (h1 : e ≠ 25) (h2 : e ≠ 61) : w'.ownsRow base e sz v n xs :=
  ⟨ho.1, ho.2.imp id (fun ⟨g, cap, cur, a, c, d, r⟩ => ⟨g, cap, cur, a, c, h.keep g cur e (0, 0) h1 (fun e => absurd e h2) d, r⟩)⟩
theorem TFr.row {g : Nat} {T : TypeId} {xs : List Value} (h : TFr B b w w') (hr : Row w g T xs) (h1 : T ≠ 25) (h2 : T = 61 → g < B) : Row w' g T xs := h.keep g _ T (0, 0) h1 h2 hr
end

theorem nodesCells_snoc (ns : List Nd) (sl : List Sl) (x : Nd) (s : Sl) (h : sl.length = ns.length) : nodesCells (ns ++ [x]) (sl ++ [s]) = nodesCells ns sl ++ [.int .i64 x.level, .slice s.at_ s.len s.cap] := by
  unfold nodesCells
  rw [List.zip_append h.symm, List.flatMap_append]
  rfl
theorem gsl_snoc (sl : List Sl) (s : Sl) : (sl ++ [s]).getD sl.length default = s := by
  rw [List.getD_eq_getElem?_getD, List.getElem?_append_right (Nat.le_refl _)]; simp
theorem gsl_old (sl : List Sl) (s : Sl) (i : Nat) (h : i < sl.length) : (sl ++ [s]).getD i default = sl.getD i default := by
  rw [List.getD_eq_getElem?_getD, List.getElem?_append_left h, ← List.getD_eq_getElem?_getD]

/-- The rows of the nodes' elements; none of them in block q. -/
def NextAt (w : World) (ns : List Nd) (sl : List Sl) (q : Option Nat) : Prop :=
  ∀ i, i < ns.length → w.ownsRow 0 3 1 (.slice (sl.getD i default).at_ (sl.getD i default).len (sl.getD i default).cap) (sl.getD i default).len (ints (ns.getD i default).next) ∧
    ∀ k, q = some k → (Value.slice (sl.getD i default).at_ (sl.getD i default).len (sl.getD i default).cap).ownBlock ≠ some k
/-- The tree that is built, at block b: its states, its neighbourhood, its nodes (a row from block B on). -/
def TSt (w : World) (B b : Nat) (st : Int) (hv : Value) (ns : List Nd) (q : Option Nat) : Prop :=
  ∃ (v : Value) (sl : List Sl), Row w b 25 [.int .i64 st, hv, v] ∧ w.ownsRow B 61 2 v ns.length (nodesCells ns sl) ∧ sl.length = ns.length ∧ b ≤ B ∧ NextAt w ns sl q
section
variable {w w' w0 : World} {B b : Nat} {st : Int} {hv : Value} {ns : List Nd} {q : Option Nat}
theorem NextAt.keep {sl : List Sl} (h : NextAt w ns sl q) (hk : ∀ k cs, w.heap[k]? = some (Obj.cells cs 3 (0, 0)) → (∀ i, i < ns.length → (Value.slice (sl.getD i default).at_ (sl.getD i default).len (sl.getD i default).cap).ownBlock = some k → w'.heap[k]? = some (Obj.cells cs 3 (0, 0)))) : NextAt w' ns sl q := by
  intro i hi
  obtain ⟨h1, h2⟩ := h i hi
  refine ⟨⟨h1.1, h1.2.imp id (fun ⟨g, cap, cur, a, c, d, r⟩ => ⟨g, cap, cur, a, c, hk g cur d i hi (by rw [a]; rfl), r⟩)⟩, h2⟩
theorem TSt.new (w : World) (st : Int) (hv : Value) (q : Option Nat) {b B : Nat} (hr : Row w b 25 [.int .i64 st, hv, .slice none 0 0]) (hB : b ≤ B) : TSt w B b st hv [] q :=
  ⟨_, [], hr, World.ownsRow_nil _ _ _ _, rfl, hB, fun i hi => absurd hi (Nat.not_lt_zero _)⟩
theorem TSt.blk (h : TSt w B b st hv ns q) : b < w.heap.size ∧ b ≤ B := by
  obtain ⟨v, sl, h1, _, _, h3, _⟩ := h
  exact ⟨h1.lt, h3⟩
theorem TSt.op (h : TSt w B b st hv ns q) : ∃ NA nc sl, Row w b 25 [.int .i64 st, hv, .slice NA ns.length nc] ∧ w.ownsRow B 61 2 (.slice NA ns.length nc) ns.length (nodesCells ns sl) ∧ sl.length = ns.length ∧ b ≤ B ∧ NextAt w ns sl q := by
  obtain ⟨v, sl, h1, h2, h3, h4, h5⟩ := h
  obtain ⟨NA, nc, rfl, _⟩ := Rd.own h2
  exact ⟨NA, nc, sl, h1, h2, h3, h4, h5⟩
theorem TSt.keepAll (h : TSt w B b st hv ns q) (hb : ∀ k, k < w.heap.size → w'.heap[k]? = w.heap[k]?) : TSt w' B b st hv ns q := by
  obtain ⟨v, sl, h1, h2, h3, h4, h5⟩ := h
  exact ⟨v, sl, (hb b h1.lt).trans h1, ⟨h2.1, h2.2.imp id (fun ⟨g, cap, cur, a, b', c, d⟩ => ⟨g, cap, cur, a, b', (hb g (heap_lt c)).trans c, d⟩)⟩, h3, h4, h5.keep (fun k cs hk _ _ _ => (hb k (heap_lt hk)).trans hk)⟩
theorem TSt.below (h : TSt w B b st hv ns q) (hb : Below w.heap.size w w') : TSt w' B b st hv ns q := h.keepAll hb.block
theorem TSt.alloc (h : TSt w B b st hv ns q) (o : Obj) : TSt (w.alloc o) B b st hv ns q := h.keepAll (fun k hk => Below.heap_alloc w o k hk)
theorem TSt.drew (h : TSt w B b st hv ns q) : TSt w.drew B b st hv ns q := h
/-- The avoided block is forgotten, or another one, not yet there, is avoided. -/
theorem TSt.free (h : TSt w B b st hv ns q) : TSt w B b st hv ns none := by
  obtain ⟨v, sl, h1, h2, h3, h4, h5⟩ := h
  exact ⟨v, sl, h1, h2, h3, h4, fun i hi => ⟨(h5 i hi).1, fun k hk => by cases hk⟩⟩
/-- A row of integers grows: the one that the nodes avoid. -/
theorem TSt.grownQ {n : Nat} {u u' : Value} {xs : List Value} (h : TSt w B b st hv ns u.ownBlock) (ho : w.ownsRow 0 3 1 u n xs) (hg : w.grownBy w' u.ownBlock) (ha : u'.ownBlock = u.ownBlock ∨ u'.ownBlock = some w.heap.size) : TSt w' B b st hv ns u'.ownBlock := by
  obtain ⟨v, sl, h1, h2, h3, h4, h5⟩ := h
  have key : ∀ k cs T, T ≠ 3 → w.heap[k]? = some (Obj.cells cs T (0, 0)) → w'.heap[k]? = some (Obj.cells cs T (0, 0)) := fun k cs T ht hh => by
    rw [hg.block k (heap_lt hh) (fun he => by
      obtain ⟨cur, hc, _⟩ := own_block_type ho he.symm
      rw [hc] at hh
      injection hh with hh
      injection hh with _ h4
      exact ht h4.symm)]
    exact hh
  refine ⟨v, sl, key b _ _ (by decide) h1, ⟨h2.1, h2.2.imp id (fun ⟨g, cap, cur, a, b', c, d⟩ => ⟨g, cap, cur, a, b', key g cur _ (by decide) c, d⟩)⟩, h3, h4, fun i hi => ?_⟩
  obtain ⟨i1, i2⟩ := h5 i hi
  have hlt := own_lt i1
  refine ⟨own_grown i1 hg (fun k hk e => i2 k e hk), fun k hk he => ?_⟩
  rcases ha with ha | ha
  · exact i2 k (ha ▸ hk) he
  · rw [ha] at hk
    injection hk with hk
    have := hlt k he
    omega
/-- A node is appended and stored. -/
theorem TSt.push {v v' : Value} {n : Nat} {x : Nd} {s : Sl} {sl : List Sl} (hr : Row w b 25 [.int .i64 st, hv, v]) (ho : w.ownsRow B 61 2 v n (nodesCells ns sl)) (hn : ns.length = n) (hsl : sl.length = ns.length) (hB : b ≤ B) (hx : NextAt w ns sl q)
    (hs : w.ownsRow 0 3 1 (.slice s.at_ s.len s.cap) s.len (ints x.next)) (hq : ∀ k, q = some k → (Value.slice s.at_ s.len s.cap).ownBlock ≠ some k) (hg : w.grownBy w' v.ownBlock)
    (ho' : w'.ownsRow B 61 2 v' (n + 1) (nodesCells ns sl ++ [.int .i64 x.level, .slice s.at_ s.len s.cap])) (hF : TFr B b w0 w) :
    Row w' b 25 [.int .i64 st, hv, v] ∧ TSt (w'.setCell ⟨b, 2, none⟩ v') B b st hv (ns ++ [x]) q ∧ TFr B b w0 (w'.setCell ⟨b, 2, none⟩ v') ∧ TFr B b w0 w' := by
  have hbl := hr.lt
  have r1 : Row w' b 25 [.int .i64 st, hv, v] := hr.grown hg (fun e => (own_ne_row ho hr (by decide)) e.symm)
  have f1 : TFr B b w0 w' := TFr.grownN hF ho hB (by omega) hg
  have f2 : TFr B b w w' := TFr.grownN (TFr.refl _ _ _) ho hB (by omega) hg
  have f3 : TFr B b w (w'.setCell ⟨b, 2, none⟩ v') := TFr.set (p := ⟨b, 2, none⟩) f2 r1 (Nat.le_refl _) _
  refine ⟨r1, ⟨v', sl ++ [s], r1.set 2 v', ?_, ?_, hB, ?_⟩, TFr.set (p := ⟨b, 2, none⟩) f1 r1 (Nat.le_refl _) _, f1⟩
  · rw [nodesCells_snoc _ _ _ _ hsl, List.length_append, List.length_singleton, hn]
    exact own_set (p := ⟨b, 2, none⟩) ho' r1 (by decide) v'
  · rw [List.length_append, List.length_append, hsl]; rfl
  · intro i hi
    rw [List.length_append, List.length_singleton] at hi
    by_cases e : i < ns.length
    · rw [(prefOf.snoc ns x).get i e, gsl_old sl s i (by omega)]
      exact ⟨f3.own (hx i e).1 (by decide) (by decide), (hx i e).2⟩
    · obtain rfl : i = ns.length := by omega
      rw [gnd_snoc]
      have e2 : (sl ++ [s]).getD ns.length default = s := by rw [← hsl]; exact gsl_snoc sl s
      rw [e2]
      exact ⟨f3.own hs (by decide) (by decide), hq⟩
/-- The tree that is built, as it lies there. -/
theorem TSt.tree {HA : Option Addr} {hn hc : Nat} {hood : List Pt} (h : TSt w B b st (.slice HA hn hc) ns q) (hh : Rd w w.heap.size 2 HA hn (hoodCells hood)) (h63 : hn ≤ maxLen) (hl : ns.length ≤ 5000) (hx : ∀ x ∈ ns, x.next.length ≤ 20) :
    ∃ NA nc sl, Row w b 25 [.int .i64 st, .slice HA hn hc, .slice NA ns.length nc] ∧ TAt w ⟨st, hood, ns⟩ HA NA hn ns.length sl := by
  obtain ⟨NA, nc, sl, h1, h2, h3, _, h5⟩ := h.op
  refine ⟨NA, nc, sl, h1, hh, Rd.of_own h2, h3, fun i hi => ?_, h63, by unfold maxLen; show ns.length ≤ _; omega⟩
  have h6 := (h5 i hi).1
  refine ⟨Rd.of_own h6, ?_⟩
  have h7 := h6.1
  rw [ints_length] at h7
  have h8 : (ns.getD i default) ∈ ns := by
    rw [List.getD_eq_getElem?_getD, List.getElem?_eq_getElem hi]; exact List.getElem_mem hi
  have := hx _ h8
  unfold maxLen
  omega
end
theorem nodesIn_next (S : Nat) (ns : List Nd) (lo : Nat) (b : Int) (c : Nat) (x : Nd) (h : x ∈ (nodesIn S ns lo b c).1) : x ∈ ns ∨ x.next.length = S := by
  induction c with
  | zero => exact .inl h
  | succ c ih =>
    simp only [nodesIn, List.mem_append, List.mem_singleton] at h
    rcases h with h | rfl
    · exact ih h
    · exact .inr (by simp)

/-- What a call returns that returns a tree and an error. -/
def TPost (t : Tre) (k : Int) (w : World) (e : Ending) (w' : World) : Prop := ∃ HA NA hn hc nn nc sl, e = .returned (.tuple #[.agg #[.int .i64 t.states, .slice HA hn hc, .slice NA nn nc], .int .i64 k]) ∧ TAt w' t HA NA hn nn sl ∧ Below w.heap.size w w'
theorem noTre_at (w : World) : TAt w noTre none none 0 0 [] := ⟨Rd.empty _, Rd.empty _, rfl, fun i hi => absurd hi (Nat.not_lt_zero _), by unfold maxLen; omega, by unfold maxLen; omega⟩
theorem tpost_err {t : Tre} {k : Int} {w w' : World} (h : t = noTre) (hb : Below w.heap.size w w') : TPost t k w (.returned (.tuple #[.agg #[.int .i64 0, .slice none 0 0, .slice none 0 0], .int .i64 k])) w' := by
  subst h
  exact ⟨none, none, 0, 0, 0, 0, [], rfl, noTre_at _, hb⟩
end Go.Proofs.Ytdkfaphclhaiaaa
