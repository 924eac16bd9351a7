/-
  What stays where a call writes to a struct of its own and to a row of its own: all that lies below, and all blocks of other element types. Rows of rows. Any program.
-/
import Derived.Test.YtbomfekfebamkaaVC1
import Derived.Test.YtbomfekfebamkaaProg
namespace Go.Proofs.Ytbomfekfebamkaa
open Go.RowKit
set_option linter.unusedSimpArgs false
set_option linter.unusedVariables false

structure Frm (B : Nat) (T1 T2 : TypeId) (w w' : World) : Prop where
  below : Below B w w'
  keep : ∀ (k : Nat) (cs : Array Value) (T : TypeId) (fz : Nat × Nat), T ≠ T1 → T ≠ T2 → w.heap[k]? = some (Obj.cells cs T fz) → w'.heap[k]? = some (Obj.cells cs T fz)
theorem heap_lt {w : World} {k : Nat} {o : Obj} (h : w.heap[k]? = some o) : k < w.heap.size := by
  rcases Nat.lt_or_ge k w.heap.size with hl | hge
  · exact hl
  · rw [Array.getElem?_eq_none hge] at h; cases h
section
variable {B : Nat} {T1 T2 : TypeId} {w w1 w' : World}
theorem Frm.refl (B : Nat) (T1 T2 : TypeId) (w : World) : Frm B T1 T2 w w := ⟨Below.refl _ _, fun _ _ _ _ _ _ h => h⟩
theorem Frm.trans (h : Frm B T1 T2 w w1) (k : Frm B T1 T2 w1 w') : Frm B T1 T2 w w' := ⟨h.below.trans k.below, fun b cs T fz h1 h2 hh => k.keep b cs T fz h1 h2 (h.keep b cs T fz h1 h2 hh)⟩
theorem Frm.drewN (h : Frm B T1 T2 w w1) (n : Nat) : Frm B T1 T2 w (w1.drewN n) := ⟨below_drewN h.below n, h.keep⟩
theorem Frm.alloc (h : Frm B T1 T2 w w1) (hB : B ≤ w1.heap.size) (o : Obj) : Frm B T1 T2 w (w1.alloc o) :=
  ⟨h.below.alloc hB o, fun b cs T fz h1 h2 hh => by
    have := h.keep b cs T fz h1 h2 hh
    rw [Below.heap_alloc w1 o b (heap_lt this)]; exact this⟩
theorem Frm.set {xs : List Value} {p : Addr} (h : Frm B T1 T2 w w1) (hr : Row w1 p.block T1 xs) (hB : B ≤ p.block) (u : Value) : Frm B T1 T2 w (w1.setCell p u) :=
  ⟨h.below.setCell hB u, fun b cs T fz h1 h2 hh => by
    have := h.keep b cs T fz h1 h2 hh
    rw [Below.heap_setCell w1 p u b (fun e => by
      subst e
      unfold Row at hr
      rw [hr] at this
      injection this with this
      injection this with _ ht
      exact h1 ht.symm)]
    exact this⟩
theorem own_block_type {base sz n : Nat} {e : TypeId} {v : Value} {xs : List Value} {k : Nat} (h : w.ownsRow base e sz v n xs) (hk : v.ownBlock = some k) : ∃ cur, w.heap[k]? = some (Obj.cells cur e (0, 0)) ∧ base ≤ k := by
  rcases h.2 with ⟨rfl, _⟩ | ⟨g, cap, cur, rfl, hb, hg, _⟩
  · cases hk
  · obtain rfl : g = k := by simpa [Value.ownBlock] using hk
    exact ⟨cur, hg, hb⟩
theorem Frm.grown2 {base sz n : Nat} {v : Value} {xs : List Value} (h : Frm B T1 T2 w w1) (ho : w1.ownsRow base T2 sz v n xs) (hB : B ≤ base) (hS : B ≤ w1.heap.size) (hg : w1.grownBy w' v.ownBlock) : Frm B T1 T2 w w' := by
  refine ⟨h.below.grown hg hS (fun k hk => Nat.le_trans hB (own_block_type ho hk).choose_spec.2), fun b cs T fz h1 h2 hh => ?_⟩
  have := h.keep b cs T fz h1 h2 hh
  rw [hg.block b (heap_lt this) (fun e => by
    obtain ⟨cur, hc, _⟩ := own_block_type ho e.symm
    rw [hc] at this
    injection this with this
    injection this with _ ht
    exact h2 ht.symm)]
  exact this
theorem Frm.grownNew {row : Option Nat} (h : Frm B T1 T2 w w1) (hg : w1.grownBy w' row) (hrow : ∀ k, row = some k → w.heap.size ≤ k) (hB : B ≤ w.heap.size) : Frm B T1 T2 w w' := by
  refine ⟨h.below.grown hg (Nat.le_trans hB h.below.size) (fun k hk => Nat.le_trans hB (hrow k hk)), fun b cs T fz h1 h2 hh => ?_⟩
  have hlt := heap_lt hh
  have := h.keep b cs T fz h1 h2 hh
  rw [hg.block b (heap_lt this) (fun e => by have := hrow b e.symm; omega)]
  exact this
theorem Frm.ofBelow (h : Below w.heap.size w w') (hB : B ≤ w.heap.size) : Frm B T1 T2 w w' :=
  ⟨h.mono hB, fun b cs T fz _ _ hh => by rw [h.block b (heap_lt hh)]; exact hh⟩
theorem Frm.own {base sz n : Nat} {e : TypeId} {v : Value} {xs : List Value} (h : Frm B T1 T2 w w') (ho : w.ownsRow base e sz v n xs) (h1 : e ≠ T1) (h2 : e ≠ T2) : w'.ownsRow base e sz v n xs :=
  ⟨ho.1, ho.2.imp id (fun ⟨g, cap, cur, a, b, c, d⟩ => ⟨g, cap, cur, a, b, h.keep g cur e (0, 0) h1 h2 c, d⟩)⟩
theorem Frm.row {g : Nat} {T : TypeId} {xs : List Value} (h : Frm B T1 T2 w w') (hr : Row w g T xs) (h1 : T ≠ T1) (h2 : T ≠ T2) : Row w' g T xs := h.keep g _ T (0, 0) h1 h2 hr
theorem own_grown {base sz n : Nat} {e : TypeId} {v : Value} {xs : List Value} {row : Option Nat} (ho : w.ownsRow base e sz v n xs) (hg : w.grownBy w' row) (hne : ∀ k, v.ownBlock = some k → row ≠ some k) : w'.ownsRow base e sz v n xs := by
  refine ⟨ho.1, ho.2.imp id (fun ⟨g, cap, cur, a, b, c, d⟩ => ⟨g, cap, cur, a, b, ?_, d⟩)⟩
  subst a
  rw [hg.block g (heap_lt c) (fun e => hne g rfl e.symm)]
  exact c
theorem own_old {base sz n : Nat} {e : TypeId} {v : Value} {xs : List Value} {row : Option Nat} {S : Nat} (ho : w.ownsRow base e sz v n xs) (hb : ∀ k, v.ownBlock = some k → k < S) (hg : w.grownBy w' row) (hr : ∀ k, row = some k → S ≤ k) : w'.ownsRow base e sz v n xs :=
  own_grown ho hg (fun k hk e => by have := hb k hk; have := hr k e; omega)
theorem own_lt {base sz n : Nat} {e : TypeId} {v : Value} {xs : List Value} (ho : w.ownsRow base e sz v n xs) : ∀ k, v.ownBlock = some k → k < w.heap.size := fun k hk => by
  obtain ⟨cur, hc, _⟩ := own_block_type ho hk
  exact heap_lt hc
theorem row_set {p : Addr} {g : Nat} {T : TypeId} {xs : List Value} (h : Row w g T xs) (i : Nat) (u : Value) : Row (w.setCell ⟨g, i, none⟩ u) g T (xs.set i u) := h.set i u
theorem own_set {base sz n : Nat} {e T : TypeId} {v : Value} {xs cs : List Value} {p : Addr} (ho : w.ownsRow base e sz v n xs) (hr : Row w p.block T cs) (hne : e ≠ T) (u : Value) : (w.setCell p u).ownsRow base e sz v n xs :=
  own_far ho (own_ne_row ho hr hne) u
end

/-- Rows of rows of integers: the outer row's elements are of type E, the inner rows' of type I; all from block base on. -/
def Rows2At (w : World) (base : Nat) (E I : TypeId) (v : Value) (rows : List (List Int)) : Prop :=
  ∃ vs : List Value, w.ownsRow base E 1 v rows.length vs ∧ vs.length = rows.length ∧ ∀ i, i < rows.length → w.ownsRow base I 1 (vs.getD i undef) (rows.getD i []).length (ints (rows.getD i []))
section
variable {w w' : World} {base : Nat} {E I : TypeId} {v : Value} {rows : List (List Int)}
theorem Rows2At.nil (w : World) (base : Nat) (E I : TypeId) : Rows2At w base E I (.slice none 0 0) [] := ⟨[], World.ownsRow_nil _ _ _ _, rfl, fun i hi => absurd hi (Nat.not_lt_zero _)⟩
theorem Rows2At.frm {B : Nat} {T1 T2 : TypeId} (h : Rows2At w base E I v rows) (f : Frm B T1 T2 w w') (e1 : E ≠ T1) (e2 : E ≠ T2) (i1 : I ≠ T1) (i2 : I ≠ T2) : Rows2At w' base E I v rows := by
  obtain ⟨vs, h1, h2, h3⟩ := h
  exact ⟨vs, f.own h1 e1 e2, h2, fun i hi => f.own (h3 i hi) i1 i2⟩
theorem Rows2At.grown {row : Option Nat} (h : Rows2At w base E I v rows) (hg : w.grownBy w' row) (hr : ∀ k, row = some k → w.heap.size ≤ k) : Rows2At w' base E I v rows := by
  obtain ⟨vs, h1, h2, h3⟩ := h
  exact ⟨vs, own_old h1 (own_lt h1) hg hr, h2, fun i hi => own_old (h3 i hi) (own_lt (h3 i hi)) hg hr⟩
theorem Rows2At.below {B : Nat} (h : Rows2At w base E I v rows) (hb : Below B w w') (hB : w.heap.size ≤ B) : Rows2At w' base E I v rows := by
  obtain ⟨vs, h1, h2, h3⟩ := h
  exact ⟨vs, own_below h1 hb hB, h2, fun i hi => own_below (h3 i hi) hb hB⟩
end
end Go.Proofs.Ytbomfekfebamkaa

/-
  Formulas in memory: as arguments, and while they grow.
-/
namespace Go.Proofs.Ytbomfekfebamkaa
open Go.RowKit
set_option linter.unusedSimpArgs false
set_option linter.unusedVariables false
def slCells (sl : List Sl) : List Value := sl.map (fun s => Value.slice s.at_ s.len s.cap)
theorem slCells_length (sl : List Sl) : (slCells sl).length = sl.length := by simp [slCells]
theorem slCells_get (sl : List Sl) (k : Nat) (h : k < sl.length) : (slCells sl)[k]? = some (.slice (sl.getD k default).at_ (sl.getD k default).len (sl.getD k default).cap) := by
  simp [slCells, List.getElem?_map, List.getElem?_eq_getElem h, List.getD_eq_getElem?_getD]
theorem slCells_append (a b : List Sl) : slCells (a ++ b) = slCells a ++ slCells b := by simp [slCells]
theorem slCells_one (sl : List Sl) : ∀ u ∈ slCells sl, u.oneCell' = true := by
  intro u hu
  simp only [slCells, List.mem_map] at hu
  obtain ⟨x, _, rfl⟩ := hu
  rfl
/-- A formula's clauses as they lie in memory. -/
structure FAt (w : World) (f : Fml) (A : Option Addr) (n : Nat) (sl : List Sl) : Prop where
  rows : Rd w w.heap.size 1 A n (slCells sl)
  sll : sl.length = f.cls.length
  next : ∀ i, i < f.cls.length → Rd w w.heap.size 1 (sl.getD i default).at_ (sl.getD i default).len (ints (f.cls.getD i [])) ∧ (sl.getD i default).len ≤ maxLen
  n63 : n ≤ maxLen
theorem FAt.up {w w' : World} {f : Fml} {A : Option Addr} {n : Nat} {sl : List Sl} (h : FAt w f A n sl) (hb : Below w.heap.size w w') : FAt w' f A n sl :=
  ⟨h.rows.up hb, h.sll, fun i hi => ⟨(h.next i hi).1.up hb, (h.next i hi).2⟩, h.n63⟩
theorem FAt.wl {w : World} {f : Fml} {A : Option Addr} {n : Nat} {sl : List Sl} (h : FAt w f A n sl) : f.cls.length = n := by
  have h1 := h.rows.1
  have h2 := h.sll
  rw [slCells_length] at h1; omega
theorem FAt.row {w : World} {f : Fml} {A : Option Addr} {n : Nat} {sl : List Sl} (h : FAt w f A n sl) {k : Nat} (hk : k < n) :
    ∃ ad, A = some ad ∧ ad.block < w.heap.size ∧ w.cell? (ad.add k) = some (.slice (sl.getD k default).at_ (sl.getD k default).len (sl.getD k default).cap) ∧
      Rd w w.heap.size 1 (sl.getD k default).at_ (sl.getD k default).len (ints (f.cls.getD k [])) ∧ (sl.getD k default).len ≤ maxLen ∧ (f.cls.getD k []).length = (sl.getD k default).len := by
  have hl := h.wl
  have hs := h.sll
  obtain ⟨ad, u, e, hb, hu, hc⟩ := h.rows.get1 hk
  rw [slCells_get sl k (by omega)] at hu
  injection hu with hu
  obtain ⟨h1, h2⟩ := h.next k (by omega)
  refine ⟨ad, e, hb, by rw [hc, hu], h1, h2, ?_⟩
  have := h1.1
  rw [ints_length, Nat.mul_one] at this
  exact this
theorem noFml_at (w : World) : FAt w noFml none 0 [] := ⟨Rd.empty none, rfl, fun i hi => absurd hi (Nat.not_lt_zero _), by unfold maxLen; omega⟩

/-- A clause: below the call's first block, or a block of integers of its own. -/
def InAt (w : World) (base lo : Nat) (s : Sl) (l : List Int) : Prop :=
  (Rd w base 1 s.at_ s.len (ints l) ∨ ∃ g, lo ≤ g ∧ s.at_ = some ⟨g, 0, none⟩ ∧ s.len = l.length ∧ Row w g 3 (ints l)) ∧ s.len ≤ maxLen
section
variable {w w' : World} {base lo : Nat} {s : Sl} {l : List Int}
theorem InAt.rd (h : InAt w base lo s l) (hB : base ≤ w.heap.size) : Rd w w.heap.size 1 s.at_ s.len (ints l) := by
  rcases h.1 with h1 | ⟨g, e0, e1, e2, h1⟩
  · exact h1.more hB
  · rw [e1, e2]
    exact h1.rd (by rw [ints_length, Nat.mul_one])
theorem InAt.up (h : InAt w base lo s l) (hB : base ≤ w.heap.size) (hb : Below w.heap.size w w') : InAt w' base lo s l := by
  refine ⟨h.1.imp (fun h1 => h1.below hb hB) (fun ⟨g, e0, e1, e2, h1⟩ => ⟨g, e0, e1, e2, rowCells h1 hb⟩), h.2⟩
theorem InAt.grown {row : Option Nat} (h : InAt w base lo s l) (hB : base ≤ w.heap.size) (hg : w.grownBy w' row) (hr : ∀ k, row = some k → base ≤ k ∧ ∀ xs, ¬ Row w k 3 xs) : InAt w' base lo s l := by
  refine ⟨h.1.imp (fun h1 => h1.keep fun p hp => ?_) (fun ⟨g, e0, e1, e2, h1⟩ => ⟨g, e0, e1, e2, h1.grown hg (fun e => (hr g e.symm).2 _ h1)⟩), h.2⟩
  have hne : some p.block ≠ row := fun e => by have := (hr _ e.symm).1; omega
  unfold World.cell?
  rw [hg.block p.block (by omega) hne]
theorem InAt.base' {base' : Nat} (h : InAt w base lo s l) (hb : base ≤ base') : InAt w base' lo s l := ⟨h.1.imp (fun h1 => h1.more hb) id, h.2⟩
theorem InAt.lo' {lo' : Nat} (h : InAt w base lo s l) (hl : lo' ≤ lo) : InAt w base lo' s l := ⟨h.1.imp id (fun ⟨g, e0, r⟩ => ⟨g, Nat.le_trans hl e0, r⟩), h.2⟩
theorem InAt.far {p : Addr} {T : TypeId} {cs : List Value} (h : InAt w base lo s l) (hr : Row w p.block T cs) (hT : T ≠ 3) (hp : base ≤ p.block) (u : Value) : InAt (w.setCell p u) base lo s l := by
  refine ⟨h.1.imp (fun h1 => h1.setCell hp u) (fun ⟨g, e0, e1, e2, h1⟩ => ⟨g, e0, e1, e2, h1.far (fun e => ?_) u⟩), h.2⟩
  subst e
  unfold Row at h1 hr
  rw [hr] at h1
  injection h1 with h1
  injection h1 with _ ht
  exact hT ht
end
/-- Clauses while they grow: the outer row is owned. -/
structure EOwn (w : World) (base lo : Nat) (v : Value) (sl : List Sl) (cls : List (List Int)) : Prop where
  len : sl.length = cls.length
  own : w.ownsRow base 26 1 v cls.length (slCells sl)
  row : ∀ i, i < cls.length → InAt w base lo (sl.getD i default) (cls.getD i [])
section
variable {w w' : World} {base lo : Nat} {v : Value} {sl : List Sl} {cls : List (List Int)}
theorem EOwn.nil (w : World) (base lo : Nat) : EOwn w base lo (.slice none 0 0) [] [] := ⟨rfl, World.ownsRow_nil _ _ _ _, fun i hi => absurd hi (Nat.not_lt_zero _)⟩
theorem EOwn.up (h : EOwn w base lo v sl cls) (hB : base ≤ w.heap.size) (hb : Below w.heap.size w w') : EOwn w' base lo v sl cls :=
  ⟨h.len, own_below h.own hb (Nat.le_refl _), fun i hi => (h.row i hi).up hB hb⟩
theorem EOwn.far {p : Addr} {T : TypeId} {cs : List Value} (h : EOwn w base lo v sl cls) (hr : Row w p.block T cs) (hT : T ≠ 3) (hT2 : 26 ≠ T) (hp : base ≤ p.block) (u : Value) : EOwn (w.setCell p u) base lo v sl cls :=
  ⟨h.len, own_set h.own hr hT2 u, fun i hi => (h.row i hi).far hr hT hp u⟩
theorem own_not_int {base n : Nat} {v : Value} {xs : List Value} (h : w.ownsRow base 26 1 v n xs) : ∀ k, v.ownBlock = some k → base ≤ k ∧ ∀ ys, ¬ Row w k 3 ys := fun k hk => by
  obtain ⟨cur, hc, hb⟩ := own_block_type h hk
  refine ⟨hb, fun ys hy => ?_⟩
  unfold Row at hy
  rw [hc] at hy
  injection hy with hy
  injection hy with _ ht
  exact absurd ht (by decide)
theorem getD_app_lt {α} (l m : List α) (d : α) (i : Nat) (h : i < l.length) : (l ++ m).getD i d = l.getD i d := by
  rw [List.getD_eq_getElem?_getD, List.getD_eq_getElem?_getD, List.getElem?_append_left h]
theorem getD_app_ge {α} (l m : List α) (d : α) (i : Nat) (h : l.length ≤ i) : (l ++ m).getD i d = m.getD (i - l.length) d := by
  rw [List.getD_eq_getElem?_getD, List.getD_eq_getElem?_getD, List.getElem?_append_right h]
/-- More clauses. -/
theorem EOwn.app {w1 : World} {v' : Value} {sn : List Sl} {news : List (List Int)} (h : EOwn w1 base lo v sl cls) (hB : base ≤ w1.heap.size) (hl : sn.length = news.length) (hn : ∀ i, i < news.length → InAt w1 base lo (sn.getD i default) (news.getD i []))
    (hg : w1.grownBy w' v.ownBlock) (ho : w'.ownsRow base 26 1 v' (cls.length + news.length) (slCells sl ++ slCells sn)) : EOwn w' base lo v' (sl ++ sn) (cls ++ news) := by
  have hlen := h.len
  refine ⟨by simp [hlen, hl], by rw [List.length_append, slCells_append]; exact ho, fun i hi => ?_⟩
  rw [List.length_append] at hi
  by_cases e : i < cls.length
  · rw [getD_app_lt _ _ _ _ (by omega), getD_app_lt _ _ _ _ e]
    exact (h.row i e).grown hB hg (own_not_int h.own)
  · rw [getD_app_ge _ _ _ _ (by omega), getD_app_ge _ _ _ _ (by omega), hlen]
    exact (hn (i - cls.length) (by omega)).grown hB hg (own_not_int h.own)
theorem EOwn.at_ {A : Option Addr} {n c : Nat} {V : Int} (h : EOwn w base lo (.slice A n c) sl cls) (hB : base ≤ w.heap.size) (hn : cls.length = n) (hm : n ≤ maxLen) : FAt w ⟨V, cls⟩ A n sl := by
  refine ⟨?_, h.len, fun i hi => ⟨(h.row i hi).rd hB, (h.row i hi).2⟩, hm⟩
  have := h.own
  rw [hn] at this
  exact Rd.of_own this
/-- A store into a block of integers that lies before all new clauses. -/
theorem EOwn.farInt {p : Addr} (h : EOwn w base lo v sl cls) (hp : base ≤ p.block) (hlo : p.block < lo) (hv : v.ownBlock ≠ some p.block) (u : Value) : EOwn (w.setCell p u) base lo v sl cls :=
  ⟨h.len, own_far h.own hv u, fun i hi => ⟨(h.row i hi).1.imp (fun h1 => h1.setCell hp u) (fun ⟨g, e0, e1, e2, h1⟩ => ⟨g, e0, e1, e2, h1.far (by omega) u⟩), (h.row i hi).2⟩⟩
theorem EOwn.lo' {lo' : Nat} (h : EOwn w base lo v sl cls) (hl : lo' ≤ lo) : EOwn w base lo' v sl cls :=
  ⟨h.len, h.own, fun i hi => ⟨(h.row i hi).1.imp id (fun ⟨g, e0, r⟩ => ⟨g, Nat.le_trans hl e0, r⟩), (h.row i hi).2⟩⟩
theorem EOwn.form (h : EOwn w base lo v sl cls) : ∃ A c, v = .slice A cls.length c := by
  obtain ⟨A, c, e, _⟩ := Rd.own h.own
  exact ⟨A, c, e⟩
end
theorem grown_setNew {w w1 : World} {row : Option Nat} {p : Addr} (h : w.grownBy w1 row) (hp : w.heap.size ≤ p.block) (u : Value) : w.grownBy (w1.setCell p u) row :=
  ⟨h.os, h.tape, h.output, by rw [World.size_setCell]; exact h.size, fun k hk hr => by rw [Below.heap_setCell w1 p u k (by omega)]; exact h.block k hk hr⟩
theorem FAt.inAt {w : World} {f : Fml} {A : Option Addr} {n : Nat} {sl : List Sl} (h : FAt w f A n sl) (lo : Nat) : ∀ i, i < f.cls.length → InAt w w.heap.size lo (sl.getD i default) (f.cls.getD i []) := fun i hi => ⟨.inl (h.next i hi).1, (h.next i hi).2⟩
theorem row_infoE : (Try.prog.info? 26).map (fun i => (i.zero, i.size, i.bytes)) = some (some (.slice none 0 0), 1, 24) := by kernel_rfl
theorem int_infoE : (Try.prog.info? 3).map (fun i => (i.zero, i.size, i.bytes)) = some (some (.int .i64 0), 1, 8) := by kernel_rfl
end Go.Proofs.Ytbomfekfebamkaa

/-
  Formulas and lists that came in as arguments: the value written out, the memory.
-/
namespace Go.Proofs.Ytbomfekfebamkaa
open Go.RowKit Go.ChangeShapes Go.WideShapes Go.Deep Go.Joins
set_option linter.unusedSimpArgs false
set_option linter.unusedVariables false
section
variable {H : Type} {enc : TypeId × Value → H} {P : Program} {w : World} {base : Nat} {spare : Nat → Bool} {held : Bool}
/-- A slice of slices of integers. -/
theorem read_introws {t e e1 : TypeId} {fuel : Nat} {v : Value} {x : DataW H × List MemPlace} (ht : P.underlying t = some (.slice e)) (he : P.underlying e = some (.slice e1)) (hC : P.cellsOf e = 1)
    (hi : P.underlying e1 = some (.int .i64)) (hc : P.cellsOf e1 = 1)
    (h : DataW.trod enc P w base spare held fuel t [v] = some x) : ∃ (A : Option Addr) (n c : Nat) (ws : List (List Int)) (sl : List Sl), v = .slice A n c ∧ Rd w w.heap.size 1 A n (slCells sl) ∧ n ≤ maxLen ∧ sl.length = ws.length ∧
      ∀ i, i < ws.length → Rd w w.heap.size 1 (sl.getD i default).at_ (sl.getD i default).len (ints (ws.getD i [])) ∧ (sl.getD i default).len ≤ maxLen := by
  rcases open_slice ht h with ⟨hcs', _⟩ | ⟨a, len, cap, m, n, D, Pl, hcs', _, hl, hm, hmm, _, hx⟩
  · injection hcs' with hcs'
    exact ⟨none, 0, 0, [], [], hcs', Rd.empty none, by unfold maxLen; omega, rfl, fun i hi => absurd hi (Nat.not_lt_zero _)⟩
  · injection hcs' with hcs'
    have hln : len ≤ m := by rw [hmm]; split <;> omega
    have hV : ∀ i, i < m → ∃ g : List Int × Sl, w.cell? (a.add (i * 1)) = some (.slice g.2.at_ g.2.len g.2.cap) ∧ Rd w w.heap.size 1 g.2.at_ g.2.len (ints g.1) ∧ g.2.len ≤ maxLen := fun i hi' => by
      obtain ⟨cs', hcells, ht'⟩ := hx i hi'
      rw [hC] at hcells
      obtain ⟨_, hlen, hat⟩ := World.cells?_some hcells
      match cs', hlen with
      | [c0], _ =>
        obtain ⟨NA, nn, nc, zs, hv, hR, hn, _⟩ := read_ints he hi hc ht'
        have q0 := hat 0 (by omega)
        rw [add_add'] at q0
        subst hv
        exact ⟨⟨zs, ⟨NA, nn, nc⟩⟩, by simpa using q0, hR, hn⟩
    obtain ⟨G, hG⟩ := choose_lt (α := List Int × Sl) (p := fun i g => w.cell? (a.add (i * 1)) = some (.slice g.2.at_ g.2.len g.2.cap) ∧ Rd w w.heap.size 1 g.2.at_ g.2.len (ints g.1) ∧ g.2.len ≤ maxLen) hV
    refine ⟨some a, len, cap, (List.range len).map fun i => (G i).1, (List.range len).map fun i => (G i).2, hcs', rd_of_cells (by rw [slCells_length]; simp) (fun j u hu => ?_) (by omega), by omega, by simp, fun i hi => ?_⟩
    · have hj : j < len := by
        have := (List.getElem?_eq_some_iff.1 hu).1
        rw [slCells_length] at this; simpa using this
      rw [slCells_get _ _ (by simpa using hj)] at hu
      have hg : ((List.range len).map fun i => (G i).2).getD j default = (G j).2 := by simp [List.getD_eq_getElem?_getD, List.getElem?_map, List.getElem?_range hj]
      rw [hg] at hu
      have := (hG j (by omega)).1
      rw [Nat.mul_one] at this
      rw [this, ← hu]
    · have hi' : i < len := by simpa using hi
      have e1 : ((List.range len).map fun i => (G i).1).getD i [] = (G i).1 := by simp [List.getD_eq_getElem?_getD, List.getElem?_map, List.getElem?_range hi']
      have e2 : ((List.range len).map fun i => (G i).2).getD i default = (G i).2 := by simp [List.getD_eq_getElem?_getD, List.getElem?_map, List.getElem?_range hi']
      rw [e1, e2]
      exact (hG i (by omega)).2
end
section
variable {H : Type} {enc : TypeId × Value → H} {w : World} {base b0 : Nat} {spare : Nat → Bool} {held : Bool} {r : Reach} {v : Value} {d : DataW H} {p : List MemPlace}
theorem open_formula (hv : Value.okWide Try.prog w r b0 24 v) (h : DataW.Trod enc Try.prog w base spare held 24 v d p) :
    ∃ f A n c sl, v = .agg #[.int .i64 (Fml.vars f), .slice A n c] ∧ FAt w f A n sl := by
  obtain ⟨v0, v1, y0, y1, n, rfl, _, _, h0, h1⟩ := open_agg2 Try.underlying24 (by kernel_rfl) (by kernel_rfl) hv h
  obtain ⟨z, e0, _⟩ := DataW.trod_int Try.underlying3 h0
  injection e0 with e0
  obtain ⟨A, an, ac, ws, sl, rfl, hR, hn, hl, hx⟩ := read_introws Try.underlying22 Try.underlying26 (by kernel_rfl) Try.underlying3 (by kernel_rfl) h1
  subst e0
  exact ⟨⟨z, ws⟩, A, an, ac, sl, rfl, ⟨hR, hl, hx, hn⟩⟩
end
end Go.Proofs.Ytbomfekfebamkaa
