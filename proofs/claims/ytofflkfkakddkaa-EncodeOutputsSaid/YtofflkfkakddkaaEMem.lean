/-
  Formulas in memory: as arguments, and while they grow.
-/
import Derived.Test.YtofflkfkakddkaaEPlain
import Derived.Test.YtofflkfkakddkaaTPlain
import Derived.Test.YtofflkfkakddkaaLFrm
import Derived.Test.YtofflkfkakddkaaProg
namespace Go.Proofs.Ytofflkfkakddkaa
open Go.RowKit
set_option linter.unusedSimpArgs false
set_option linter.unusedVariables false
def slCells (sl : List Sl) : List Value := sl.map (fun s => Value.slice s.at_ s.len s.cap)
theorem slCells_length (sl : List Sl) : (slCells sl).length = sl.length := by simp [slCells]
theorem slCells_get (sl : List Sl) (k : Nat) (h : k < sl.length) : (slCells sl)[k]? = some (.slice (sl.getD k default).at_ (sl.getD k default).len (sl.getD k default).cap) := by
  simp [slCells, List.getElem?_map, List.getElem?_eq_getElem h, List.getD_eq_getElem?_getD]
theorem slCells_append (a b : List Sl) : slCells (a ++ b) = slCells a ++ slCells b := by simp [slCells]
theorem slCells_one (sl : List Sl) : ∀ u ∈ slCells sl, u.oneCell' = true := by
  intro u hu
  simp only [slCells, List.mem_map] at hu
  obtain ⟨x, _, rfl⟩ := hu
  rfl
/-- A formula's clauses as they lie in memory. -/
structure FAt (w : World) (f : Fml) (A : Option Addr) (n : Nat) (sl : List Sl) : Prop where
  rows : Rd w w.heap.size 1 A n (slCells sl)
  sll : sl.length = f.cls.length
  next : ∀ i, i < f.cls.length → Rd w w.heap.size 1 (sl.getD i default).at_ (sl.getD i default).len (ints (f.cls.getD i [])) ∧ (sl.getD i default).len ≤ maxLen
  n63 : n ≤ maxLen
theorem FAt.up {w w' : World} {f : Fml} {A : Option Addr} {n : Nat} {sl : List Sl} (h : FAt w f A n sl) (hb : Below w.heap.size w w') : FAt w' f A n sl :=
  ⟨h.rows.up hb, h.sll, fun i hi => ⟨(h.next i hi).1.up hb, (h.next i hi).2⟩, h.n63⟩
theorem FAt.wl {w : World} {f : Fml} {A : Option Addr} {n : Nat} {sl : List Sl} (h : FAt w f A n sl) : f.cls.length = n := by
  have h1 := h.rows.1
  have h2 := h.sll
  rw [slCells_length] at h1; omega
theorem FAt.row {w : World} {f : Fml} {A : Option Addr} {n : Nat} {sl : List Sl} (h : FAt w f A n sl) {k : Nat} (hk : k < n) :
    ∃ ad, A = some ad ∧ ad.block < w.heap.size ∧ w.cell? (ad.add k) = some (.slice (sl.getD k default).at_ (sl.getD k default).len (sl.getD k default).cap) ∧
      Rd w w.heap.size 1 (sl.getD k default).at_ (sl.getD k default).len (ints (f.cls.getD k [])) ∧ (sl.getD k default).len ≤ maxLen ∧ (f.cls.getD k []).length = (sl.getD k default).len := by
  have hl := h.wl
  have hs := h.sll
  obtain ⟨ad, u, e, hb, hu, hc⟩ := h.rows.get1 hk
  rw [slCells_get sl k (by omega)] at hu
  injection hu with hu
  obtain ⟨h1, h2⟩ := h.next k (by omega)
  refine ⟨ad, e, hb, by rw [hc, hu], h1, h2, ?_⟩
  have := h1.1
  rw [ints_length, Nat.mul_one] at this
  exact this
theorem noFml_at (w : World) : FAt w noFml none 0 [] := ⟨Rd.empty none, rfl, fun i hi => absurd hi (Nat.not_lt_zero _), by unfold maxLen; omega⟩

/-- A clause: below the call's first block, or a block of integers of its own. -/
def InAt (w : World) (base lo : Nat) (s : Sl) (l : List Int) : Prop :=
  (Rd w base 1 s.at_ s.len (ints l) ∨ ∃ g, lo ≤ g ∧ s.at_ = some ⟨g, 0, none⟩ ∧ s.len = l.length ∧ Row w g 3 (ints l)) ∧ s.len ≤ maxLen
section
variable {w w' : World} {base lo : Nat} {s : Sl} {l : List Int}
theorem InAt.rd (h : InAt w base lo s l) (hB : base ≤ w.heap.size) : Rd w w.heap.size 1 s.at_ s.len (ints l) := by
  rcases h.1 with h1 | ⟨g, e0, e1, e2, h1⟩
  · exact h1.more hB
  · rw [e1, e2]
    exact h1.rd (by rw [ints_length, Nat.mul_one])
theorem InAt.up (h : InAt w base lo s l) (hB : base ≤ w.heap.size) (hb : Below w.heap.size w w') : InAt w' base lo s l := by
  refine ⟨h.1.imp (fun h1 => h1.below hb hB) (fun ⟨g, e0, e1, e2, h1⟩ => ⟨g, e0, e1, e2, rowCells h1 hb⟩), h.2⟩
theorem InAt.grown {row : Option Nat} (h : InAt w base lo s l) (hB : base ≤ w.heap.size) (hg : w.grownBy w' row) (hr : ∀ k, row = some k → base ≤ k ∧ ∀ xs, ¬ Row w k 3 xs) : InAt w' base lo s l := by
  refine ⟨h.1.imp (fun h1 => h1.keep fun p hp => ?_) (fun ⟨g, e0, e1, e2, h1⟩ => ⟨g, e0, e1, e2, h1.grown hg (fun e => (hr g e.symm).2 _ h1)⟩), h.2⟩
  have hne : some p.block ≠ row := fun e => by have := (hr _ e.symm).1; omega
  unfold World.cell?
  rw [hg.block p.block (by omega) hne]
theorem InAt.base' {base' : Nat} (h : InAt w base lo s l) (hb : base ≤ base') : InAt w base' lo s l := ⟨h.1.imp (fun h1 => h1.more hb) id, h.2⟩
theorem InAt.lo' {lo' : Nat} (h : InAt w base lo s l) (hl : lo' ≤ lo) : InAt w base lo' s l := ⟨h.1.imp id (fun ⟨g, e0, r⟩ => ⟨g, Nat.le_trans hl e0, r⟩), h.2⟩
theorem InAt.far {p : Addr} {T : TypeId} {cs : List Value} (h : InAt w base lo s l) (hr : Row w p.block T cs) (hT : T ≠ 3) (hp : base ≤ p.block) (u : Value) : InAt (w.setCell p u) base lo s l := by
  refine ⟨h.1.imp (fun h1 => h1.setCell hp u) (fun ⟨g, e0, e1, e2, h1⟩ => ⟨g, e0, e1, e2, h1.far (fun e => ?_) u⟩), h.2⟩
  subst e
  unfold Row at h1 hr
  rw [hr] at h1
  injection h1 with h1
  injection h1 with _ ht
  exact hT ht
end
/-- Clauses while they grow: the outer row is owned. -/
structure EOwn (w : World) (base lo : Nat) (v : Value) (sl : List Sl) (cls : List (List Int)) : Prop where
  len : sl.length = cls.length
  own : w.ownsRow base 23 1 v cls.length (slCells sl)
  row : ∀ i, i < cls.length → InAt w base lo (sl.getD i default) (cls.getD i [])
section
variable {w w' : World} {base lo : Nat} {v : Value} {sl : List Sl} {cls : List (List Int)}
theorem EOwn.nil (w : World) (base lo : Nat) : EOwn w base lo (.slice none 0 0) [] [] := ⟨rfl, World.ownsRow_nil _ _ _ _, fun i hi => absurd hi (Nat.not_lt_zero _)⟩
theorem EOwn.up (h : EOwn w base lo v sl cls) (hB : base ≤ w.heap.size) (hb : Below w.heap.size w w') : EOwn w' base lo v sl cls :=
  ⟨h.len, own_below h.own hb (Nat.le_refl _), fun i hi => (h.row i hi).up hB hb⟩
theorem EOwn.far {p : Addr} {T : TypeId} {cs : List Value} (h : EOwn w base lo v sl cls) (hr : Row w p.block T cs) (hT : T ≠ 3) (hT2 : 23 ≠ T) (hp : base ≤ p.block) (u : Value) : EOwn (w.setCell p u) base lo v sl cls :=
  ⟨h.len, own_set h.own hr hT2 u, fun i hi => (h.row i hi).far hr hT hp u⟩
theorem own_not_int {base n : Nat} {v : Value} {xs : List Value} (h : w.ownsRow base 23 1 v n xs) : ∀ k, v.ownBlock = some k → base ≤ k ∧ ∀ ys, ¬ Row w k 3 ys := fun k hk => by
  obtain ⟨cur, hc, hb⟩ := own_block_type h hk
  refine ⟨hb, fun ys hy => ?_⟩
  unfold Row at hy
  rw [hc] at hy
  injection hy with hy
  injection hy with _ ht
  exact absurd ht (by decide)
theorem getD_app_lt {α} (l m : List α) (d : α) (i : Nat) (h : i < l.length) : (l ++ m).getD i d = l.getD i d := by
  rw [List.getD_eq_getElem?_getD, List.getD_eq_getElem?_getD, List.getElem?_append_left h]
theorem getD_app_ge {α} (l m : List α) (d : α) (i : Nat) (h : l.length ≤ i) : (l ++ m).getD i d = m.getD (i - l.length) d := by
  rw [List.getD_eq_getElem?_getD, List.getD_eq_getElem?_getD, List.getElem?_append_right h]
/-- More clauses. -/
theorem EOwn.app {w1 : World} {v' : Value} {sn : List Sl} {news : List (List Int)} (h : EOwn w1 base lo v sl cls) (hB : base ≤ w1.heap.size) (hl : sn.length = news.length) (hn : ∀ i, i < news.length → InAt w1 base lo (sn.getD i default) (news.getD i []))
    (hg : w1.grownBy w' v.ownBlock) (ho : w'.ownsRow base 23 1 v' (cls.length + news.length) (slCells sl ++ slCells sn)) : EOwn w' base lo v' (sl ++ sn) (cls ++ news) := by
  have hlen := h.len
  refine ⟨by simp [hlen, hl], by rw [List.length_append, slCells_append]; exact ho, fun i hi => ?_⟩
  rw [List.length_append] at hi
  by_cases e : i < cls.length
  · rw [getD_app_lt _ _ _ _ (by omega), getD_app_lt _ _ _ _ e]
    exact (h.row i e).grown hB hg (own_not_int h.own)
  · rw [getD_app_ge _ _ _ _ (by omega), getD_app_ge _ _ _ _ (by omega), hlen]
    exact (hn (i - cls.length) (by omega)).grown hB hg (own_not_int h.own)
theorem EOwn.at_ {A : Option Addr} {n c : Nat} {V : Int} (h : EOwn w base lo (.slice A n c) sl cls) (hB : base ≤ w.heap.size) (hn : cls.length = n) (hm : n ≤ maxLen) : FAt w ⟨V, cls⟩ A n sl := by
  refine ⟨?_, h.len, fun i hi => ⟨(h.row i hi).rd hB, (h.row i hi).2⟩, hm⟩
  have := h.own
  rw [hn] at this
  exact Rd.of_own this
/-- A store into a block of integers that lies before all new clauses. -/
theorem EOwn.farInt {p : Addr} (h : EOwn w base lo v sl cls) (hp : base ≤ p.block) (hlo : p.block < lo) (hv : v.ownBlock ≠ some p.block) (u : Value) : EOwn (w.setCell p u) base lo v sl cls :=
  ⟨h.len, own_far h.own hv u, fun i hi => ⟨(h.row i hi).1.imp (fun h1 => h1.setCell hp u) (fun ⟨g, e0, e1, e2, h1⟩ => ⟨g, e0, e1, e2, h1.far (by omega) u⟩), (h.row i hi).2⟩⟩
theorem EOwn.lo' {lo' : Nat} (h : EOwn w base lo v sl cls) (hl : lo' ≤ lo) : EOwn w base lo' v sl cls :=
  ⟨h.len, h.own, fun i hi => ⟨(h.row i hi).1.imp id (fun ⟨g, e0, r⟩ => ⟨g, Nat.le_trans hl e0, r⟩), (h.row i hi).2⟩⟩
theorem EOwn.form (h : EOwn w base lo v sl cls) : ∃ A c, v = .slice A cls.length c := by
  obtain ⟨A, c, e, _⟩ := Rd.own h.own
  exact ⟨A, c, e⟩
end
theorem grown_setNew {w w1 : World} {row : Option Nat} {p : Addr} (h : w.grownBy w1 row) (hp : w.heap.size ≤ p.block) (u : Value) : w.grownBy (w1.setCell p u) row :=
  ⟨h.os, h.tape, h.output, by rw [World.size_setCell]; exact h.size, fun k hk hr => by rw [Below.heap_setCell w1 p u k (by omega)]; exact h.block k hk hr⟩
theorem FAt.inAt {w : World} {f : Fml} {A : Option Addr} {n : Nat} {sl : List Sl} (h : FAt w f A n sl) (lo : Nat) : ∀ i, i < f.cls.length → InAt w w.heap.size lo (sl.getD i default) (f.cls.getD i []) := fun i hi => ⟨.inl (h.next i hi).1, (h.next i hi).2⟩
theorem row_infoE : (Try.prog.info? 23).map (fun i => (i.zero, i.size, i.bytes)) = some (some (.slice none 0 0), 1, 24) := by kernel_rfl
theorem int_infoE : (Try.prog.info? 3).map (fun i => (i.zero, i.size, i.bytes)) = some (some (.int .i64 0), 1, 8) := by kernel_rfl
end Go.Proofs.Ytofflkfkakddkaa
