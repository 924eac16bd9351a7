/-
  Formulas in memory: as arguments, and while they grow.
-/
import Derived.Test.YtlmdjkmcplobnaaDoorKC2
import Derived.Test.YtlmdjkmcplobnaaDoorKC1
import Derived.Test.YtlmdjkmcplobnaaDoorProg
import Derived.Lib.LaidTab
import Derived.LaidSub
import Derived.LaidMore
import Derived.OpenShut
import Derived.Lay
import Derived.Stop.Joined
import Derived.Lib.AppendIntMem
import Derived.MakeChecks
import Derived.Lib.ItoaMem
import Derived.OrdersHeld
import Derived.StillTail
import Derived.Deep.RegionHeld
namespace Go.Proofs.YtlmdjkmcplobnaaDoor
open Go.RowKit
set_option linter.unusedSimpArgs false
set_option linter.unusedVariables false
def slCells (sl : List Sl) : List Value := sl.map (fun s => Value.slice s.at_ s.len s.cap)
theorem slCells_length (sl : List Sl) : (slCells sl).length = sl.length := by simp [slCells]
theorem slCells_get (sl : List Sl) (k : Nat) (h : k < sl.length) : (slCells sl)[k]? = some (.slice (sl.getD k default).at_ (sl.getD k default).len (sl.getD k default).cap) := by
  simp [slCells, List.getElem?_map, List.getElem?_eq_getElem h, List.getD_eq_getElem?_getD]
theorem slCells_append (a b : List Sl) : slCells (a ++ b) = slCells a ++ slCells b := by simp [slCells]
theorem slCells_one (sl : List Sl) : ∀ u ∈ slCells sl, u.oneCell' = true := by
  intro u hu
  simp only [slCells, List.mem_map] at hu
  obtain ⟨x, _, rfl⟩ := hu
  rfl
/-- A formula's clauses as they lie in memory. -/
structure FAt (w : World) (f : Fml) (A : Option Addr) (n : Nat) (sl : List Sl) : Prop where
  rows : Rd w w.heap.size 1 A n (slCells sl)
  sll : sl.length = f.cls.length
  next : ∀ i, i < f.cls.length → Rd w w.heap.size 1 (sl.getD i default).at_ (sl.getD i default).len (ints (f.cls.getD i [])) ∧ (sl.getD i default).len ≤ maxLen
  n63 : n ≤ maxLen
theorem FAt.up {w w' : World} {f : Fml} {A : Option Addr} {n : Nat} {sl : List Sl} (h : FAt w f A n sl) (hb : Below w.heap.size w w') : FAt w' f A n sl :=
  ⟨h.rows.up hb, h.sll, fun i hi => ⟨(h.next i hi).1.up hb, (h.next i hi).2⟩, h.n63⟩
theorem FAt.wl {w : World} {f : Fml} {A : Option Addr} {n : Nat} {sl : List Sl} (h : FAt w f A n sl) : f.cls.length = n := by
  have h1 := h.rows.1
  have h2 := h.sll
  rw [slCells_length] at h1; omega
theorem FAt.row {w : World} {f : Fml} {A : Option Addr} {n : Nat} {sl : List Sl} (h : FAt w f A n sl) {k : Nat} (hk : k < n) :
    ∃ ad, A = some ad ∧ ad.block < w.heap.size ∧ w.cell? (ad.add k) = some (.slice (sl.getD k default).at_ (sl.getD k default).len (sl.getD k default).cap) ∧
      Rd w w.heap.size 1 (sl.getD k default).at_ (sl.getD k default).len (ints (f.cls.getD k [])) ∧ (sl.getD k default).len ≤ maxLen ∧ (f.cls.getD k []).length = (sl.getD k default).len := by
  have hl := h.wl
  have hs := h.sll
  obtain ⟨ad, u, e, hb, hu, hc⟩ := h.rows.get1 hk
  rw [slCells_get sl k (by omega)] at hu
  injection hu with hu
  obtain ⟨h1, h2⟩ := h.next k (by omega)
  refine ⟨ad, e, hb, by rw [hc, hu], h1, h2, ?_⟩
  have := h1.1
  rw [ints_length, Nat.mul_one] at this
  exact this
theorem noFml_at (w : World) : FAt w noFml none 0 [] := ⟨Rd.empty none, rfl, fun i hi => absurd hi (Nat.not_lt_zero _), by unfold maxLen; omega⟩

/-- A clause: below the call's first block, or a block of integers of its own. -/
def InAt (w : World) (base lo : Nat) (s : Sl) (l : List Int) : Prop :=
  (Rd w base 1 s.at_ s.len (ints l) ∨ ∃ g, lo ≤ g ∧ s.at_ = some ⟨g, 0, none⟩ ∧ s.len = l.length ∧ Row w g 3 (ints l)) ∧ s.len ≤ maxLen
section
variable {w w' : World} {base lo : Nat} {s : Sl} {l : List Int}
theorem InAt.rd (h : InAt w base lo s l) (hB : base ≤ w.heap.size) : Rd w w.heap.size 1 s.at_ s.len (ints l) := by
  rcases h.1 with h1 | ⟨g, e0, e1, e2, h1⟩
  · exact h1.more hB
  · rw [e1, e2]
    exact h1.rd (by rw [ints_length, Nat.mul_one])
theorem InAt.up (h : InAt w base lo s l) (hB : base ≤ w.heap.size) (hb : Below w.heap.size w w') : InAt w' base lo s l := by
  refine ⟨h.1.imp (fun h1 => h1.below hb hB) (fun ⟨g, e0, e1, e2, h1⟩ => ⟨g, e0, e1, e2, rowCells h1 hb⟩), h.2⟩
theorem InAt.grown {row : Option Nat} (h : InAt w base lo s l) (hB : base ≤ w.heap.size) (hg : w.grownBy w' row) (hr : ∀ k, row = some k → base ≤ k ∧ ∀ xs, ¬ Row w k 3 xs) : InAt w' base lo s l := by
  refine ⟨h.1.imp (fun h1 => h1.keep fun p hp => ?_) (fun ⟨g, e0, e1, e2, h1⟩ => ⟨g, e0, e1, e2, h1.grown hg (fun e => (hr g e.symm).2 _ h1)⟩), h.2⟩
  have hne : some p.block ≠ row := fun e => by have := (hr _ e.symm).1; omega
  unfold World.cell?
  rw [hg.block p.block (by omega) hne]
theorem InAt.base' {base' : Nat} (h : InAt w base lo s l) (hb : base ≤ base') : InAt w base' lo s l := ⟨h.1.imp (fun h1 => h1.more hb) id, h.2⟩
theorem InAt.lo' {lo' : Nat} (h : InAt w base lo s l) (hl : lo' ≤ lo) : InAt w base lo' s l := ⟨h.1.imp id (fun ⟨g, e0, r⟩ => ⟨g, Nat.le_trans hl e0, r⟩), h.2⟩
theorem InAt.far {p : Addr} {T : TypeId} {cs : List Value} (h : InAt w base lo s l) (hr : Row w p.block T cs) (hT : T ≠ 3) (hp : base ≤ p.block) (u : Value) : InAt (w.setCell p u) base lo s l := by
  refine ⟨h.1.imp (fun h1 => h1.setCell hp u) (fun ⟨g, e0, e1, e2, h1⟩ => ⟨g, e0, e1, e2, h1.far (fun e => ?_) u⟩), h.2⟩
  subst e
  unfold Row at h1 hr
  rw [hr] at h1
  injection h1 with h1
  injection h1 with _ ht
  exact hT ht
end
/-- Clauses while they grow: the outer row is owned. -/
structure EOwn (w : World) (base lo : Nat) (v : Value) (sl : List Sl) (cls : List (List Int)) : Prop where
  len : sl.length = cls.length
  own : w.ownsRow base 27 1 v cls.length (slCells sl)
  row : ∀ i, i < cls.length → InAt w base lo (sl.getD i default) (cls.getD i [])
section
variable {w w' : World} {base lo : Nat} {v : Value} {sl : List Sl} {cls : List (List Int)}
theorem EOwn.nil (w : World) (base lo : Nat) : EOwn w base lo (.slice none 0 0) [] [] := ⟨rfl, World.ownsRow_nil _ _ _ _, fun i hi => absurd hi (Nat.not_lt_zero _)⟩
theorem EOwn.up (h : EOwn w base lo v sl cls) (hB : base ≤ w.heap.size) (hb : Below w.heap.size w w') : EOwn w' base lo v sl cls :=
  ⟨h.len, own_below h.own hb (Nat.le_refl _), fun i hi => (h.row i hi).up hB hb⟩
theorem EOwn.far {p : Addr} {T : TypeId} {cs : List Value} (h : EOwn w base lo v sl cls) (hr : Row w p.block T cs) (hT : T ≠ 3) (hT2 : 27 ≠ T) (hp : base ≤ p.block) (u : Value) : EOwn (w.setCell p u) base lo v sl cls :=
  ⟨h.len, own_set h.own hr hT2 u, fun i hi => (h.row i hi).far hr hT hp u⟩
theorem own_not_int {base n : Nat} {v : Value} {xs : List Value} (h : w.ownsRow base 27 1 v n xs) : ∀ k, v.ownBlock = some k → base ≤ k ∧ ∀ ys, ¬ Row w k 3 ys := fun k hk => by
  obtain ⟨cur, hc, hb⟩ := own_block_type h hk
  refine ⟨hb, fun ys hy => ?_⟩
  unfold Row at hy
  rw [hc] at hy
  injection hy with hy
  injection hy with _ ht
  exact absurd ht (by decide)
theorem getD_app_lt {α} (l m : List α) (d : α) (i : Nat) (h : i < l.length) : (l ++ m).getD i d = l.getD i d := by
  rw [List.getD_eq_getElem?_getD, List.getD_eq_getElem?_getD, List.getElem?_append_left h]
theorem getD_app_ge {α} (l m : List α) (d : α) (i : Nat) (h : l.length ≤ i) : (l ++ m).getD i d = m.getD (i - l.length) d := by
  rw [List.getD_eq_getElem?_getD, List.getD_eq_getElem?_getD, List.getElem?_append_right h]
/-- More clauses. -/
theorem EOwn.app {w1 : World} {v' : Value} {sn : List Sl} {news : List (List Int)} (h : EOwn w1 base lo v sl cls) (hB : base ≤ w1.heap.size) (hl : sn.length = news.length) (hn : ∀ i, i < news.length → InAt w1 base lo (sn.getD i default) (news.getD i []))
    (hg : w1.grownBy w' v.ownBlock) (ho : w'.ownsRow base 27 1 v' (cls.length + news.length) (slCells sl ++ slCells sn)) : EOwn w' base lo v' (sl ++ sn) (cls ++ news) := by
  have hlen := h.len
  refine ⟨by simp [hlen, hl], by rw [List.length_append, slCells_append]; exact ho, fun i hi => ?_⟩
  rw [List.length_append] at hi
  by_cases e : i < cls.length
  · rw [getD_app_lt _ _ _ _ (by omega), getD_app_lt _ _ _ _ e]
    exact (h.row i e).grown hB hg (own_not_int h.own)
  · rw [getD_app_ge _ _ _ _ (by omega), getD_app_ge _ _ _ _ (by omega), hlen]
    exact (hn (i - cls.length) (by omega)).grown hB hg (own_not_int h.own)
theorem EOwn.at_ {A : Option Addr} {n c : Nat} {V : Int} (h : EOwn w base lo (.slice A n c) sl cls) (hB : base ≤ w.heap.size) (hn : cls.length = n) (hm : n ≤ maxLen) : FAt w ⟨V, cls⟩ A n sl := by
  refine ⟨?_, h.len, fun i hi => ⟨(h.row i hi).rd hB, (h.row i hi).2⟩, hm⟩
  have := h.own
  rw [hn] at this
  exact Rd.of_own this
/-- A store into a block of integers that lies before all new clauses. -/
theorem EOwn.farInt {p : Addr} (h : EOwn w base lo v sl cls) (hp : base ≤ p.block) (hlo : p.block < lo) (hv : v.ownBlock ≠ some p.block) (u : Value) : EOwn (w.setCell p u) base lo v sl cls :=
  ⟨h.len, own_far h.own hv u, fun i hi => ⟨(h.row i hi).1.imp (fun h1 => h1.setCell hp u) (fun ⟨g, e0, e1, e2, h1⟩ => ⟨g, e0, e1, e2, h1.far (by omega) u⟩), (h.row i hi).2⟩⟩
theorem EOwn.lo' {lo' : Nat} (h : EOwn w base lo v sl cls) (hl : lo' ≤ lo) : EOwn w base lo' v sl cls :=
  ⟨h.len, h.own, fun i hi => ⟨(h.row i hi).1.imp id (fun ⟨g, e0, r⟩ => ⟨g, Nat.le_trans hl e0, r⟩), (h.row i hi).2⟩⟩
theorem EOwn.form (h : EOwn w base lo v sl cls) : ∃ A c, v = .slice A cls.length c := by
  obtain ⟨A, c, e, _⟩ := Rd.own h.own
  exact ⟨A, c, e⟩
end
theorem grown_setNew {w w1 : World} {row : Option Nat} {p : Addr} (h : w.grownBy w1 row) (hp : w.heap.size ≤ p.block) (u : Value) : w.grownBy (w1.setCell p u) row :=
  ⟨h.os, h.tape, h.output, by rw [World.size_setCell]; exact h.size, fun k hk hr => by rw [Below.heap_setCell w1 p u k (by omega)]; exact h.block k hk hr⟩
theorem FAt.inAt {w : World} {f : Fml} {A : Option Addr} {n : Nat} {sl : List Sl} (h : FAt w f A n sl) (lo : Nat) : ∀ i, i < f.cls.length → InAt w w.heap.size lo (sl.getD i default) (f.cls.getD i []) := fun i hi => ⟨.inl (h.next i hi).1, (h.next i hi).2⟩
theorem row_infoE : (Tryd.prog.info? 27).map (fun i => (i.zero, i.size, i.bytes)) = some (some (.slice none 0 0), 1, 24) := by kernel_rfl
theorem int_infoE : (Tryd.prog.info? 3).map (fun i => (i.zero, i.size, i.bytes)) = some (some (.int .i64 0), 1, 8) := by kernel_rfl
end Go.Proofs.YtlmdjkmcplobnaaDoor

/-
  A rule table as it lies in memory.
-/
namespace Go.Proofs.YtlmdjkmcplobnaaDoor
open Go.RowKit
set_option linter.unusedSimpArgs false
set_option linter.unusedVariables false
def rwCells (p : KT.Rw × Sl) : List Value := [.slice p.2.at_ p.2.len p.2.cap, .int .i64 p.1.out]
def rwsCells (rs : List KT.Rw) (sl : List Sl) : List Value := (rs.zip sl).flatMap rwCells
/-- Where a table's slices lie. -/
structure TP where
  HA : Option Addr
  hn : Nat
  hc : Nat
  VA : Option Addr
  vn : Nat
  vc : Nat
  RA : Option Addr
  rn : Nat
  rc : Nat
  vs : List Sl
  rs : List Sl
/-- The table's value, its cells. -/
def TP.cells (P : TP) (t : KT.Tab) : List Value := [.int .i64 t.states, .int .i64 t.sym, .slice P.HA P.hn P.hc, .slice P.VA P.vn P.vc, .slice P.RA P.rn P.rc]
structure TabAt (w : World) (t : KT.Tab) (P : TP) : Prop where
  hood : Rd w w.heap.size 2 P.HA P.hn (hoodCells t.hood)
  vars : Rd w w.heap.size 1 P.VA P.vn (slCells P.vs)
  vsl : P.vs.length = t.vars.length
  var : ∀ i, i < t.vars.length → Rd w w.heap.size 1 (P.vs.getD i default).at_ (P.vs.getD i default).len (ints (t.vars.getD i [])) ∧ (P.vs.getD i default).len ≤ maxLen
  rows : Rd w w.heap.size 2 P.RA P.rn (rwsCells t.rows P.rs)
  rsl : P.rs.length = t.rows.length
  row : ∀ i, i < t.rows.length → Rd w w.heap.size 1 (P.rs.getD i default).at_ (P.rs.getD i default).len (ints (t.rows.getD i default).ins) ∧ (P.rs.getD i default).len ≤ maxLen
  h63 : P.hn ≤ maxLen
  v63 : P.vn ≤ maxLen
  r63 : P.rn ≤ maxLen
section
variable {w w' : World} {t : KT.Tab} {P : TP}
theorem TabAt.up (h : TabAt w t P) (hb : Below w.heap.size w w') : TabAt w' t P :=
  ⟨h.hood.up hb, h.vars.up hb, h.vsl, fun i hi => ⟨(h.var i hi).1.up hb, (h.var i hi).2⟩, h.rows.up hb, h.rsl, fun i hi => ⟨(h.row i hi).1.up hb, (h.row i hi).2⟩, h.h63, h.v63, h.r63⟩
theorem TabAt.hl (h : TabAt w t P) : t.hood.length = P.hn := by
  have := h.hood.1; rw [hoodCells, flat2_length _ (fun _ => rfl)] at this; omega
theorem TabAt.vl (h : TabAt w t P) : t.vars.length = P.vn := by
  have := h.vars.1; rw [slCells_length] at this; have := h.vsl; omega
theorem TabAt.rl (h : TabAt w t P) : t.rows.length = P.rn := by
  have h1 := h.rows.1
  have h2 := h.rsl
  rw [rwsCells, flat2_length _ (fun _ => rfl), List.length_zip] at h1; omega
/-- A variable's header and cells. -/
theorem TabAt.varAt (h : TabAt w t P) {k : Nat} (hk : k < P.vn) :
    ∃ ad, P.VA = some ad ∧ ad.block < w.heap.size ∧ w.cell? (ad.add k) = some (.slice (P.vs.getD k default).at_ (P.vs.getD k default).len (P.vs.getD k default).cap) ∧
      Rd w w.heap.size 1 (P.vs.getD k default).at_ (P.vs.getD k default).len (ints (t.vars.getD k [])) ∧ (P.vs.getD k default).len ≤ maxLen ∧ (t.vars.getD k []).length = (P.vs.getD k default).len := by
  have hl := h.vl
  have hs := h.vsl
  obtain ⟨ad, u, e, hb, hu, hc⟩ := h.vars.get1 hk
  rw [slCells_get P.vs k (by omega)] at hu
  injection hu with hu
  obtain ⟨q1, q2⟩ := h.var k (by omega)
  exact ⟨ad, e, hb, hc.trans (congrArg some hu.symm), q1, q2, by have := q1.1; simpa using this⟩
/-- A row's cells, and its elements. -/
theorem TabAt.rowAt (h : TabAt w t P) {k : Nat} (hk : k < P.rn) :
    ∃ ad, P.RA = some ad ∧ ad.block < w.heap.size ∧ w.cell? (ad.add (k * 2)) = some (.slice (P.rs.getD k default).at_ (P.rs.getD k default).len (P.rs.getD k default).cap) ∧ w.cell? ⟨(ad.add (k * 2)).block, (ad.add (k * 2)).off + 1, none⟩ = some (.int .i64 (t.rows.getD k default).out) ∧
      Rd w w.heap.size 1 (P.rs.getD k default).at_ (P.rs.getD k default).len (ints (t.rows.getD k default).ins) ∧ (P.rs.getD k default).len ≤ maxLen ∧ (t.rows.getD k default).ins.length = (P.rs.getD k default).len := by
  have hl := h.rl
  have hs := h.rsl
  have hz : k < (t.rows.zip P.rs).length := by rw [List.length_zip]; omega
  have hg : (t.rows.zip P.rs).getD k default = (t.rows.getD k default, P.rs.getD k default) := by
    simp only [List.getD_eq_getElem?_getD, List.getElem?_eq_getElem hz, List.getElem?_eq_getElem (show k < t.rows.length by omega), List.getElem?_eq_getElem (show k < P.rs.length by omega), Option.getD_some, List.getElem_zip]
  obtain ⟨h0, h1⟩ := flat2_get rwCells (fun _ => rfl) (t.rows.zip P.rs) k hz
  rw [hg] at h0 h1
  obtain ⟨ad, e, hb, c0, c1⟩ := h.rows.row2 hk h0 h1
  obtain ⟨q1, q2⟩ := h.row k (by omega)
  exact ⟨ad, e, hb, c0, c1, q1, q2, by have := q1.1; simpa using this⟩
end
end Go.Proofs.YtlmdjkmcplobnaaDoor

/-
  Rule tables that came in as arguments: the value written out, the memory. The listed variables' cells.
-/
namespace Go.Proofs.YtlmdjkmcplobnaaDoor
open Go.RowKit Go.ChangeShapes Go.WideShapes Go.Deep Go.Joins
set_option linter.unusedSimpArgs false
set_option linter.unusedVariables false
section
variable {H : Type} {enc : TypeId × Value → H} {P : Program} {w : World} {base : Nat} {spare : Nat → Bool} {held : Bool}
theorem array5K {α : Type} {cs : Array α} (h : cs.size = 5) : ∃ c0 c1 c2 c3 c4, cs = #[c0, c1, c2, c3, c4] := by
  obtain ⟨l⟩ := cs
  match l, h with
  | [c0, c1, c2, c3, c4], _ => exact ⟨c0, c1, c2, c3, c4, rfl⟩
theorem open_agg5K {r : Reach} {b0 : Nat} {t : TypeId} {f0 f1 f2 f3 f4 : Field} {v : Value} {d : DataW H} {p : List MemPlace} (hs : P.underlying t = some (.struct #[f0, f1, f2, f3, f4])) (hone : oneCellFields P #[f0, f1, f2, f3, f4] = true) (hC : P.cellsOf t = 5)
    (hv : Value.okWide P w r b0 t v) (h : DataW.Trod enc P w base spare held t v d p) :
    ∃ (v0 v1 v2 v3 v4 : Value) (y0 y1 y2 y3 y4 : DataW H × List MemPlace) (n : Nat), v = .agg #[v0, v1, v2, v3, v4] ∧
      DataW.trod enc P w base spare held n f0.type [v0] = some y0 ∧ DataW.trod enc P w base spare held n f1.type [v1] = some y1 ∧ DataW.trod enc P w base spare held n f2.type [v2] = some y2 ∧ DataW.trod enc P w base spare held n f3.type [v3] = some y3 ∧ DataW.trod enc P w base spare held n f4.type [v4] = some y4 := by
  obtain ⟨cs, rfl, hsz⟩ := okWide_struct hs hv
  obtain ⟨c0, c1, c2, c3, c4, rfl⟩ := array5K (hsz.trans hC)
  obtain ⟨fuel, hf⟩ := h
  obtain ⟨xs, n, _, _, hl, hlen, hfs⟩ := DataW.trod_struct hs hf
  obtain ⟨o0, k0⟩ := hone_of hone 0 f0 rfl
  obtain ⟨o1, k1⟩ := hone_of hone 1 f1 rfl
  obtain ⟨o2, k2⟩ := hone_of hone 2 f2 rfl
  obtain ⟨o3, k3⟩ := hone_of hone 3 f3 rfl
  obtain ⟨o4, k4⟩ := hone_of hone 4 f4 rfl
  match xs, hlen with
  | [y0, y1, y2, y3, y4], _ =>
    have h0 := hfs 0 f0 rfl
    have h1 := hfs 1 f1 rfl
    have h2 := hfs 2 f2 rfl
    have h3 := hfs 3 f3 rfl
    have h4 := hfs 4 f4 rfl
    exact ⟨c0, c1, c2, c3, c4, y0, y1, y2, y3, y4, n, rfl, by simpa [Value.cells, o0, k0] using h0, by simpa [Value.cells, o1, k1] using h1, by simpa [Value.cells, o2, k2] using h2, by simpa [Value.cells, o3, k3] using h3, by simpa [Value.cells, o4, k4] using h4⟩
/-- A slice of slices of integers. -/
theorem read_introwsK {t e e1 : TypeId} {fuel : Nat} {v : Value} {x : DataW H × List MemPlace} (ht : P.underlying t = some (.slice e)) (he : P.underlying e = some (.slice e1)) (hC : P.cellsOf e = 1)
    (hi : P.underlying e1 = some (.int .i64)) (hc : P.cellsOf e1 = 1)
    (h : DataW.trod enc P w base spare held fuel t [v] = some x) : ∃ (A : Option Addr) (n c : Nat) (ws : List (List Int)) (sl : List Sl), v = .slice A n c ∧ Rd w w.heap.size 1 A n (slCells sl) ∧ n ≤ maxLen ∧ sl.length = ws.length ∧
      ∀ i, i < ws.length → Rd w w.heap.size 1 (sl.getD i default).at_ (sl.getD i default).len (ints (ws.getD i [])) ∧ (sl.getD i default).len ≤ maxLen := by
  rcases open_slice ht h with ⟨hcs', _⟩ | ⟨a, len, cap, m, n, D, Pl, hcs', _, hl, hm, hmm, _, hx⟩
  · injection hcs' with hcs'
    exact ⟨none, 0, 0, [], [], hcs', Rd.empty none, by unfold maxLen; omega, rfl, fun i hi => absurd hi (Nat.not_lt_zero _)⟩
  · injection hcs' with hcs'
    have hln : len ≤ m := by rw [hmm]; split <;> omega
    have hV : ∀ i, i < m → ∃ g : List Int × Sl, w.cell? (a.add (i * 1)) = some (.slice g.2.at_ g.2.len g.2.cap) ∧ Rd w w.heap.size 1 g.2.at_ g.2.len (ints g.1) ∧ g.2.len ≤ maxLen := fun i hi' => by
      obtain ⟨cs', hcells, ht'⟩ := hx i hi'
      rw [hC] at hcells
      obtain ⟨_, hlen, hat⟩ := World.cells?_some hcells
      match cs', hlen with
      | [c0], _ =>
        obtain ⟨NA, nn, nc, zs, hv, hR, hn, _⟩ := read_ints he hi hc ht'
        have q0 := hat 0 (by omega)
        rw [add_add'] at q0
        subst hv
        exact ⟨⟨zs, ⟨NA, nn, nc⟩⟩, by simpa using q0, hR, hn⟩
    obtain ⟨G, hG⟩ := choose_lt (α := List Int × Sl) (p := fun i g => w.cell? (a.add (i * 1)) = some (.slice g.2.at_ g.2.len g.2.cap) ∧ Rd w w.heap.size 1 g.2.at_ g.2.len (ints g.1) ∧ g.2.len ≤ maxLen) hV
    refine ⟨some a, len, cap, (List.range len).map fun i => (G i).1, (List.range len).map fun i => (G i).2, hcs', rd_of_cells (by rw [slCells_length]; simp) (fun j u hu => ?_) (by omega), by omega, by simp, fun i hi => ?_⟩
    · have hj : j < len := by
        have := (List.getElem?_eq_some_iff.1 hu).1
        rw [slCells_length] at this; simpa using this
      rw [slCells_get _ _ (by simpa using hj)] at hu
      have hg : ((List.range len).map fun i => (G i).2).getD j default = (G j).2 := by simp [List.getD_eq_getElem?_getD, List.getElem?_map, List.getElem?_range hj]
      rw [hg] at hu
      have := (hG j (by omega)).1
      rw [Nat.mul_one] at this
      rw [this, ← hu]
    · have hi' : i < len := by simpa using hi
      have e1 : ((List.range len).map fun i => (G i).1).getD i [] = (G i).1 := by simp [List.getD_eq_getElem?_getD, List.getElem?_map, List.getElem?_range hi']
      have e2 : ((List.range len).map fun i => (G i).2).getD i default = (G i).2 := by simp [List.getD_eq_getElem?_getD, List.getElem?_map, List.getElem?_range hi']
      rw [e1, e2]
      exact (hG i (by omega)).2
/-- A slice of rows. -/
theorem read_rows {t e e1 e2 : TypeId} {f0 f1 : Field} {fuel : Nat} {v : Value} {x : DataW H × List MemPlace} (ht : P.underlying t = some (.slice e)) (he : P.underlying e = some (.struct #[f0, f1])) (hC : P.cellsOf e = 2)
    (h0 : f0.type = e2 ∧ f0.offset = 0) (h1 : f1.type = e1 ∧ f1.offset = 1) (hi : P.underlying e1 = some (.int .i64)) (hc : P.cellsOf e1 = 1) (hs : P.underlying e2 = some (.slice e1)) (hcs : P.cellsOf e2 = 1)
    (h : DataW.trod enc P w base spare held fuel t [v] = some x) : ∃ A n c rs sl, v = .slice A n c ∧ Rd w w.heap.size 2 A n (rwsCells rs sl) ∧ n ≤ maxLen ∧ sl.length = rs.length ∧
      ∀ i, i < rs.length → Rd w w.heap.size 1 (sl.getD i default).at_ (sl.getD i default).len (ints (rs.getD i default).ins) ∧ (sl.getD i default).len ≤ maxLen := by
  rcases open_slice ht h with ⟨hcs', _⟩ | ⟨a, len, cap, m, n, D, Pl, hcs', _, hl, hm, hmm, _, hx⟩
  · injection hcs' with hcs'
    exact ⟨none, 0, 0, [], [], hcs', Rd.empty none, by unfold maxLen; omega, rfl, fun i hi => absurd hi (Nat.not_lt_zero _)⟩
  · injection hcs' with hcs'
    have hln : len ≤ m := by rw [hmm]; split <;> omega
    have hV : ∀ i, i < m → ∃ g : KT.Rw × Sl, (w.cell? (a.add (i * 2)) = some (.slice g.2.at_ g.2.len g.2.cap) ∧ w.cell? (a.add (i * 2 + 1)) = some (.int .i64 g.1.out)) ∧ Rd w w.heap.size 1 g.2.at_ g.2.len (ints g.1.ins) ∧ g.2.len ≤ maxLen := fun i hi' => by
      obtain ⟨cs', hcells, ht'⟩ := hx i hi'
      rw [hC] at hcells
      obtain ⟨_, hlen, hat⟩ := World.cells?_some hcells
      obtain ⟨y0, y1, n', _, _, t0, t1⟩ := trod_struct2 he ht'
      match cs', hlen with
      | [c0, c1], _ =>
        rw [h0.1, h0.2, hcs] at t0
        rw [h1.1, h1.2, hc] at t1
        simp only [List.drop_zero, List.drop_succ_cons, List.take_succ_cons, List.take_zero] at t0 t1
        obtain ⟨NA, nn, nc, zs, hv, hR, hn, _⟩ := read_ints hs hi hc t0
        obtain ⟨z1, e1, _⟩ := DataW.trod_int hi t1
        injection e1 with e1
        have q0 := hat 0 (by omega)
        have q1 := hat 1 (by omega)
        rw [add_add'] at q0 q1
        refine ⟨⟨⟨zs, z1⟩, ⟨NA, nn, nc⟩⟩, ⟨?_, ?_⟩, hR, hn⟩
        · simpa [hv] using q0
        · simpa [e1] using q1
    obtain ⟨G, hG⟩ := choose_lt (α := KT.Rw × Sl) (p := fun i g => (w.cell? (a.add (i * 2)) = some (.slice g.2.at_ g.2.len g.2.cap) ∧ w.cell? (a.add (i * 2 + 1)) = some (.int .i64 g.1.out)) ∧ Rd w w.heap.size 1 g.2.at_ g.2.len (ints g.1.ins) ∧ g.2.len ≤ maxLen) hV
    have hz : ((List.range len).map fun i => (G i).1).zip ((List.range len).map fun i => (G i).2) = (List.range len).map G := by
      rw [List.zip_map', ]
    refine ⟨some a, len, cap, (List.range len).map fun i => (G i).1, (List.range len).map fun i => (G i).2, hcs', rd_of_cells (by rw [rwsCells, flat2_length _ (fun _ => rfl), hz]; simp) (fun j u hu => ?_) (by omega), by omega, by simp, fun i hi => ?_⟩
    · rw [rwsCells, hz] at hu
      have hj : j < len * 2 := by
        have := (List.getElem?_eq_some_iff.1 hu).1
        rw [flat2_length _ (fun _ => rfl)] at this; simpa using this
      have hk : j / 2 < len := by omega
      obtain ⟨p0, p1⟩ := flat2_get rwCells (fun _ => rfl) ((List.range len).map G) (j / 2) (by simpa using hk)
      have hg : ((List.range len).map G).getD (j / 2) default = G (j / 2) := by
        simp [List.getD_eq_getElem?_getD, List.getElem?_map, List.getElem?_range hk]
      rw [hg] at p0 p1
      obtain ⟨⟨r0, r1⟩, _⟩ := hG (j / 2) (by omega)
      have hj2 : j = j / 2 * 2 ∨ j = j / 2 * 2 + 1 := by omega
      rcases hj2 with e | e
      · rw [← e] at p0 r0; rw [r0, ← hu]; exact p0.symm
      · rw [← e] at p1 r1; rw [r1, ← hu]; exact p1.symm
    · have hi' : i < len := by simpa using hi
      have e1 : ((List.range len).map fun i => (G i).1).getD i default = (G i).1 := by simp [List.getD_eq_getElem?_getD, List.getElem?_map, List.getElem?_range hi']
      have e2 : ((List.range len).map fun i => (G i).2).getD i default = (G i).2 := by simp [List.getD_eq_getElem?_getD, List.getElem?_map, List.getElem?_range hi']
      rw [e1, e2]
      exact (hG i (by omega)).2
/-- An array of arrays of integers that reads as a table of rows holds their numbers. -/
theorem cells_of_tab2 {fuel : Nat} {t e e2 : TypeId} {n m : Nat} {k : IntKind} {cs : List Value} {zss : List (List Int)} {p : List MemPlace} (ht : P.underlying t = some (.array n e)) (he : P.underlying e = some (.array m e2)) (he2 : P.underlying e2 = some (.int k))
    (hc2 : P.cellsOf e2 = 1) (hce : P.cellsOf e = m) (hct : P.cellsOf t = n * m) (hm0 : 0 < m) (h : DataW.trod enc P w base spare held fuel t cs = some (.agg (zss.map (Lib.tabData k)), p)) :
    ∀ i, i < n * m → cs[i]? = ((zss.getD (i / m) [])[i % m]?).map (Value.int k) := by
  obtain ⟨xs, mm, _, hx, hl, hn, hat⟩ := DataW.trod_array ht h
  simp only [Prod.mk.injEq, DataW.agg.injEq] at hx
  intro i hi
  have hq : i / m < n := by rw [Nat.div_lt_iff_lt_mul hm0]; exact hi
  have h1 := hat (i / m) hq
  rw [List.getElem?_eq_getElem (by omega)] at h1
  have h2 : (xs.map (·.1))[i / m]? = some (xs[i / m]'(by omega)).1 := by rw [List.getElem?_map, List.getElem?_eq_getElem (by omega)]; rfl
  rw [← hx.1, List.getElem?_map] at h2
  cases hz : zss[i / m]? with
  | none => rw [hz] at h2; cases h2
  | some zs =>
    rw [hz] at h2
    simp only [Option.map_some, Option.some.injEq] at h2
    rw [hce] at h1
    have h3 := Lib.cells_of_tab (zs := zs) (p := (xs[i / m]'(by omega)).2) he he2 hc2 hce (by rw [h1]; exact congrArg some (Prod.ext h2.symm rfl))
    rw [List.getD_eq_getElem?_getD, hz, Option.getD_some]
    have h4 := congrArg (·[i % m]?) h3
    simp only [List.getElem?_take, List.getElem?_drop, List.getElem?_map] at h4
    rw [if_pos (Nat.mod_lt _ hm0)] at h4
    rw [← h4]
    congr 1
    rw [Nat.mul_comm]
    exact (Nat.div_add_mod i m).symm
end
section
variable {H : Type} {enc : TypeId × Value → H} {w : World} {base b0 : Nat} {spare : Nat → Bool} {held : Bool} {r : Reach} {v : Value} {d : DataW H} {p : List MemPlace}
set_option maxRecDepth 100000 in
theorem open_table (hv : Value.okWide Tryd.prog w r b0 26 v) (h : DataW.Trod enc Tryd.prog w base spare held 26 v d p) :
    ∃ (t : KT.Tab) (Q : TP), v = .agg #[.int .i64 t.states, .int .i64 t.sym, .slice Q.HA Q.hn Q.hc, .slice Q.VA Q.vn Q.vc, .slice Q.RA Q.rn Q.rc] ∧ TabAt w t Q := by
  obtain ⟨v0, v1, v2, v3, v4, y0, y1, y2, y3, y4, n, rfl, h0, h1, h2, h3, h4⟩ := open_agg5K Tryd.underlying26 (by kernel_rfl) (by kernel_rfl) hv h
  obtain ⟨z0, e0, _⟩ := DataW.trod_int Tryd.underlying3 h0
  obtain ⟨z1, e1, _⟩ := DataW.trod_int Tryd.underlying3 h1
  injection e0 with e0
  injection e1 with e1
  obtain ⟨HA, hn, hc, hs, rfl, hH, hh⟩ := read_pts Tryd.underlying22 Tryd.underlying70 (by kernel_rfl) ⟨rfl, rfl⟩ ⟨rfl, rfl⟩ Tryd.underlying3 (by kernel_rfl) h2
  obtain ⟨VA, vn, vc, ws, vsl, rfl, hV, hvm, hvl, hvx⟩ := read_introwsK Tryd.underlying23 Tryd.underlying27 (by kernel_rfl) Tryd.underlying3 (by kernel_rfl) h3
  obtain ⟨RA, rn, rc, rs, rsl, rfl, hR, hrm, hrl, hrx⟩ := read_rows Tryd.underlying24 Tryd.underlying44 (by kernel_rfl) ⟨rfl, rfl⟩ ⟨rfl, rfl⟩ Tryd.underlying3 (by kernel_rfl) Tryd.underlying27 (by kernel_rfl) h4
  subst e0 e1
  exact ⟨⟨z0, z1, hs, ws, rs⟩, ⟨HA, hn, hc, VA, vn, vc, RA, rn, rc, vsl, rsl⟩, rfl, ⟨hH, hV, hvl, hvx, hR, hrl, hrx, hh, hvm, hrm⟩⟩
end
end Go.Proofs.YtlmdjkmcplobnaaDoor

/-
  The tree that is built from a table leads to the table's values, in plain terms.
-/
namespace Go.Proofs.YtlmdjkmcplobnaaDoor
set_option linter.unusedSimpArgs false
set_option linter.unusedVariables false
namespace KT
section
variable {S H L : Nat} {val : List Int → Int} {ins : List Int} {ns : List Nd}
theorem getD_left {α : Type} [Inhabited α] {l : List α} (m : List α) {i : Nat} (h : i < l.length) : (l ++ m).getD i default = l.getD i default := by
  simp only [List.getD_eq_getElem?_getD]; rw [List.getElem?_append_left h]
theorem getD_last {α : Type} [Inhabited α] (l : List α) (x : α) : (l ++ [x]).getD l.length default = x := by
  simp [List.getD_eq_getElem?_getD]
theorem Leads.more {k : Int} (h : Leads S val ns L ins k) (e : List Nd) : Leads S val (ns ++ e) L ins k := fun ext hood suf h1 h2 => by
  rw [List.append_assoc]; exact h (e ++ ext) hood suf h1 h2
/-- A child of a node that is being made. -/
def Kid (S : Nat) (val : List Int → Int) (ns : List Nd) (L : Nat) (ins : List Int) (j : Nat) (k : Int) : Prop :=
  0 ≤ k ∧ (L = 0 → k < S) ∧ (0 < L → k.toNat < ns.length ∧ (ns.getD k.toNat default).level = L) ∧ Leads S val ns L (ins ++ [(j : Int)]) k
theorem Kid.more {j : Nat} {k : Int} (h : Kid S val ns L ins j k) (e : List Nd) : Kid S val (ns ++ e) L ins j k :=
  ⟨h.1, h.2.1, fun hl => ⟨by have := (h.2.2.1 hl).1; simp; omega, by rw [getD_left _ (h.2.2.1 hl).1]; exact (h.2.2.1 hl).2⟩, h.2.2.2.more e⟩
/-- What the loop over the states keeps. -/
structure LInv (S H : Nat) (val : List Int → Int) (L : Nat) (ins : List Int) (ns0 : List Nd) (s : Nat) (next : List Int) (ns : List Nd) : Prop where
  len : next.length = s
  ok : NOk S H ns
  ext : ∃ e, ns = ns0 ++ e
  kid : ∀ j, j < s → Kid S val ns L ins j (next.getD j 0)
  low : ∀ M : Int, (∀ i, i < ns0.length → (ns0.getD i default).level < M) → (L : Int) < M → ∀ i, i < ns.length → (ns.getD i default).level < M
theorem loop_inv {ns0 : List Nd} (hrec : ∀ (s : Nat) (ns : List Nd), s < S → NOk S H ns → BOut S H val L (ins ++ [(s : Int)]) ns (buildK S val L (ins ++ [(s : Int)]) ns)) (hv : L = 0 → ∀ s : Nat, s < S → 0 ≤ val (ins ++ [(s : Int)]) ∧ val (ins ++ [(s : Int)]) < S) :
    ∀ (m s : Nat) (next : List Int) (ns : List Nd), s + m = S → LInv S H val L ins ns0 s next ns → LInv S H val L ins ns0 S (loopB (fun s ns => buildK S val L (ins ++ [s]) ns) m s next ns).1 (loopB (fun s ns => buildK S val L (ins ++ [s]) ns) m s next ns).2
  | 0, s, next, ns, hs, h => by
    obtain rfl : s = S := by omega
    exact h
  | m + 1, s, next, ns, hs, h => by
    unfold loopB
    have hr := hrec s ns (by omega) h.ok
    refine loop_inv hrec hv m (s + 1) _ _ (by omega) ?_
    obtain ⟨e, he⟩ := hr.ext
    obtain ⟨e0, he0⟩ := h.ext
    refine ⟨by simp [h.len], hr.ok, ⟨e0 ++ e, by rw [he, he0, List.append_assoc]⟩, fun j hj => ?_, fun M h1 h2 => hr.low M (h.low M h1 h2) h2⟩
    by_cases e1 : j = s
    · subst e1
      have : (next ++ [(buildK S val L (ins ++ [(j : Int)]) ns).1]).getD j 0 = (buildK S val L (ins ++ [(j : Int)]) ns).1 := by
        simp [List.getD_eq_getElem?_getD, ← h.len]
      rw [this]
      refine ⟨?_, fun h0 => ?_, fun hl => ⟨(hr.atL hl).2.1, (hr.atL hl).2.2⟩, hr.lead⟩
      · rcases Nat.eq_zero_or_pos L with h0 | h0
        · rw [(hr.at0 h0).1]; exact (hv h0 j (by omega)).1
        · exact (hr.atL h0).1
      · rw [(hr.at0 h0).1]; exact (hv h0 j (by omega)).2
    · have hjs : j < s := by omega
      have : (next ++ [(buildK S val L (ins ++ [(s : Int)]) ns).1]).getD j 0 = next.getD j 0 := by
        simp only [List.getD_eq_getElem?_getD]; rw [List.getElem?_append_left (by rw [h.len]; exact hjs)]
      rw [this, he]
      exact (h.kid j hjs).more e
theorem lead_node {i : Nat} {next : List Int} (hi : i < ns.length) (hn : (ns.getD i default).next = next) (hlen : next.length = S) (hk : ∀ j, j < S → Kid S val ns L ins j (next.getD j 0)) : Leads S val ns (L + 1) ins (i : Int) := by
  intro ext hood suf h1 h2
  match suf, h1, h2 with
  | s :: suf, h1, h2 =>
    have hs := h2 s (by simp)
    have hst : stepT ⟨(S : Int), hood, ns ++ ext⟩ (i : Int) s = next.getD s.toNat 0 := by
      unfold stepT
      rw [Int.toNat_natCast]
      show ((ns ++ ext).getD i default).next.getD s.toNat 0 = _
      rw [getD_left _ hi, hn]
    have hkid := hk s.toNat (by omega)
    have e1 : ins ++ s :: suf = ins ++ [(s.toNat : Int)] ++ suf := by
      rw [Int.toNat_of_nonneg hs.1]; simp
    rw [e1, ← hkid.2.2.2 ext hood suf (by simpa using h1) (fun z hz => h2 z (by simp [hz])), ← hst]
    rfl
theorem end_out {ns0 : List Nd} {next : List Int} (hLH : L + 1 ≤ H) (h : LInv S H val L ins ns0 S next ns) : BOut S H val (L + 1) ins ns0 (endB ((L : Int) + 1) (next, ns)) := by
  have hkid : ∀ k ∈ next, ∃ j, j < S ∧ Kid S val ns L ins j k := fun k hk => by
    obtain ⟨j, hj, e⟩ := List.getElem_of_mem hk
    refine ⟨j, by rw [← h.len]; exact hj, ?_⟩
    have := h.kid j (by rw [← h.len]; exact hj)
    rwa [List.getD_eq_getElem?_getD, List.getElem?_eq_getElem hj, Option.getD_some, e] at this
  unfold endB
  cases hf : findNd ns ((L : Int) + 1) next with
  | some i =>
    obtain ⟨hi, hp, _⟩ := List.findIdx?_eq_some_iff_getElem.1 hf
    have hg : ns.getD i default = ns[i] := by simp [List.getD_eq_getElem?_getD, List.getElem?_eq_getElem hi]
    simp only [Bool.and_eq_true, beq_iff_eq] at hp
    simp only [hf]
    exact ⟨h.ok, h.ext, fun q => by omega, fun _ => ⟨by simp, by simpa using hi, by rw [Int.toNat_natCast, hg, hp.1]; omega⟩, lead_node hi (by rw [hg]; exact hp.2) h.len h.kid, fun M h1 h2 => h.low M h1 (by omega)⟩
  | none =>
    simp only [hf]
    obtain ⟨e0, he0⟩ := h.ext
    have hlast : (ns ++ [(⟨(L : Int) + 1, next⟩ : Nd)]).getD ns.length default = (⟨(L : Int) + 1, next⟩ : Nd) := getD_last _ _
    have hcase : ∀ i, i < (ns ++ [(⟨(L : Int) + 1, next⟩ : Nd)]).length → i < ns.length ∨ i = ns.length := fun i hi => by simp at hi; omega
    refine ⟨⟨fun i hi => ?_, fun i hi k hk => ?_⟩, ⟨e0 ++ [⟨(L : Int) + 1, next⟩], by rw [he0, List.append_assoc]⟩, fun q => by omega, fun _ => ⟨by simp, by simp, by rw [Int.toNat_natCast, hlast]; simp⟩, ?_, fun M h1 h2 i hi => ?_⟩
    · rcases hcase i hi with hl | rfl
      · rw [getD_left _ hl]; exact h.ok.lev i hl
      · rw [hlast]; exact ⟨by dsimp only; omega, by dsimp only; omega, h.len⟩
    · rcases hcase i hi with hl | rfl
      · rw [getD_left _ hl] at hk ⊢
        obtain ⟨q1, q2, q3⟩ := h.ok.link i hl k hk
        exact ⟨q1, q2, fun q => ⟨(q3 q).1, by rw [getD_left _ (by have := (q3 q).1; omega)]; exact (q3 q).2⟩⟩
      · rw [hlast] at hk ⊢
        obtain ⟨j, hj, hkd⟩ := hkid k hk
        refine ⟨hkd.1, fun q => hkd.2.1 (by dsimp only at q; omega), fun q => ?_⟩
        obtain ⟨a1, a2⟩ := hkd.2.2.1 (by dsimp only at q; omega)
        exact ⟨by have := hkd.1; omega, by rw [getD_left _ a1, a2]; dsimp only; omega⟩
    · exact lead_node (i := ns.length) (by simp) (by rw [hlast]) h.len (fun j hj => (h.kid j hj).more _)
    · rcases hcase i hi with hl | rfl
      · rw [getD_left _ hl]; exact h.low M h1 (by omega) i hl
      · rw [hlast]; dsimp only; omega
theorem buildK_out (hval : ∀ ins : List Int, ins.length = H → (∀ s ∈ ins, 0 ≤ s ∧ s < (S : Int)) → 0 ≤ val ins ∧ val ins < S) : ∀ (L : Nat) (ins : List Int) (ns : List Nd), L + ins.length = H → (∀ s ∈ ins, 0 ≤ s ∧ s < (S : Int)) → NOk S H ns → BOut S H val L ins ns (buildK S val L ins ns)
  | 0, ins, ns, hl, hi, hn => ⟨hn, ⟨[], by simp [buildK]⟩, fun _ => ⟨rfl, rfl⟩, fun q => absurd q (Nat.lt_irrefl _), fun ext hood suf h1 h2 => by
      have : suf = [] := List.eq_nil_of_length_eq_zero h1
      subst this
      simp [walkT, buildK], fun M h1 _ => h1⟩
  | L + 1, ins, ns, hl, hi, hn => by
    have hin : ∀ s : Nat, s < S → ∀ z ∈ ins ++ [(s : Int)], 0 ≤ z ∧ z < (S : Int) := fun s hs z hz => by
      rcases List.mem_append.1 hz with hz | hz
      · exact hi z hz
      · simp at hz; subst hz; omega
    have h0 : LInv S H val L ins ns 0 [] ns := ⟨rfl, hn, ⟨[], by simp⟩, fun j hj => absurd hj (Nat.not_lt_zero _), fun M h1 _ => h1⟩
    have h1 := loop_inv (S := S) (H := H) (val := val) (L := L) (ins := ins) (ns0 := ns) (fun s ns' hs hn' => buildK_out hval L (ins ++ [(s : Int)]) ns' (by simp; omega) (hin s hs) hn')
      (fun h0 s hs => hval _ (by subst h0; simp at hl ⊢; omega) (hin s hs)) S 0 [] ns (by omega) h0
    unfold buildK
    exact end_out (by omega) h1
/-- THE LAW OF THE TREE. -/
theorem tree_law {hood : List Pt} (hS : 2 ≤ S ∧ S ≤ 8) (hh : hoodOk hood = true) (hval : ∀ ins : List Int, ins.length = hood.length → (∀ s ∈ ins, 0 ≤ s ∧ s < (S : Int)) → 0 ≤ val ins ∧ val ins < S)
    (hn : (buildK S val hood.length [] []).2.length ≤ 4096) : rightT ⟨S, hood, (buildK S val hood.length [] []).2⟩ = true ∧ ∀ ins : List Int, ins.length = hood.length → (∀ s ∈ ins, 0 ≤ s ∧ s < (S : Int)) → valueT ⟨S, hood, (buildK S val hood.length [] []).2⟩ ins = val ins := by
  have hH : 1 ≤ hood.length := by
    unfold hoodOk at hh
    simp only [Bool.and_eq_true, decide_eq_true_eq] at hh
    exact hh.1.1
  obtain ⟨L, hL⟩ : ∃ L, hood.length = L + 1 := ⟨hood.length - 1, by omega⟩
  have hout := buildK_out hval hood.length [] [] (by simp) (by simp) ⟨fun i hi => absurd hi (Nat.not_lt_zero _), fun i hi => absurd hi (Nat.not_lt_zero _)⟩
  have hroot : (buildK S val hood.length [] []).1 = ((buildK S val hood.length [] []).2.length : Int) - 1 := by
    have h0 : LInv S hood.length val L [] [] 0 [] [] := ⟨rfl, ⟨fun i hi => absurd hi (Nat.not_lt_zero _), fun i hi => absurd hi (Nat.not_lt_zero _)⟩, ⟨[], rfl⟩, fun j hj => absurd hj (Nat.not_lt_zero _), fun M h1 _ => h1⟩
    have hin : ∀ s : Nat, s < S → ∀ z ∈ ([] : List Int) ++ [(s : Int)], 0 ≤ z ∧ z < (S : Int) := fun s hs z hz => by
      simp at hz; subst hz; omega
    have h1 := loop_inv (S := S) (H := hood.length) (val := val) (L := L) (ins := []) (ns0 := []) (fun s ns' hs hn' => buildK_out hval L ([] ++ [(s : Int)]) ns' (by simp; omega) (hin s hs) hn')
      (fun h0 s hs => hval _ (by subst h0; simp; omega) (hin s hs)) S 0 [] [] (by omega) h0
    have hlow := h1.low ((L : Int) + 1) (fun i hi => absurd hi (Nat.not_lt_zero _)) (by omega)
    rw [hL]
    unfold buildK endB
    have hnone : findNd (loopB (fun s ns => buildK S val L ([] ++ [s]) ns) S 0 [] []).2 ((L : Int) + 1) (loopB (fun s ns => buildK S val L ([] ++ [s]) ns) S 0 [] []).1 = none := by
      refine List.findIdx?_eq_none_iff.2 fun x hx => ?_
      obtain ⟨i, hi, e⟩ := List.getElem_of_mem hx
      have := hlow i hi
      rw [List.getD_eq_getElem?_getD, List.getElem?_eq_getElem hi, Option.getD_some, e] at this
      have h2 : (x.level == (L : Int) + 1) = false := by simp; omega
      rw [h2]; rfl
    rw [hnone]
    simp
  obtain ⟨a1, a2, a3⟩ := hout.atL (by omega)
  refine ⟨?_, fun ins hl hi => ?_⟩
  · unfold rightT headOk
    rw [hh]
    simp only [Bool.true_and, Bool.and_eq_true, decide_eq_true_eq]
    refine ⟨⟨by omega, by omega, hn, ?_⟩, decide_eq_true fun i hi => ?_⟩
    · rw [show (buildK S val hood.length [] []).2.length - 1 = (buildK S val hood.length [] []).1.toNat by omega]
      exact a3
    · unfold nodeOk
      simp only [Bool.and_eq_true, decide_eq_true_eq, List.all_eq_true]
      obtain ⟨b1, b2, b3⟩ := hout.ok.lev i hi
      exact ⟨⟨b1, b2, by rw [b3]⟩, fun k hk => decide_eq_true (hout.ok.link i hi k hk)⟩
  · have := hout.lead [] hood ins hl hi
    rw [List.append_nil, hroot] at this
    exact this
end
end KT
end Go.Proofs.YtlmdjkmcplobnaaDoor

/-
  The texts under which the nodes are kept: decimal numbers with blanks; two nodes, two texts.
-/
namespace Go.Proofs.YtlmdjkmcplobnaaDoor
open Go.Lib
set_option linter.unusedSimpArgs false
set_option linter.unusedVariables false
namespace KT
def readD (l : List UInt8) : Nat := l.foldl (fun a c => a * 10 + (c.toNat - 48)) 0
theorem dig_toNat {d : Nat} (h : d < 10) : (UInt8.ofNat (48 + d)).toNat = 48 + d := by
  rw [UInt8.toNat_ofNat_of_lt']; show _ < 256; omega
theorem readD_dec (u : Nat) : readD (decDigits u) = u := by
  induction u using Nat.strongRecOn with
  | ind u ih =>
    rw [decDigits]
    split
    · rename_i h
      show 0 * 10 + ((UInt8.ofNat (48 + u)).toNat - 48) = u
      rw [dig_toNat h]; omega
    · rename_i h
      have := ih (u / 10) (by omega)
      unfold readD at this ⊢
      rw [List.foldl_append, this]
      show u / 10 * 10 + ((UInt8.ofNat (48 + u % 10)).toNat - 48) = u
      rw [dig_toNat (by omega)]; omega
theorem dec_inj {u v : Nat} (h : decDigits u = decDigits v) : u = v := by rw [← readD_dec u, h, readD_dec]
theorem dec_blank (u : Nat) : ∀ c ∈ decDigits u, c ≠ 32 := by
  induction u using Nat.strongRecOn with
  | ind u ih =>
    intro c hc e
    subst e
    rw [decDigits] at hc
    split at hc
    · rename_i h
      have := List.mem_singleton.1 hc
      have h2 := congrArg UInt8.toNat this
      rw [dig_toNat h] at h2
      have : (32 : UInt8).toNat = 32 := rfl
      omega
    · rename_i h
      rcases List.mem_append.1 hc with h1 | h1
      · exact ih (u / 10) (by omega) 32 h1 rfl
      · have := List.mem_singleton.1 h1
        have h2 := congrArg UInt8.toNat this
        rw [dig_toNat (by omega)] at h2
        have : (32 : UInt8).toNat = 32 := rfl
        omega
theorem itoa_at {a : Int} (h : 0 ≤ a) : itoa a = decDigits a.toNat := by unfold itoa; rw [if_neg (by omega)]
theorem itoa_inj {a b : Int} (ha : 0 ≤ a) (hb : 0 ≤ b) (h : itoa a = itoa b) : a = b := by
  rw [itoa_at ha, itoa_at hb] at h
  have := dec_inj h
  omega
theorem itoa_blank {a : Int} (ha : 0 ≤ a) : ∀ c ∈ itoa a, c ≠ 32 := by rw [itoa_at ha]; exact dec_blank _
/-- The rest of a key: every number behind a blank. -/
def keyR (l : List Int) : List UInt8 := l.flatMap (fun k => 32 :: itoa k)
def keyS (lev : Int) (l : List Int) : List UInt8 := itoa lev ++ keyR l
theorem keyR_snoc (l : List Int) (k : Int) : keyR (l ++ [k]) = keyR l ++ (32 :: itoa k) := by simp [keyR]
theorem part_eq : ∀ (p q r s : List UInt8), (∀ c ∈ p, c ≠ 32) → (∀ c ∈ q, c ≠ 32) → (r = [] ∨ ∃ t, r = 32 :: t) → (s = [] ∨ ∃ t, s = 32 :: t) → p ++ r = q ++ s → p = q ∧ r = s
  | [], [], r, s, _, _, _, _, h => ⟨rfl, h⟩
  | [], d :: q, r, s, _, hq, hr, _, h => by
    rcases hr with rfl | ⟨t, rfl⟩
    · cases h
    · injection h with h1 h2
      exact absurd h1.symm (hq d (by simp))
  | c :: p, [], r, s, hp, _, _, hs, h => by
    rcases hs with rfl | ⟨t, rfl⟩
    · cases h
    · injection h with h1 h2
      exact absurd h1 (hp c (by simp))
  | c :: p, d :: q, r, s, hp, hq, hr, hs, h => by
    injection h with h1 h2
    obtain ⟨e1, e2⟩ := part_eq p q r s (fun x hx => hp x (by simp [hx])) (fun x hx => hq x (by simp [hx])) hr hs h2
    exact ⟨by rw [h1, e1], e2⟩
theorem keyR_form : ∀ l : List Int, keyR l = [] ∨ ∃ t, keyR l = 32 :: t
  | [] => .inl rfl
  | k :: l => .inr ⟨itoa k ++ keyR l, by simp [keyR]⟩
theorem keyR_inj : ∀ (l m : List Int), (∀ k ∈ l, 0 ≤ k) → (∀ k ∈ m, 0 ≤ k) → keyR l = keyR m → l = m
  | [], [], _, _, _ => rfl
  | [], k :: m, _, _, h => by simp [keyR] at h
  | k :: l, [], _, _, h => by simp [keyR] at h
  | a :: l, b :: m, hl, hm, h => by
    have h' : itoa a ++ keyR l = itoa b ++ keyR m := by
      have : (32 : UInt8) :: (itoa a ++ keyR l) = 32 :: (itoa b ++ keyR m) := by simpa [keyR] using h
      injection this
    obtain ⟨e1, e2⟩ := part_eq _ _ _ _ (itoa_blank (hl a (by simp))) (itoa_blank (hm b (by simp))) (keyR_form l) (keyR_form m) h'
    rw [itoa_inj (hl a (by simp)) (hm b (by simp)) e1, keyR_inj l m (fun k hk => hl k (by simp [hk])) (fun k hk => hm k (by simp [hk])) e2]
theorem keyS_inj {a b : Int} {l m : List Int} (ha : 0 ≤ a) (hb : 0 ≤ b) (hl : ∀ k ∈ l, 0 ≤ k) (hm : ∀ k ∈ m, 0 ≤ k) (h : keyS a l = keyS b m) : a = b ∧ l = m := by
  obtain ⟨e1, e2⟩ := part_eq _ _ _ _ (itoa_blank ha) (itoa_blank hb) (keyR_form l) (keyR_form m) h
  exact ⟨itoa_inj ha hb e1, keyR_inj l m hl hm e2⟩
end KT
end Go.Proofs.YtlmdjkmcplobnaaDoor

/-
  A region that draws its order and ends in a row of operations W (an append, a store), ahead of which all its loads have come up: a condition S on the world is shown behind every operation but those of W, so loads may be taken first although the last store hits a cell that they read. Any program.
-/
namespace Go.Proofs.YtlmdjkmcplobnaaDoor
open Go.RowKit
set_option linter.unusedSimpArgs false
set_option linter.unusedVariables false

section
variable {P : Program} {ops : Array Oper} {Q : Exit → Act → World → Prop} {md : Region.Mode} {S : World → Prop} {W : List Nat}

/-- What is listed waits for listed ones only. -/
def closedL (md : Region.Mode) (ops : Array Oper) (lst : Array Bool) : Prop :=
  ∀ k ok, ops[k]? = some ok → lst.getD k false = true → ∀ e ∈ ok.after, Region.binds md e = true → lst.getD e.on false = true

/-- From here on in whatever order; behind operation i, unless it is one of W, S holds. -/
def anyL (P : Program) (md : Region.Mode) (ops : Array Oper) (Q : Exit → Act → World → Prop) (S : World → Prop) (W : List Nat) : Nat → Array Bool → Act → World → Prop
  | 0, lst, a, w => Region.ready md ops lst = [] ∧ Q .normal a w
  | f + 1, lst, a, w => (Region.ready md ops lst = [] → Q .normal a w) ∧
      ∀ i, i ∈ Region.ready md ops lst → wpOp P ops Q i (fun b u => (W.contains i = false → S w → S u) ∧ anyL P md ops Q S W f (lst.setIfInBounds i true) b u) a w

theorem anyL_any (f : Nat) : ∀ (lst : Array Bool) (a : Act) (w : World), anyL P md ops Q S W f lst a w → wpAny P md ops Q f lst a w := by
  induction f with
  | zero => exact fun _ _ _ h => h
  | succ f ih => exact fun lst a w h => ⟨h.1, fun i hi => wpOp_mono (fun b u hb => ih _ b u hb.2) (h.2 i hi)⟩

/-- An unlisted one is not listed. -/
theorem un_not {lst : Array Bool} {k : Nat} (h : lst.getD k true = false) : ¬ lst.getD k false = true := by
  rw [Array.getD_eq_getD_getElem?] at h ⊢
  cases h' : lst[k]? with
  | none => simp
  | some b => rw [h'] at h; simp only [Option.getD_some] at h ⊢; rw [h]; simp

theorem closedL.none {n : Nat} : closedL md ops (Array.replicate n false) := by
  intro k ok _ hk
  rw [Array.getD_eq_getD_getElem?, Array.getElem?_replicate] at hk
  split at hk <;> simp at hk

theorem closedL.set {lst : Array Bool} {j : Nat} (h : closedL md ops lst) (hj : j ∈ Region.ready md ops lst) : closedL md ops (lst.setIfInBounds j true) := by
  intro k ok hok hk e he hb
  by_cases ejk : j = k
  · subst ejk
    obtain ⟨_, o2, ho2, hall⟩ := mem_ready.1 hj
    obtain rfl : o2 = ok := Option.some.inj (ho2.symm.trans hok)
    exact getD_set_true (hall e he hb)
  · rw [getD_set_ne false ejk] at hk
    exact getD_set_true (h k ok hok hk e he hb)

/-- A row of operations each of which waits for the next, the last of them for i. -/
def chainTo (md : Region.Mode) (ops : Array Oper) (i : Nat) : List Nat → Bool
  | [] => false
  | [a] => Region.waitsFor md ops a i
  | a :: b :: r => Region.waitsFor md ops a b && chainTo md ops i (b :: r)

theorem chainTo_spec {lst : Array Bool} {i : Nat} (hc : closedL md ops lst) (hi : ¬ lst.getD i false = true) : ∀ (r : List Nat) (j : Nat), chainTo md ops i (j :: r) = true → ∃ k, Region.waitsFor md ops j k = true ∧ ¬ lst.getD k false = true
  | [], j, h => ⟨i, h, hi⟩
  | b :: r, j, h => by
    simp only [chainTo, Bool.and_eq_true] at h
    obtain ⟨k, h1, h2⟩ := chainTo_spec hc hi r b h.2
    refine ⟨b, h.1, fun hb => h2 ?_⟩
    obtain ⟨ob, hob, e, he, hbi, rfl⟩ := Region.waitsFor_spec h1
    exact hc b ob hob hb e he hbi

/-- An operation that waits for an unlisted one does not come up. -/
theorem not_ready {lst : Array Bool} {i j : Nat} (hw : Region.waitsFor md ops j i = true) (hun : ¬ lst.getD i false = true) : j ∉ Region.ready md ops lst := by
  intro hj
  obtain ⟨oj, hoj, e, he, hb, rfl⟩ := Region.waitsFor_spec hw
  obtain ⟨_, ok, hok, hall⟩ := mem_ready.1 hj
  obtain rfl : ok = oj := Option.some.inj (hok.symm.trans hoj)
  exact hun (hall e he hb)

/-- Each of W waits for i, by one of these rows. -/
def waitAll (md : Region.Mode) (ops : Array Oper) (i : Nat) (W : List Nat) (ps : List (List Nat)) : Bool :=
  W.all fun l => ps.any fun p => p.head? == some l && chainTo md ops i p
theorem waitAll_spec {lst : Array Bool} {i : Nat} {ps : List (List Nat)} (h : waitAll md ops i W ps = true) (hc : closedL md ops lst) (hi : ¬ lst.getD i false = true) {l : Nat} (hl : l ∈ W) : l ∉ Region.ready md ops lst := by
  unfold waitAll at h
  rw [List.all_eq_true] at h
  have h1 := h l hl
  rw [List.any_eq_true] at h1
  obtain ⟨p, _, hp⟩ := h1
  rw [Bool.and_eq_true, beq_iff_eq] at hp
  cases p with
  | nil => cases hp.1
  | cons a r =>
    obtain rfl : a = l := Option.some.inj hp.1
    obtain ⟨k, h2, h3⟩ := chainTo_spec hc hi r a hp.2
    exact not_ready h2 h3

theorem anyL_first {i : Nat} {oi : Oper} {v : Value} {ps : List (List Nat)} (hi : ops[i]? = some oi) (hsel : ∀ (j : Nat) (o : Oper) cs b, ops[j]? = some o → o.op ≠ .select cs b)
    (hQ : ∀ c a w, Q (.panic c) (a.put oi.dst v) w → Q (.panic c) a w) (hL : waitAll md ops i W ps = true) (f : Nat) :
    ∀ (lst : Array Bool) (a : Act) (w : World), closedL md ops lst →
      (∀ j oj, ops[j]? = some oj → j ≠ i → lst.getD j true = false → (∀ e ∈ oj.after, Region.binds md e = true → e.on ≠ i) → oi.apart ops oj = true) →
      i ∈ Region.ready md ops lst → YieldsIf P ops S oi v a → S w →
      anyL P md ops Q S W f (lst.setIfInBounds i true) (a.put oi.dst v) w → anyL P md ops Q S W (f + 1) lst a w := by
  induction f with
  | zero =>
    intro lst a w _ _ hr hy hS H
    constructor
    · intro h0; rw [h0] at hr; cases hr
    · intro j hj
      by_cases e : j = i
      · rw [e]; exact hy.wpOp hi hS ⟨fun _ _ => hS, H⟩
      · have h1 := ready_mono hj e
        rw [H.1] at h1; cases h1
  | succ f ih =>
    intro lst a w hcl hfree hr hy hS H
    constructor
    · intro h0; rw [h0] at hr; cases hr
    · intro j hj
      by_cases e : j = i
      · rw [e]; exact hy.wpOp hi hS ⟨fun _ _ => hS, H⟩
      · have hiun := un_not (mem_ready.1 hr).1
        have hjL : W.contains j = false := by
          rw [Bool.eq_false_iff]
          intro hc
          exact waitAll_spec hL hcl hiun (List.contains_iff_mem.1 hc) hj
        obtain ⟨hun, oj, hoj, hall⟩ := mem_ready.1 hj
        have hno : ∀ e' ∈ oj.after, Region.binds md e' = true → e'.on ≠ i := fun e' he hb heq => hiun (heq ▸ hall e' he hb)
        refine wpOp_mono (fun b u h3 => ?_) (wpOp_putIf hoj (hfree j oj hoj e hun hno) (fun cs b => hsel i oi cs b hi) (fun cs b => hsel j oj cs b hoj) hQ hy (H.2 j (ready_mono hj e)))
        obtain ⟨hy', hS', hrest⟩ := h3
        refine ⟨hS', ih (lst.setIfInBounds j true) b u (hcl.set hj) (fun k ok hok hki hkun hkno => ?_) (ready_mono hr (Ne.symm e)) hy' (hS' hjL hS) ?_⟩
        · refine hfree k ok hok hki ?_ hkno
          by_cases hjk : j = k
          · subst hjk; exact hun
          · rw [getD_set_ne true hjk] at hkun; exact hkun
        · rw [Array.setIfInBounds_comm _ _ e]; exact hrest

/-- An operation that does not look at the world is taken first, wherever it stands. -/
theorem anyL_pure {i : Nat} {oi : Oper} {v : Value} (hi : ops[i]? = some oi) (hsel : ∀ (j : Nat) (o : Oper) cs b, ops[j]? = some o → o.op ≠ .select cs b)
    (hQ : ∀ c a w, Q (.panic c) (a.put oi.dst v) w → Q (.panic c) a w) (f : Nat) :
    ∀ (lst : Array Bool) (a : Act) (w : World), closedL md ops lst →
      (∀ j oj, ops[j]? = some oj → j ≠ i → lst.getD j true = false → (∀ e ∈ oj.after, Region.binds md e = true → e.on ≠ i) → oi.apart ops oj = true) →
      i ∈ Region.ready md ops lst → YieldsIf P ops (fun _ => True) oi v a →
      anyL P md ops Q S W f (lst.setIfInBounds i true) (a.put oi.dst v) w → anyL P md ops Q S W (f + 1) lst a w := by
  induction f with
  | zero =>
    intro lst a w _ _ hr hy H
    constructor
    · intro h0; rw [h0] at hr; cases hr
    · intro j hj
      by_cases e : j = i
      · rw [e]; exact hy.wpOp hi trivial ⟨fun _ h => h, H⟩
      · have h1 := ready_mono hj e
        rw [H.1] at h1; cases h1
  | succ f ih =>
    intro lst a w hcl hfree hr hy H
    constructor
    · intro h0; rw [h0] at hr; cases hr
    · intro j hj
      by_cases e : j = i
      · rw [e]; exact hy.wpOp hi trivial ⟨fun _ h => h, H⟩
      · have hiun := un_not (mem_ready.1 hr).1
        obtain ⟨hun, oj, hoj, hall⟩ := mem_ready.1 hj
        have hno : ∀ e' ∈ oj.after, Region.binds md e' = true → e'.on ≠ i := fun e' he hb heq => hiun (heq ▸ hall e' he hb)
        refine wpOp_mono (fun b u h3 => ?_) (wpOp_putIf hoj (hfree j oj hoj e hun hno) (fun cs b => hsel i oi cs b hi) (fun cs b => hsel j oj cs b hoj) hQ hy (H.2 j (ready_mono hj e)))
        obtain ⟨hy', hS', hrest⟩ := h3
        refine ⟨hS', ih (lst.setIfInBounds j true) b u (hcl.set hj) (fun k ok hok hki hkun hkno => ?_) (ready_mono hr (Ne.symm e)) hy' ?_⟩
        · refine hfree k ok hok hki ?_ hkno
          by_cases hjk : j = k
          · subst hjk; exact hun
          · rw [getD_set_ne true hjk] at hkun; exact hkun
        · rw [Array.setIfInBounds_comm _ _ e]; exact hrest

/-- The rest of the region, over a list that is closed. -/
def restL (P : Program) (md : Region.Mode) (ops : Array Oper) (Q : Exit → Act → World → Prop) (S : World → Prop) (W : List Nat) (f : Nat) (lst : Array Bool) (a : Act) (w : World) : Prop :=
  closedL md ops lst → anyL P md ops Q S W f lst a w

/-- Operation i is taken first. -/
theorem restL_take {i : Nat} {oi : Oper} {v : Value} {f : Nat} {lst : Array Bool} {a : Act} {w : World} (ps : List (List Nat)) (hi : ops[i]? = some oi)
    (hs : Region.noSelect ops = true) (hf : Region.free md ops lst i = true) (hr : (Region.ready md ops lst).contains i = true) (hL : waitAll md ops i W ps = true)
    (hQ : ∀ c a w, Q (.panic c) (a.put oi.dst v) w → Q (.panic c) a w) (hy : YieldsIf P ops S oi v a) (hS : S w)
    (h : restL P md ops Q S W f (lst.setIfInBounds i true) (a.put oi.dst v) w) : restL P md ops Q S W (f + 1) lst a w := by
  intro hc
  have hr' : i ∈ Region.ready md ops lst := by simpa using hr
  exact anyL_first hi (Region.noSelect_spec hs) hQ hL f lst a w hc (Region.free_spec hi hf) hr' hy hS (h (hc.set hr'))
theorem restL_pure {i : Nat} {oi : Oper} {v : Value} {f : Nat} {lst : Array Bool} {a : Act} {w : World} (hi : ops[i]? = some oi)
    (hs : Region.noSelect ops = true) (hf : Region.free md ops lst i = true) (hr : (Region.ready md ops lst).contains i = true)
    (hQ : ∀ c a w, Q (.panic c) (a.put oi.dst v) w → Q (.panic c) a w) (hy : YieldsIf P ops (fun _ => True) oi v a)
    (h : restL P md ops Q S W f (lst.setIfInBounds i true) (a.put oi.dst v) w) : restL P md ops Q S W (f + 1) lst a w := by
  intro hc
  have hr' : i ∈ Region.ready md ops lst := by simpa using hr
  exact anyL_pure hi (Region.noSelect_spec hs) hQ f lst a w hc (Region.free_spec hi hf) hr' hy (h (hc.set hr'))
/-- The only one that may come up comes up. -/
theorem restL_one {i : Nat} {o : Oper} {f : Nat} {lst : Array Bool} {a : Act} {w : World} (hr : Region.ready md ops lst = [i]) (ho : ops[i]? = some o)
    (h : ∀ K' : Act → World → Prop, Shut (∀ b u, (W.contains i = false → S u) → ((W.contains i = false → S u) → restL P md ops Q S W f (lst.setIfInBounds i true) b u) → K' b u) → if Region.wanted o (yielded ops a.tmps) = true then Oper.wp P o a w K' Q else K' (a.put o.dst undef) w) :
    restL P md ops Q S W (f + 1) lst a w := by
  intro hc
  refine And.intro (fun h0 => absurd (hr.symm.trans h0) (by simp)) (fun j hj => ?_)
  have hc' := hc.set hj
  rw [hr] at hj
  obtain rfl := List.mem_singleton.1 hj
  exact wpOp_step ho (fun K' hK => h K' (fun b u hS hW => hK b u ⟨fun e _ => hS e, hW hS hc'⟩))
theorem restL_done {lst : Array Bool} {a : Act} {w : World} (hr : Region.ready md ops lst = []) (h : Q .normal a w) : ∀ f, restL P md ops Q S W f lst a w
  | 0 => fun _ => ⟨hr, h⟩
  | _ + 1 => fun _ => And.intro (fun _ => h) (fun i hi => by rw [hr] at hi; cases hi)
/-- The beginning. -/
theorem wp_region_L {id : Nat} {a : Act} {w : World} (S : World → Prop) (W : List Nat) (hm : P.follows .mixedOrders = true) (hS : S w.drew)
    (h : S w.drew → restL P .any ops Q S W ops.size (Array.replicate ops.size false) a w.drew) : (Code.region id ops true).wp P Q a w :=
  wp_region_any hm (anyL_any _ _ _ _ (h hS closedL.none))
end
end Go.Proofs.YtlmdjkmcplobnaaDoor
