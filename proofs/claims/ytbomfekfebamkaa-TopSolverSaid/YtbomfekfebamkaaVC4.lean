/-
  A region that draws its order and ends in a row of operations W (an append, a store), ahead of which all its loads have come up: a condition S on the world is shown behind every operation but those of W, so loads may be taken first although the last store hits a cell that they read. Any program.
-/
import Derived.Test.YtbomfekfebamkaaVC1
import Derived.OrdersHeld
import Derived.StillTail
import Derived.Deep.RegionHeld
import Derived.Maps.OwnSet
import Derived.Test.YtbomfekfebamkaaVC3
import Derived.Test.YtbomfekfebamkaaVC2
import Derived.Lib.Hide
namespace Go.Proofs.Ytbomfekfebamkaa
open Go.RowKit
set_option linter.unusedSimpArgs false
set_option linter.unusedVariables false

section
variable {P : Program} {ops : Array Oper} {Q : Exit → Act → World → Prop} {md : Region.Mode} {S : World → Prop} {W : List Nat}

/-- What is listed waits for listed ones only. -/
def closedL (md : Region.Mode) (ops : Array Oper) (lst : Array Bool) : Prop :=
  ∀ k ok, ops[k]? = some ok → lst.getD k false = true → ∀ e ∈ ok.after, Region.binds md e = true → lst.getD e.on false = true

/-- From here on in whatever order; behind operation i, unless it is one of W, S holds. -/
def anyL (P : Program) (md : Region.Mode) (ops : Array Oper) (Q : Exit → Act → World → Prop) (S : World → Prop) (W : List Nat) : Nat → Array Bool → Act → World → Prop
  | 0, lst, a, w => Region.ready md ops lst = [] ∧ Q .normal a w
  | f + 1, lst, a, w => (Region.ready md ops lst = [] → Q .normal a w) ∧
      ∀ i, i ∈ Region.ready md ops lst → wpOp P ops Q i (fun b u => (W.contains i = false → S w → S u) ∧ anyL P md ops Q S W f (lst.setIfInBounds i true) b u) a w

theorem anyL_any (f : Nat) : ∀ (lst : Array Bool) (a : Act) (w : World), anyL P md ops Q S W f lst a w → wpAny P md ops Q f lst a w := by
  induction f with
  | zero => exact fun _ _ _ h => h
  | succ f ih => exact fun lst a w h => ⟨h.1, fun i hi => wpOp_mono (fun b u hb => ih _ b u hb.2) (h.2 i hi)⟩

/-- An unlisted one is not listed. -/
theorem un_not {lst : Array Bool} {k : Nat} (h : lst.getD k true = false) : ¬ lst.getD k false = true := by
  rw [Array.getD_eq_getD_getElem?] at h ⊢
  cases h' : lst[k]? with
  | none => simp
  | some b => rw [h'] at h; simp only [Option.getD_some] at h ⊢; rw [h]; simp

theorem closedL.none {n : Nat} : closedL md ops (Array.replicate n false) := by
  intro k ok _ hk
  rw [Array.getD_eq_getD_getElem?, Array.getElem?_replicate] at hk
  split at hk <;> simp at hk

theorem closedL.set {lst : Array Bool} {j : Nat} (h : closedL md ops lst) (hj : j ∈ Region.ready md ops lst) : closedL md ops (lst.setIfInBounds j true) := by
  intro k ok hok hk e he hb
  by_cases ejk : j = k
  · subst ejk
    obtain ⟨_, o2, ho2, hall⟩ := mem_ready.1 hj
    obtain rfl : o2 = ok := Option.some.inj (ho2.symm.trans hok)
    exact getD_set_true (hall e he hb)
  · rw [getD_set_ne false ejk] at hk
    exact getD_set_true (h k ok hok hk e he hb)

/-- A row of operations each of which waits for the next, the last of them for i. -/
def chainTo (md : Region.Mode) (ops : Array Oper) (i : Nat) : List Nat → Bool
  | [] => false
  | [a] => Region.waitsFor md ops a i
  | a :: b :: r => Region.waitsFor md ops a b && chainTo md ops i (b :: r)

theorem chainTo_spec {lst : Array Bool} {i : Nat} (hc : closedL md ops lst) (hi : ¬ lst.getD i false = true) : ∀ (r : List Nat) (j : Nat), chainTo md ops i (j :: r) = true → ∃ k, Region.waitsFor md ops j k = true ∧ ¬ lst.getD k false = true
  | [], j, h => ⟨i, h, hi⟩
  | b :: r, j, h => by
    simp only [chainTo, Bool.and_eq_true] at h
    obtain ⟨k, h1, h2⟩ := chainTo_spec hc hi r b h.2
    refine ⟨b, h.1, fun hb => h2 ?_⟩
    obtain ⟨ob, hob, e, he, hbi, rfl⟩ := Region.waitsFor_spec h1
    exact hc b ob hob hb e he hbi

/-- An operation that waits for an unlisted one does not come up. -/
theorem not_ready {lst : Array Bool} {i j : Nat} (hw : Region.waitsFor md ops j i = true) (hun : ¬ lst.getD i false = true) : j ∉ Region.ready md ops lst := by
  intro hj
  obtain ⟨oj, hoj, e, he, hb, rfl⟩ := Region.waitsFor_spec hw
  obtain ⟨_, ok, hok, hall⟩ := mem_ready.1 hj
  obtain rfl : ok = oj := Option.some.inj (hok.symm.trans hoj)
  exact hun (hall e he hb)

/-- Each of W waits for i, by one of these rows. -/
def waitAll (md : Region.Mode) (ops : Array Oper) (i : Nat) (W : List Nat) (ps : List (List Nat)) : Bool :=
  W.all fun l => ps.any fun p => p.head? == some l && chainTo md ops i p
theorem waitAll_spec {lst : Array Bool} {i : Nat} {ps : List (List Nat)} (h : waitAll md ops i W ps = true) (hc : closedL md ops lst) (hi : ¬ lst.getD i false = true) {l : Nat} (hl : l ∈ W) : l ∉ Region.ready md ops lst := by
  unfold waitAll at h
  rw [List.all_eq_true] at h
  have h1 := h l hl
  rw [List.any_eq_true] at h1
  obtain ⟨p, _, hp⟩ := h1
  rw [Bool.and_eq_true, beq_iff_eq] at hp
  cases p with
  | nil => cases hp.1
  | cons a r =>
    obtain rfl : a = l := Option.some.inj hp.1
    obtain ⟨k, h2, h3⟩ := chainTo_spec hc hi r a hp.2
    exact not_ready h2 h3

theorem anyL_first {i : Nat} {oi : Oper} {v : Value} {ps : List (List Nat)} (hi : ops[i]? = some oi) (hsel : ∀ (j : Nat) (o : Oper) cs b, ops[j]? = some o → o.op ≠ .select cs b)
    (hQ : ∀ c a w, Q (.panic c) (a.put oi.dst v) w → Q (.panic c) a w) (hL : waitAll md ops i W ps = true) (f : Nat) :
    ∀ (lst : Array Bool) (a : Act) (w : World), closedL md ops lst →
      (∀ j oj, ops[j]? = some oj → j ≠ i → lst.getD j true = false → (∀ e ∈ oj.after, Region.binds md e = true → e.on ≠ i) → oi.apart ops oj = true) →
      i ∈ Region.ready md ops lst → YieldsIf P ops S oi v a → S w →
      anyL P md ops Q S W f (lst.setIfInBounds i true) (a.put oi.dst v) w → anyL P md ops Q S W (f + 1) lst a w := by
  induction f with
  | zero =>
    intro lst a w _ _ hr hy hS H
    constructor
    · intro h0; rw [h0] at hr; cases hr
    · intro j hj
      by_cases e : j = i
      · rw [e]; exact hy.wpOp hi hS ⟨fun _ _ => hS, H⟩
      · have h1 := ready_mono hj e
        rw [H.1] at h1; cases h1
  | succ f ih =>
    intro lst a w hcl hfree hr hy hS H
    constructor
    · intro h0; rw [h0] at hr; cases hr
    · intro j hj
      by_cases e : j = i
      · rw [e]; exact hy.wpOp hi hS ⟨fun _ _ => hS, H⟩
      · have hiun := un_not (mem_ready.1 hr).1
        have hjL : W.contains j = false := by
          rw [Bool.eq_false_iff]
          intro hc
          exact waitAll_spec hL hcl hiun (List.contains_iff_mem.1 hc) hj
        obtain ⟨hun, oj, hoj, hall⟩ := mem_ready.1 hj
        have hno : ∀ e' ∈ oj.after, Region.binds md e' = true → e'.on ≠ i := fun e' he hb heq => hiun (heq ▸ hall e' he hb)
        refine wpOp_mono (fun b u h3 => ?_) (wpOp_putIf hoj (hfree j oj hoj e hun hno) (fun cs b => hsel i oi cs b hi) (fun cs b => hsel j oj cs b hoj) hQ hy (H.2 j (ready_mono hj e)))
        obtain ⟨hy', hS', hrest⟩ := h3
        refine ⟨hS', ih (lst.setIfInBounds j true) b u (hcl.set hj) (fun k ok hok hki hkun hkno => ?_) (ready_mono hr (Ne.symm e)) hy' (hS' hjL hS) ?_⟩
        · refine hfree k ok hok hki ?_ hkno
          by_cases hjk : j = k
          · subst hjk; exact hun
          · rw [getD_set_ne true hjk] at hkun; exact hkun
        · rw [Array.setIfInBounds_comm _ _ e]; exact hrest

/-- An operation that does not look at the world is taken first, wherever it stands. -/
theorem anyL_pure {i : Nat} {oi : Oper} {v : Value} (hi : ops[i]? = some oi) (hsel : ∀ (j : Nat) (o : Oper) cs b, ops[j]? = some o → o.op ≠ .select cs b)
    (hQ : ∀ c a w, Q (.panic c) (a.put oi.dst v) w → Q (.panic c) a w) (f : Nat) :
    ∀ (lst : Array Bool) (a : Act) (w : World), closedL md ops lst →
      (∀ j oj, ops[j]? = some oj → j ≠ i → lst.getD j true = false → (∀ e ∈ oj.after, Region.binds md e = true → e.on ≠ i) → oi.apart ops oj = true) →
      i ∈ Region.ready md ops lst → YieldsIf P ops (fun _ => True) oi v a →
      anyL P md ops Q S W f (lst.setIfInBounds i true) (a.put oi.dst v) w → anyL P md ops Q S W (f + 1) lst a w := by
  induction f with
  | zero =>
    intro lst a w _ _ hr hy H
    constructor
    · intro h0; rw [h0] at hr; cases hr
    · intro j hj
      by_cases e : j = i
      · rw [e]; exact hy.wpOp hi trivial ⟨fun _ h => h, H⟩
      · have h1 := ready_mono hj e
        rw [H.1] at h1; cases h1
  | succ f ih =>
    intro lst a w hcl hfree hr hy H
    constructor
    · intro h0; rw [h0] at hr; cases hr
    · intro j hj
      by_cases e : j = i
      · rw [e]; exact hy.wpOp hi trivial ⟨fun _ h => h, H⟩
      · have hiun := un_not (mem_ready.1 hr).1
        obtain ⟨hun, oj, hoj, hall⟩ := mem_ready.1 hj
        have hno : ∀ e' ∈ oj.after, Region.binds md e' = true → e'.on ≠ i := fun e' he hb heq => hiun (heq ▸ hall e' he hb)
        refine wpOp_mono (fun b u h3 => ?_) (wpOp_putIf hoj (hfree j oj hoj e hun hno) (fun cs b => hsel i oi cs b hi) (fun cs b => hsel j oj cs b hoj) hQ hy (H.2 j (ready_mono hj e)))
        obtain ⟨hy', hS', hrest⟩ := h3
        refine ⟨hS', ih (lst.setIfInBounds j true) b u (hcl.set hj) (fun k ok hok hki hkun hkno => ?_) (ready_mono hr (Ne.symm e)) hy' ?_⟩
        · refine hfree k ok hok hki ?_ hkno
          by_cases hjk : j = k
          · subst hjk; exact hun
          · rw [getD_set_ne true hjk] at hkun; exact hkun
        · rw [Array.setIfInBounds_comm _ _ e]; exact hrest

/-- The rest of the region, over a list that is closed. -/
def restL (P : Program) (md : Region.Mode) (ops : Array Oper) (Q : Exit → Act → World → Prop) (S : World → Prop) (W : List Nat) (f : Nat) (lst : Array Bool) (a : Act) (w : World) : Prop :=
  closedL md ops lst → anyL P md ops Q S W f lst a w

/-- Operation i is taken first. -/
theorem restL_take {i : Nat} {oi : Oper} {v : Value} {f : Nat} {lst : Array Bool} {a : Act} {w : World} (ps : List (List Nat)) (hi : ops[i]? = some oi)
    (hs : Region.noSelect ops = true) (hf : Region.free md ops lst i = true) (hr : (Region.ready md ops lst).contains i = true) (hL : waitAll md ops i W ps = true)
    (hQ : ∀ c a w, Q (.panic c) (a.put oi.dst v) w → Q (.panic c) a w) (hy : YieldsIf P ops S oi v a) (hS : S w)
    (h : restL P md ops Q S W f (lst.setIfInBounds i true) (a.put oi.dst v) w) : restL P md ops Q S W (f + 1) lst a w := by
  intro hc
  have hr' : i ∈ Region.ready md ops lst := by simpa using hr
  exact anyL_first hi (Region.noSelect_spec hs) hQ hL f lst a w hc (Region.free_spec hi hf) hr' hy hS (h (hc.set hr'))
theorem restL_pure {i : Nat} {oi : Oper} {v : Value} {f : Nat} {lst : Array Bool} {a : Act} {w : World} (hi : ops[i]? = some oi)
    (hs : Region.noSelect ops = true) (hf : Region.free md ops lst i = true) (hr : (Region.ready md ops lst).contains i = true)
    (hQ : ∀ c a w, Q (.panic c) (a.put oi.dst v) w → Q (.panic c) a w) (hy : YieldsIf P ops (fun _ => True) oi v a)
    (h : restL P md ops Q S W f (lst.setIfInBounds i true) (a.put oi.dst v) w) : restL P md ops Q S W (f + 1) lst a w := by
  intro hc
  have hr' : i ∈ Region.ready md ops lst := by simpa using hr
  exact anyL_pure hi (Region.noSelect_spec hs) hQ f lst a w hc (Region.free_spec hi hf) hr' hy (h (hc.set hr'))
/-- The only one that may come up comes up. -/
theorem restL_one {i : Nat} {o : Oper} {f : Nat} {lst : Array Bool} {a : Act} {w : World} (hr : Region.ready md ops lst = [i]) (ho : ops[i]? = some o)
    (h : ∀ K' : Act → World → Prop, Shut (∀ b u, (W.contains i = false → S u) → ((W.contains i = false → S u) → restL P md ops Q S W f (lst.setIfInBounds i true) b u) → K' b u) → if Region.wanted o (yielded ops a.tmps) = true then Oper.wp P o a w K' Q else K' (a.put o.dst undef) w) :
    restL P md ops Q S W (f + 1) lst a w := by
  intro hc
  refine And.intro (fun h0 => absurd (hr.symm.trans h0) (by simp)) (fun j hj => ?_)
  have hc' := hc.set hj
  rw [hr] at hj
  obtain rfl := List.mem_singleton.1 hj
  exact wpOp_step ho (fun K' hK => h K' (fun b u hS hW => hK b u ⟨fun e _ => hS e, hW hS hc'⟩))
theorem restL_done {lst : Array Bool} {a : Act} {w : World} (hr : Region.ready md ops lst = []) (h : Q .normal a w) : ∀ f, restL P md ops Q S W f lst a w
  | 0 => fun _ => ⟨hr, h⟩
  | _ + 1 => fun _ => And.intro (fun _ => h) (fun i hi => by rw [hr] at hi; cases hi)
/-- The beginning. -/
theorem wp_region_L {id : Nat} {a : Act} {w : World} (S : World → Prop) (W : List Nat) (hm : P.follows .mixedOrders = true) (hS : S w.drew)
    (h : S w.drew → restL P .any ops Q S W ops.size (Array.replicate ops.size false) a w.drew) : (Code.region id ops true).wp P Q a w :=
  wp_region_any hm (anyL_any _ _ _ _ (h hS closedL.none))
end
end Go.Proofs.Ytbomfekfebamkaa

/-
  A map with integer keys whose values are whatever values (slices, here): read and written as a function of the key. Any program.
-/
namespace Go.Proofs.Ytbomfekfebamkaa
open Go.RowKit Go.Maps Go.ChangeMaps Go.MapKept
set_option linter.unusedSimpArgs false
set_option linter.unusedVariables false
/-- Block b is a map that reads as f; z: what an absent key reads as. -/
def MI (w : World) (P : Program) (k : TypeId) (b : Nat) (f : Int → Value) (z : Value) : Prop :=
  ∃ (es : Array MapEntry) (clock : Nat), w.heap[b]? = some (.map es clock) ∧ (∀ e ∈ es.toList, ∃ x l, e.key = .int .i64 x ∧ keyOf P k e.key = some l ∧ e.val = f x) ∧
    (es.toList.Pairwise fun e e' => e.key ≠ e'.key) ∧ ∀ x, (∀ e ∈ es.toList, e.key ≠ .int .i64 x) → f x = z
def updV (f : Int → Value) (x : Int) (v : Value) : Int → Value := fun y => if y = x then v else f y
section
variable {P : Program} {k e t : TypeId} {w : World} {b : Nat} {f : Int → Value} {z : Value}
theorem MI.lt (h : MI w P k b f z) : b < w.heap.size := by
  obtain ⟨es, clock, hb, _⟩ := h
  exact (Array.getElem?_eq_some_iff.1 hb).1
theorem MI.kept {w' : World} {row : Option Nat} (h : MI w P k b f z) (hg : w.grownBy w' row) (hne : row ≠ some b) : MI w' P k b f z := by
  have hlt := h.lt
  obtain ⟨es, clock, hb, r⟩ := h
  exact ⟨es, clock, (hg.block b hlt (fun e => hne e.symm)).trans hb, r⟩
theorem MI.below {w' : World} {B : Nat} (h : MI w P k b f z) (hb : Below B w w') (hB : b < B) : MI w' P k b f z := by
  obtain ⟨es, clock, hx, r⟩ := h
  exact ⟨es, clock, (hb.block b hB).trans hx, r⟩
theorem MI.alloc (h : MI w P k b f z) (o : Obj) : MI (w.alloc o) P k b f z := h.kept (World.grownBy_alloc w o none) (by simp)
theorem MI.drew (h : MI w P k b f z) : MI w.drew P k b f z := h
theorem MI.drewN (h : MI w P k b f z) (n : Nat) : MI (w.drewN n) P k b f z := h
theorem MI.set (h : MI w P k b f z) {p : Addr} (hp : b ≠ p.block) (u : Value) : MI (w.setCell p u) P k b f z := by
  obtain ⟨es, clock, hb, r⟩ := h
  exact ⟨es, clock, (Below.heap_setCell w p u b hp).trans hb, r⟩
theorem MI.made (w : World) (z : Value) : MI (w.alloc (.map #[] 0)) P k w.heap.size (fun _ => z) z :=
  ⟨#[], 0, (MapKept.heap_alloc w _).1, by simp, by simp, fun _ _ => rfl⟩
theorem MI.row_ne {g : Nat} {T : TypeId} {xs : List Value} (h : MI w P k b f z) (hr : Row w g T xs) : b ≠ g := by
  obtain ⟨es, clock, hb, _⟩ := h
  intro e; subst e
  unfold Row at hr; rw [hb] at hr; cases hr
theorem MI.own_ne {base sz n : Nat} {T : TypeId} {v : Value} {xs : List Value} (h : MI w P k b f z) (ho : w.ownsRow base T sz v n xs) : v.ownBlock ≠ some b := by
  obtain ⟨es, clock, hb, _⟩ := h
  rcases ho.2 with ⟨rfl, _⟩ | ⟨g, cap, cur, rfl, _, hg, _⟩
  · simp [Value.ownBlock]
  · intro he
    obtain rfl : g = b := by simpa [Value.ownBlock] using he
    rw [hb] at hg; cases hg
theorem MI.lookup (h : MI w P k b f z) (K : Keyed P k) (ht : P.underlying t = some (.map k e)) (hz : (zeroValue e).run P w = .ok z w) {x : Int} {l : Lit} (hkey : keyOf P k (.int .i64 x) = some l) :
    (Instr.lookup t (.map (some b)) (.int .i64 x) false).run P w = .ok (f x) w := by
  obtain ⟨es, clock, hb, hes, _, hno⟩ := h
  rcases K.find w hkey es.toList (fun e he => by obtain ⟨y, l', _, h2, _⟩ := hes e he; exact ⟨l', h2⟩) with ⟨h1, h2⟩ | ⟨j, e0, h1, h2, h3⟩
  · rw [hno x h2]
    simp [Instr.lookup, run_underlying ht, MapKept.run_getObj_map hb, K.check w _ hkey, h1, hz, Result.andThen]
  · have hm0 : e0 ∈ es.toList := List.mem_of_getElem? h2
    obtain ⟨y, l', q1, q2, q3⟩ := hes e0 hm0
    have : y = x := by rw [h3] at q1; injection q1 with _ q; exact q.symm
    subst this
    rw [← q3]
    simp [Instr.lookup, run_underlying ht, MapKept.run_getObj_map hb, K.check w _ hkey, h1, Result.andThen]
theorem MI.update (h : MI w P k b f z) (K : Keyed P k) (ht : P.underlying t = some (.map k e)) {x : Int} {l : Lit} (hkey : keyOf P k (.int .i64 x) = some l) (v : Value) :
    ∃ w', (Instr.mapUpdate t (.map (some b)) (.int .i64 x) v).run P w = .ok () w' ∧ MI w' P k b (updV f x v) z ∧ w.grownBy w' (some b) := by
  obtain ⟨es, clock, hb, hes, hpw, hno⟩ := h
  have hgr : ∀ o, w.grownBy (setBlock w b o) (some b) := fun o => ⟨rfl, rfl, rfl, by simp [setBlock], fun i _ hi => heap_setBlock_other hb _ (fun e => hi (by rw [e]))⟩
  rcases K.find w hkey es.toList (fun e he => by obtain ⟨y, l', _, h2, _⟩ := hes e he; exact ⟨l', h2⟩) with ⟨h1, h2⟩ | ⟨j, e0, h1, h2, h3⟩
  · refine ⟨setBlock w b (.map (es.push ⟨.int .i64 x, v, clock⟩) (clock + 1)), ?_, ⟨es.push ⟨.int .i64 x, v, clock⟩, clock + 1, heap_setBlock_same hb _, ?_, ?_, ?_⟩, hgr _⟩
    · simp [Instr.mapUpdate, run_underlying ht, MapKept.run_getObj_map hb, K.check w false hkey, h1, MapKept.run_setObj_map _ hb, Result.andThen, setBlock]
    · intro e he
      simp only [Array.toList_push, List.mem_append, List.mem_singleton] at he
      rcases he with he | rfl
      · obtain ⟨y, l', q1, q2, q3⟩ := hes e he
        refine ⟨y, l', q1, q2, ?_⟩
        unfold updV
        rw [if_neg (fun q => h2 e he (by rw [q1, q])), q3]
      · exact ⟨x, l, rfl, hkey, by simp [updV]⟩
    · rw [Array.toList_push, List.pairwise_append]
      exact ⟨hpw, by simp, fun p hp q hq => by simp at hq; subst hq; exact h2 p hp⟩
    · intro y hy
      have hyx : y ≠ x := fun q => hy ⟨.int .i64 x, v, clock⟩ (by simp) (by rw [q])
      unfold updV
      rw [if_neg hyx]
      exact hno y (fun e he => hy e (by simp [Array.mem_toList_iff] at he ⊢; exact .inl he))
  · obtain ⟨hj, hje⟩ := List.getElem?_eq_some_iff.1 h2
    have hj' : j < es.size := by simpa using hj
    have hje' : es[j] = e0 := by simpa using hje
    refine ⟨setBlock w b (.map (es.modify j fun e => { e with key := .int .i64 x, val := v }) clock), ?_, ⟨es.modify j fun e => { e with key := .int .i64 x, val := v }, clock, heap_setBlock_same hb _, ?_, ?_, ?_⟩, hgr _⟩
    · have hst := K.stays w hkey
      have he : (es[j]?).map (·.key) = some (.int .i64 x) := by simp [Array.getElem?_eq_getElem hj', hje', h3]
      simp [Instr.mapUpdate, run_underlying ht, MapKept.run_getObj_map hb, K.check w false hkey, h1, MapKept.run_setObj_map _ hb, Result.andThen, setBlock, Array.getElem?_eq_getElem hj', hje', h3, hst]
    · intro e he
      rw [Array.mem_toList_iff, Array.mem_iff_getElem] at he
      obtain ⟨i, hi, rfl⟩ := he
      simp at hi
      rw [Array.getElem_modify]
      by_cases hij : j = i
      · rw [if_pos hij]
        exact ⟨x, l, rfl, hkey, by simp [updV]⟩
      · rw [if_neg hij]
        have hm : es[i] ∈ es.toList := by simp
        obtain ⟨y, l', q1, q2, q3⟩ := hes _ hm
        refine ⟨y, l', q1, q2, ?_⟩
        have hne : (es[i]).key ≠ e0.key := by
          have hp := List.pairwise_iff_getElem.1 hpw
          rcases Nat.lt_or_gt_of_ne hij with hlt | hgt
          · have := hp j i (by simpa using hj') (by simpa using hi) hlt
            simp at this; rw [hje'] at this; exact fun q => this q.symm
          · have := hp i j (by simpa using hi) (by simpa using hj') hgt
            simp at this; rw [hje'] at this; exact this
        unfold updV
        rw [if_neg (fun q => hne (by rw [q1, q, h3])), q3]
    · rw [List.pairwise_iff_getElem]
      intro i1 i2 hi1 hi2 hlt
      have hi1' : i1 < es.size := by simpa using hi1
      have hi2' : i2 < es.size := by simpa using hi2
      have hkey' : ∀ (i : Nat) (hi : i < es.size), ((es.modify j fun e => { e with key := .int .i64 x, val := v })[i]'(by simpa using hi)).key = (es[i]).key := by
        intro i hi
        rw [Array.getElem_modify]
        split
        · next q => subst q; simp [hje', h3]
        · rfl
      have := List.pairwise_iff_getElem.1 hpw i1 i2 (by simpa using hi1') (by simpa using hi2') hlt
      rw [Array.getElem_toList, Array.getElem_toList] at this ⊢
      rw [hkey' i1 hi1', hkey' i2 hi2']; exact this
    · intro y hy
      have hyx : y ≠ x := fun q => by
        refine hy ((es.modify j fun e => { e with key := .int .i64 x, val := v })[j]'(by simpa using hj')) (Array.mem_toList_iff.2 (Array.getElem_mem _)) ?_
        rw [Array.getElem_modify]; simp [q]
      unfold updV
      rw [if_neg hyx]
      refine hno y (fun e he => ?_)
      rw [Array.mem_toList_iff, Array.mem_iff_getElem] at he
      obtain ⟨i, hi, rfl⟩ := he
      have := hy ((es.modify j fun e => { e with key := .int .i64 x, val := v })[i]'(by simpa using hi)) (Array.mem_toList_iff.2 (Array.getElem_mem _))
      rw [Array.getElem_modify] at this
      split at this
      · next q => subst q; rw [hje', h3]; simpa using this
      · exact this
variable {ops : Array Oper} {o : Oper} {a : Act} {Q : Exit → Act → World → Prop} {KK : Act → World → Prop} {E : Prop} {rest : List Oper}
theorem wp_mapUpd (m x v : Operand) (hop : o.op = Op.mapUpdate t m x v) (h : MI w P k b f z) (K : Keyed P k) (ht : P.underlying t = some (.map k e)) (hm : a.eval m = .map (some b)) {y : Int} {l : Lit} (hkey : keyOf P k (.int .i64 y) = some l) (hx : a.eval x = .int .i64 y) (u : Value) (hv : a.eval v = u)
    (hK : ∀ w', MI w' P k b (updV f y u) z → w.grownBy w' (some b) → KK (a.put o.dst undef) w') : o.wp P a w KK Q := by
  obtain ⟨w', hrun, r1, r2⟩ := h.update K ht hkey u
  unfold Oper.wp
  simp [execOp, hop, hm, hx, hv, hrun, Result.andThen]
  exact hK w' r1 r2
theorem step_mapUpd (hgd : o.guard = none) (m x v : Operand) (hop : o.op = Op.mapUpdate t m x v) (h : MI w P k b f z) (K : Keyed P k) (ht : P.underlying t = some (.map k e)) (hm : a.eval m = .map (some b)) {y : Int} {l : Lit} (hkey : keyOf P k (.int .i64 y) = some l) (hx : a.eval x = .int .i64 y) (u : Value) (hv : a.eval v = u)
    (hK : ∀ w', MI w' P k b (updV f y u) z → w.grownBy w' (some b) → KK (a.put o.dst undef) w') : if Region.wanted o (yielded ops a.tmps) = true then Oper.wp P o a w KK Q else E := by
  rw [if_pos (by simp [Region.wanted, hgd])]
  exact wp_mapUpd m x v hop h K ht hm hkey hx u hv hK
theorem wpList_mapUpd (hgd : o.guard = none) (m x v : Operand) (hop : o.op = Op.mapUpdate t m x v) (h : MI w P k b f z) (K : Keyed P k) (ht : P.underlying t = some (.map k e)) (hm : a.eval m = .map (some b)) {y : Int} {l : Lit} (hkey : keyOf P k (.int .i64 y) = some l) (hx : a.eval x = .int .i64 y) (u : Value) (hv : a.eval v = u)
    (hK : ∀ w', MI w' P k b (updV f y u) z → w.grownBy w' (some b) → wpList P ops Q rest (a.put o.dst undef) w') : wpList P ops Q (o :: rest) a w :=
  wpList_plain hgd fun _ hKK => wp_mapUpd m x v hop h K ht hm hkey hx u hv (fun w' r1 r2 => hKK _ _ (hK w' r1 r2))
end
end Go.Proofs.Ytbomfekfebamkaa

/-
  The memory of the solver's and of the prover's engine: clauses, watches, values and the trail, each in blocks of its own.
-/
namespace Go.Proofs.Ytbomfekfebamkaa
open Go.RowKit Go.Maps
set_option linter.unusedSimpArgs false
set_option linter.unusedVariables false
/-- Whose a block is. -/
inductive Ow where
  | none | box | map | cls | vals | trail | decs | units
  | clause (k : Nat)
  | watch (x : Int)
def i8s (zs : List Int) : List Value := zs.map (Value.int .i8)
@[simp] theorem i8s_length (zs : List Int) : (i8s zs).length = zs.length := by simp [i8s]
def nats (l : List Nat) : List Value := ints (l.map fun (k : Nat) => (k : Int))
@[simp] theorem nats_length (l : List Nat) : (nats l).length = l.length := by simp [nats]
theorem nats_snoc (l : List Nat) (k : Nat) : nats (l ++ [k]) = nats l ++ [.int .i64 k] := by simp [nats, ints]
theorem ints_snoc (l : List Int) (k : Int) : ints (l ++ [k]) = ints l ++ [.int .i64 k] := by simp [ints]
theorem ints_set (l : List Int) (i : Nat) (z : Int) : ints (l.set i z) = (ints l).set i (.int .i64 z) := by simp [ints, List.map_set]
theorem i8s_set (l : List Int) (i : Nat) (z : Int) : i8s (l.set i z) = (i8s l).set i (.int .i8 z) := by simp [i8s, List.map_set]
theorem i8s_get (zs : List Int) (k : Nat) (h : k < zs.length) : (i8s zs)[k]? = some (.int .i8 (zs.getD k 0)) := by
  simp [i8s, List.getElem?_map, List.getElem?_eq_getElem h, List.getD_eq_getElem?_getD]
theorem nats_get (l : List Nat) (k : Nat) (h : k < l.length) : (nats l)[k]? = some (.int .i64 (l.getD k 0 : Nat)) := by
  simp [nats, ints, List.getElem?_map, List.getElem?_eq_getElem h, List.getD_eq_getElem?_getD]
/-- An owned row whose block is t's. -/
def Hd (w : World) (O : Nat → Ow) (B : Nat) (t : Ow) (T : TypeId) (sz : Nat) (v : Value) (n : Nat) (xs : List Value) : Prop :=
  w.ownsRow B T sz v n xs ∧ ∀ g, v.ownBlock = some g → O g = t
/-- New blocks are t's. -/
def newO (O : Nat → Ow) (S : Nat) (t : Ow) : Nat → Ow := fun g => if g < S then O g else t
section
variable {w w' : World} {O O' : Nat → Ow} {B : Nat} {t : Ow} {T : TypeId} {sz : Nat} {v : Value} {n : Nat} {xs : List Value}
theorem Hd.nil : Hd w O B t T sz (.slice none 0 0) 0 [] := ⟨World.ownsRow_nil _ _ _ _, fun g h => by simp [Value.ownBlock] at h⟩
theorem Hd.far (h : Hd w O B t T sz v n xs) {p : Addr} (hp : O p.block ≠ t) (u : Value) : Hd (w.setCell p u) O B t T sz v n xs :=
  ⟨own_far h.1 (fun e => hp (h.2 _ e)) u, h.2⟩
theorem Hd.grow (h : Hd w O B t T sz v n xs) {row : Option Nat} (hg : w.grownBy w' row) (hne : ∀ k, row = some k → O k ≠ t) : Hd w' O B t T sz v n xs :=
  ⟨own_grown h.1 hg (fun k hk e => hne k e (h.2 k hk)), h.2⟩
theorem Hd.alloc (h : Hd w O B t T sz v n xs) (o : Obj) : Hd (w.alloc o) O B t T sz v n xs := ⟨h.1.alloc o, h.2⟩
theorem Hd.drew (h : Hd w O B t T sz v n xs) : Hd w.drew O B t T sz v n xs := h
theorem Hd.drewN (h : Hd w O B t T sz v n xs) (k : Nat) : Hd (w.drewN k) O B t T sz v n xs := h
theorem Hd.below (h : Hd w O B t T sz v n xs) (hb : Below w.heap.size w w') : Hd w' O B t T sz v n xs := ⟨own_below h.1 hb (Nat.le_refl _), h.2⟩
theorem Hd.reO (h : Hd w O B t T sz v n xs) (ho : ∀ g, g < w.heap.size → O' g = O g) : Hd w O' B t T sz v n xs :=
  ⟨h.1, fun g hg => (ho g (own_lt h.1 g hg)).trans (h.2 g hg)⟩
theorem Hd.new (h : w'.ownsRow B T sz v n xs) (hO : ∀ g, v.ownBlock = some g → O g = t ∨ w.heap.size ≤ g) (ho : ∀ g, v.ownBlock = some g → g < w.heap.size → O g = t) : Hd w' (newO O w.heap.size t) B t T sz v n xs :=
  ⟨h, fun g hg => by
    unfold newO
    by_cases hl : g < w.heap.size
    · rw [if_pos hl]; exact ho g hg hl
    · rw [if_neg hl]⟩
/-- What an append leaves. -/
theorem Hd.app {v' : Value} {m : Nat} {ys : List Value} (h : Hd w O B t T sz v n xs) (hown : w'.ownsRow B T sz v' m ys) (hat : v'.ownBlock = v.ownBlock ∨ v'.ownBlock = some w.heap.size) : Hd w' (newO O w.heap.size t) B t T sz v' m ys :=
  ⟨hown, fun g hg => by
    unfold newO
    rcases hat with e | e
    · rw [e] at hg
      rw [if_pos (own_lt h.1 g hg)]; exact h.2 g hg
    · rw [e] at hg; cases hg
      rw [if_neg (Nat.lt_irrefl _)]⟩
theorem Hd.new0 {v' : Value} (hown : w'.ownsRow w.heap.size T sz v' n xs) (hB : B ≤ w.heap.size) : Hd w' (newO O w.heap.size t) B t T sz v' n xs :=
  ⟨own_base hown hB, fun g hg => by
    have := (hown.lt g hg).1
    unfold newO; rw [if_neg (by omega)]⟩
theorem newO_old {S : Nat} {g : Nat} (h : g < S) : newO O S t g = O g := by unfold newO; rw [if_pos h]
theorem Hd.reNew (h : Hd w O B t T sz v n xs) (t' : Ow) : Hd w (newO O w.heap.size t') B t T sz v n xs := h.reO (fun _ hg => newO_old hg)
theorem Hd.rd (h : Hd w O B t T sz v n xs) : ∃ A c, v = .slice A n c ∧ Rd w w.heap.size sz A n xs := Rd.own h.1
/-- A non-empty one: its block's cells. -/
theorem Hd.at_ (h : Hd w O B t T 1 v n xs) {i : Nat} (hi : i < n) : ∃ g c, v = .slice (some ⟨g, 0, none⟩) n c ∧ O g = t ∧ B ≤ g ∧ g < w.heap.size ∧ n ≤ c ∧ (∀ j u, xs[j]? = some u → w.cell? ⟨g, j, none⟩ = some u) ∧ ∀ j, w.frozen? ⟨g, j, none⟩ = false := by
  have hl : xs.length = n := by simpa using h.1.1
  rcases h.1.2 with ⟨_, e⟩ | ⟨g, cap, cur, e, hb, hg, hc, r⟩
  · subst e; simp at hl; omega
  · have hlt := (h.1.lt g (by rw [e]; rfl)).2
    refine ⟨g, cap, e, h.2 g (by rw [e]; rfl), hb, hlt, hc, fun j u hu => ?_, fun j => ?_⟩
    · have := h.1.cells (g := g) (by rw [e]; rfl) j u hu
      rwa [add_zero_off] at this
    · simp [World.frozen?, hg]
theorem Hd.cmax (h : Hd w O B t T sz v n xs) {a : Addr} {m c : Nat} (hv : v = .slice (some a) m c) : c ≤ maxLen := by
  rcases h.1.2 with ⟨e, _⟩ | ⟨g, cap, cur, e, _, _, _, hc, _⟩
  · rw [hv] at e; cases e
  · rw [hv] at e; cases e; exact hc
theorem addr_add (g o j : Nat) : (⟨g, o, none⟩ : Addr).add j = ⟨g, o + j, none⟩ := by
  unfold Addr.add
  split
  · rename_i h; rw [h]; rfl
  · rfl
/-- A cell of it is written. -/
theorem Hd.put (h : Hd w O B t T 1 v n xs) {g i c : Nat} (hv : v = .slice (some ⟨g, 0, none⟩) n c) (hi : i < n) (u : Value) : Hd (w.setCell ⟨g, i, none⟩ u) O B t T 1 v n (xs.set i u) := by
  refine ⟨⟨by rw [List.length_set]; exact h.1.1, .inr ?_⟩, h.2⟩
  rcases h.1.2 with ⟨e, _⟩ | ⟨g', cap, cur, e, hb, hg, h1, h2, h3, h4⟩
  · rw [hv] at e; cases e
  · have eg : g' = g ∧ cap = c := by rw [hv] at e; cases e; exact ⟨rfl, rfl⟩
    obtain ⟨rfl, rfl⟩ := eg
    have hR : Row w g' T cur.toList := by unfold Row; simpa using hg
    have hR' := hR.set i u
    unfold Row at hR'
    refine ⟨g', cap, _, hv, hb, hR', h1, h2, by simpa using h3, ?_⟩
    have hl : xs.length = n * 1 := h.1.1
    rw [← h4]
    simp only [Nat.mul_one, List.take_set]
end
end Go.Proofs.Ytbomfekfebamkaa

/-
  What the two engines share in memory (Core), and what each step does to it.
-/
namespace Go.Proofs.Ytbomfekfebamkaa
open Go.RowKit Go.Maps
set_option linter.unusedSimpArgs false
set_option linter.unusedVariables false
/-- Where the parts lie. -/
structure EG where
  O : Nat → Ow
  mb : Nat
  CL : Value
  VA : Value
  TR : Value
  hs : List Value
  fn : Int → Value
/-- The shared parts of an engine; the watches of the literals of X are left open. -/
structure Core (TV : TypeId) (w : World) (B : Nat) (s : V.En) (X : Int → Prop) (G : EG) : Prop where
  mp : MI w Try.prog 3 G.mb G.fn (.slice none 0 0)
  hmb : B ≤ G.mb
  om : G.O G.mb = .map
  cl : Hd w G.O B .cls 26 1 G.CL G.hs.length G.hs
  hl : G.hs.length = s.cl.length
  cs : ∀ k, k < s.cl.length → Hd w G.O B (.clause k) 3 1 (G.hs.getD k undef) (s.cl.getD k []).length (ints (s.cl.getD k []))
  va : Hd w G.O B .vals TV 1 G.VA s.va.length (i8s s.va)
  tr : Hd w G.O B .trail 3 1 G.TR s.tr.length (ints s.tr)
  wt : ∀ y, ¬ X y → Hd w G.O B (.watch y) 3 1 (G.fn y) (s.wa y).length (nats (s.wa y))
/-- Not one of the shared parts. -/
def foreign : Ow → Prop
  | .none | .box | .decs | .units => True
  | _ => False
section
variable {TV : TypeId} {w w' : World} {B : Nat} {s : V.En} {X X' : Int → Prop} {G : EG}
theorem Core.hd (h : Core TV w B s X G) (n : Nat) : Core TV w B { s with hd := n } X G := ⟨h.mp, h.hmb, h.om, h.cl, h.hl, h.cs, h.va, h.tr, h.wt⟩
theorem Core.weak (h : Core TV w B s X G) (hx : ∀ z, X z → X' z) : Core TV w B s X' G := ⟨h.mp, h.hmb, h.om, h.cl, h.hl, h.cs, h.va, h.tr, fun y hy => h.wt y (fun q => hy (hx y q))⟩
theorem Core.alloc (h : Core TV w B s X G) (o : Obj) : Core TV (w.alloc o) B s X G := ⟨h.mp.alloc o, h.hmb, h.om, h.cl.alloc o, h.hl, fun k hk => (h.cs k hk).alloc o, h.va.alloc o, h.tr.alloc o, fun y hy => (h.wt y hy).alloc o⟩
theorem Core.drew (h : Core TV w B s X G) : Core TV w.drew B s X G := ⟨h.mp, h.hmb, h.om, h.cl, h.hl, h.cs, h.va, h.tr, h.wt⟩
theorem Core.drewN (h : Core TV w B s X G) (n : Nat) : Core TV (w.drewN n) B s X G := ⟨h.mp, h.hmb, h.om, h.cl, h.hl, h.cs, h.va, h.tr, h.wt⟩
theorem Core.below (h : Core TV w B s X G) (hb : Below w.heap.size w w') : Core TV w' B s X G := ⟨h.mp.below hb h.mp.lt, h.hmb, h.om, h.cl.below hb, h.hl, fun k hk => (h.cs k hk).below hb, h.va.below hb, h.tr.below hb, fun y hy => (h.wt y hy).below hb⟩
theorem Core.reNew (h : Core TV w B s X G) (t : Ow) : Core TV w B s X { G with O := newO G.O w.heap.size t } :=
  ⟨h.mp, h.hmb, (newO_old h.mp.lt).trans h.om, h.cl.reNew t, h.hl, fun k hk => (h.cs k hk).reNew t, h.va.reNew t, h.tr.reNew t, fun y hy => (h.wt y hy).reNew t⟩
theorem foreign_ne {o t : Ow} (h : foreign o) (ht : ¬ foreign t) : o ≠ t := fun e => ht (e ▸ h)
theorem Core.set (h : Core TV w B s X G) {p : Addr} (hp : foreign (G.O p.block)) (u : Value) : Core TV (w.setCell p u) B s X G :=
  ⟨h.mp.set (fun e => by rw [← e, h.om] at hp; exact hp) u, h.hmb, h.om, h.cl.far (foreign_ne hp id) u, h.hl, fun k hk => (h.cs k hk).far (foreign_ne hp id) u, h.va.far (foreign_ne hp id) u, h.tr.far (foreign_ne hp id) u, fun y hy => (h.wt y hy).far (foreign_ne hp id) u⟩
theorem Core.grow (h : Core TV w B s X G) {row : Option Nat} (hg : w.grownBy w' row) (hr : ∀ k, row = some k → foreign (G.O k)) : Core TV w' B s X G :=
  ⟨h.mp.kept hg (fun e => by have := hr _ e; rw [h.om] at this; exact this), h.hmb, h.om, h.cl.grow hg (fun k e => foreign_ne (hr k e) id), h.hl, fun k hk => (h.cs k hk).grow hg (fun k e => foreign_ne (hr k e) id), h.va.grow hg (fun k e => foreign_ne (hr k e) id), h.tr.grow hg (fun k e => foreign_ne (hr k e) id), fun y hy => (h.wt y hy).grow hg (fun k e => foreign_ne (hr k e) id)⟩
/-- A literal of a clause is written. -/
theorem Core.putClause (h : Core TV w B s X G) {k g n c i : Nat} (hk : k < s.cl.length) (hv : G.hs.getD k undef = .slice (some ⟨g, 0, none⟩) n c) (hi : i < n) (z : Int) :
    Core TV (w.setCell ⟨g, i, none⟩ (.int .i64 z)) B { s with cl := s.cl.set k ((s.cl.getD k []).set i z) } X G := by
  have hc := h.cs k hk
  have hO : G.O g = .clause k := hc.2 g (by rw [hv]; rfl)
  have hn : n = (s.cl.getD k []).length := by
    obtain ⟨A, c', e, _⟩ := hc.rd
    rw [hv] at e; cases e; rfl
  have ne : ∀ t, t ≠ Ow.clause k → G.O (⟨g, i, none⟩ : Addr).block ≠ t := fun t ht e => ht (e.symm.trans hO)
  refine ⟨h.mp.set (fun e => ?_) _, h.hmb, h.om, h.cl.far (ne _ nofun) _, by simp [h.hl], fun j hj => ?_, h.va.far (ne _ nofun) _, h.tr.far (ne _ nofun) _, fun y hy => (h.wt y hy).far (ne _ nofun) _⟩
  · have : G.O G.mb = G.O g := by rw [e]
    rw [h.om, hO] at this; cases this
  · simp only [List.length_set] at hj
    by_cases e : j = k
    · subst e
      have hg : (s.cl.set j ((s.cl.getD j []).set i z)).getD j [] = (s.cl.getD j []).set i z := by simp [List.getD_eq_getElem?_getD, hk]
      rw [hg, ints_set, List.length_set]
      exact hc.put (by rw [hv, hn]) (by omega) _
    · have hg : (s.cl.set k ((s.cl.getD k []).set i z)).getD j [] = s.cl.getD j [] := by
        simp only [List.getD_eq_getElem?_getD, List.getElem?_set]; rw [if_neg (fun q => e q.symm)]
      rw [hg]
      exact (h.cs j hj).far (ne _ (fun q => e (by injection q))) _
/-- A value is written. -/
theorem Core.putVal (h : Core TV w B s X G) {g n c i : Nat} (hv : G.VA = .slice (some ⟨g, 0, none⟩) n c) (hi : i < s.va.length) (z : Int) :
    Core TV (w.setCell ⟨g, i, none⟩ (.int .i8 z)) B { s with va := s.va.set i z } X G := by
  have hO : G.O g = .vals := h.va.2 g (by rw [hv]; rfl)
  have hn : n = s.va.length := by
    obtain ⟨A, c', e, _⟩ := h.va.rd
    rw [hv] at e; cases e; rfl
  have ne : ∀ t, t ≠ Ow.vals → G.O (⟨g, i, none⟩ : Addr).block ≠ t := fun t ht e => ht (e.symm.trans hO)
  refine ⟨h.mp.set (fun e => ?_) _, h.hmb, h.om, h.cl.far (ne _ nofun) _, h.hl, fun j hj => (h.cs j hj).far (ne _ nofun) _, ?_, h.tr.far (ne _ nofun) _, fun y hy => (h.wt y hy).far (ne _ nofun) _⟩
  · have : G.O G.mb = G.O g := by rw [e]
    rw [h.om, hO] at this; cases this
  · show Hd _ _ _ _ _ _ _ (s.va.set i z).length (i8s (s.va.set i z))
    rw [i8s_set, List.length_set]
    exact h.va.put (by rw [hv, hn]) hi _
/-- A literal is put behind the trail. -/
theorem Core.push (h : Core TV w B s X G) {z : Int} {v' : Value} (hown : w'.ownsRow B 3 1 v' (s.tr.length + 1) (ints s.tr ++ [.int .i64 z])) (hg : w.grownBy w' G.TR.ownBlock) (hat : v'.ownBlock = G.TR.ownBlock ∨ v'.ownBlock = some w.heap.size) :
    Core TV w' B { s with tr := s.tr ++ [z] } X { G with O := newO G.O w.heap.size .trail, TR := v' } := by
  have ne : ∀ t, t ≠ Ow.trail → ∀ k, G.TR.ownBlock = some k → G.O k ≠ t := fun t ht k hk e => ht (e.symm.trans (h.tr.2 k hk))
  have om : newO G.O w.heap.size .trail G.mb = .map := (newO_old h.mp.lt).trans h.om
  refine ⟨h.mp.kept hg (fun e => ?_), h.hmb, om, ((h.cl.reNew .trail).grow hg (fun k e => ?_)), h.hl, fun j hj => ((h.cs j hj).reNew .trail).grow hg (fun k e => ?_), (h.va.reNew .trail).grow hg (fun k e => ?_), ?_, fun y hy => ((h.wt y hy).reNew .trail).grow hg (fun k e => ?_)⟩
  · have := h.tr.2 _ e; rw [h.om] at this; cases this
  · rw [newO_old (own_lt h.tr.1 k e)]; exact ne _ (by nofun) k e
  · rw [newO_old (own_lt h.tr.1 k e)]; exact ne _ (by nofun) k e
  · rw [newO_old (own_lt h.tr.1 k e)]; exact ne _ (by nofun) k e
  · have := h.tr.app hown hat
    rw [← ints_snoc] at this
    simpa using this
  · rw [newO_old (own_lt h.tr.1 k e)]; exact ne _ (by nofun) k e
/-- A clause's number is put behind a literal's watches: first the row .. -/
theorem Core.watchApp (h : Core TV w B s X G) {y : Int} (hy : ¬ X y) {k : Nat} {v' : Value} (hown : w'.ownsRow B 3 1 v' ((s.wa y).length + 1) (nats (s.wa y) ++ [.int .i64 k])) (hg : w.grownBy w' (G.fn y).ownBlock) (hat : v'.ownBlock = (G.fn y).ownBlock ∨ v'.ownBlock = some w.heap.size) :
    Core TV w' B s (fun z => X z ∨ z = y) { G with O := newO G.O w.heap.size (.watch y) } ∧ Hd w' (newO G.O w.heap.size (.watch y)) B (.watch y) 3 1 v' (s.wa y ++ [k]).length (nats (s.wa y ++ [k])) := by
  have hH := h.wt y hy
  have ne : ∀ t, t ≠ Ow.watch y → ∀ k, (G.fn y).ownBlock = some k → newO G.O w.heap.size (.watch y) k ≠ t := fun t ht k hk e => by
    rw [newO_old (own_lt hH.1 k hk)] at e
    exact ht (e.symm.trans (hH.2 k hk))
  have om : newO G.O w.heap.size (.watch y) G.mb = .map := (newO_old h.mp.lt).trans h.om
  refine ⟨⟨h.mp.kept hg (fun e => ?_), h.hmb, om, ((h.cl.reNew _).grow hg (ne _ nofun)), h.hl, fun j hj => ((h.cs j hj).reNew _).grow hg (ne _ nofun), (h.va.reNew _).grow hg (ne _ nofun), (h.tr.reNew _).grow hg (ne _ nofun), fun z hz => ((h.wt z (fun q => hz (.inl q))).reNew _).grow hg (ne _ (fun q => hz (.inr (by injection q))))⟩, ?_⟩
  · have := hH.2 _ e; rw [h.om] at this; cases this
  · have := hH.app hown hat
    rw [nats_snoc]; simpa using this
/-- .. then the map. -/
theorem Core.mapUpd (h : Core TV w B s X G) {y : Int} {l : List Nat} {v : Value} (hv : Hd w G.O B (.watch y) 3 1 v l.length (nats l)) (hm : MI w' Try.prog 3 G.mb (updV G.fn y v) (.slice none 0 0)) (hg : w.grownBy w' (some G.mb)) :
    Core TV w' B { s with wa := V.upd s.wa y l } (fun z => X z ∧ z ≠ y) { G with fn := updV G.fn y v } := by
  have ne : ∀ t, t ≠ Ow.map → ∀ k, some G.mb = some k → G.O k ≠ t := fun t ht k hk e => by cases hk; exact ht (e.symm.trans h.om)
  refine ⟨hm, h.hmb, h.om, h.cl.grow hg (ne _ nofun), h.hl, fun j hj => (h.cs j hj).grow hg (ne _ nofun), h.va.grow hg (ne _ nofun), h.tr.grow hg (ne _ nofun), fun z hz => ?_⟩
  show Hd _ _ _ _ _ _ (updV G.fn y v z) (V.upd s.wa y l z).length (nats (V.upd s.wa y l z))
  by_cases e : z = y
  · subst e
    have e1 : updV G.fn z v z = v := by simp [updV]
    rw [e1, V.upd_same]
    exact hv.grow hg (ne _ nofun)
  · have e1 : updV G.fn y v z = G.fn z := by simp [updV, e]
    rw [e1, V.upd_other _ _ e]
    exact (h.wt z (fun q => hz ⟨q, e⟩)).grow hg (ne _ nofun)
end
end Go.Proofs.Ytbomfekfebamkaa

/-
  solve's engine in memory; its methods of and set, walked.
-/
namespace Go.Proofs.Ytbomfekfebamkaa
open Go.RowKit Go.Maps
set_option linter.unusedSimpArgs false
set_option linter.unusedVariables false
def decCells (de : List V.Dec) : List Value := de.flatMap fun d => [.int .i64 (d.v : Int), .int .i64 (d.t : Int), .bool d.turned]
/-- The engine of the solver. -/
structure EngS (w : World) (B b : Nat) (s : V.En) (X : Int → Prop) (de : List V.Dec) (bad : Bool) (G : EG) (DE : Value) : Prop where
  core : Core 60 w B s X G
  row : Row w b 56 [G.CL, .map (some G.mb), G.VA, G.TR, .int .i64 (s.hd : Int), DE, .bool bad]
  hb : B ≤ b
  ob : G.O b = .box
  de : Hd w G.O B .decs 74 3 DE de.length (decCells de.reverse)
theorem val_lt {n : Nat} {va : List Int} (hl : va.length = n + 1) {x : Int} (hx : V.lit n x) : (x < 0 → (-x).toNat < va.length) ∧ (¬ x < 0 → x.toNat < va.length) := by
  obtain ⟨_, h1, h2⟩ := hx; omega
set_option maxRecDepth 100000 in
set_option maxHeartbeats 1000000 in
theorem sOf_any (B b n : Nat) (s : V.En) (X : Int → Prop) (de : List V.Dec) (bad : Bool) (G : EG) (DE : Value) (x : Int) (w : World) (h : EngS w B b s X de bad G DE) (hn : n ≤ 1000000) (hx : V.lit n x) (htk : V.TrOk n s.va s.tr) :
    Calls Try.prog 24 #[.pointer (some ⟨b, 0, none⟩), .int .i64 x] w fun e w' => e = .returned (.int .i8 (V.valL s.va x)) ∧ w' = w := by
  have c2 : w.cell? ⟨b, 2, none⟩ = some G.VA := h.row.cell 2
  obtain ⟨p1, p2⟩ := val_lt htk.len hx
  have hr := htk.rng x hx
  have hl := htk.len
  obtain ⟨_, x1, x2⟩ := hx
  obtain ⟨g, c, hva, _, _, _, hc, hcell, _⟩ := h.core.va.at_ (i := 0) (by omega)
  rw [hva] at c2
  have hvl : s.va.length = n + 1 := hl
  clear h htk hva
  generalize hS : s.va.length = m at *
  clear hl
  by_cases hneg : x < 0
  · have hi := p1 hneg
    have vc : w.cell? ⟨g, (-x).toNat, none⟩ = some (.int .i8 (s.va.getD (-x).toNat 0)) := hcell _ _ (i8s_get _ _ (by omega))
    have hv : V.valL s.va x = -(s.va.getD (-x).toNat 0) := by unfold V.valL; rw [if_pos hneg]
    rw [hv] at hr ⊢
    generalize s.va.getD (-x).toNat 0 = u at *
    have hw : IntKind.i8.wrap (-u) = -u := by rcases hr with e | e | e <;> (have : u = -(-u) := by omega) <;> rw [e] <;> decide
    clear hcell p1 p2 hv hr hS
    go_enter Try.func24, Try.ntmps24
    go_wp2
    go_ret
    exact ⟨rfl, rfl⟩
  · have hi := p2 hneg
    have vc : w.cell? ⟨g, x.toNat, none⟩ = some (.int .i8 (s.va.getD x.toNat 0)) := hcell _ _ (i8s_get _ _ (by omega))
    have hv : V.valL s.va x = s.va.getD x.toNat 0 := by unfold V.valL; rw [if_neg hneg]
    rw [hv]
    generalize s.va.getD x.toNat 0 = u at *
    have hge : 0 ≤ x := by omega
    clear hcell p1 p2 hv hr hS
    go_enter Try.func24, Try.ntmps24
    go_wp2
    go_ret
    exact ⟨rfl, rfl⟩
end Go.Proofs.Ytbomfekfebamkaa

/-
  solve's engine: the method set, walked.
-/
namespace Go.Proofs.Ytbomfekfebamkaa
open Go.RowKit Go.Maps
set_option linter.unusedSimpArgs false
set_option linter.unusedVariables false
theorem int_infoV : (Try.prog.info? 3).map (fun i => (i.zero, i.size, i.bytes)) = some (some (.int .i64 0), 1, 8) := by kernel_rfl
theorem lit_at {w : World} {S S' sz m : Nat} {xs : List Value} (e : S = S') (h : Rd w (S + 1) sz (some ⟨S, 0, none⟩) m xs) : Rd w (S' + 1) sz (some ⟨S', 0, none⟩) m xs := e ▸ h
/-- What a step on an engine keeps: all below B, whose blocks are, the watches' blocks. -/
structure KeepW (B : Nat) (w w' : World) (G G' : EG) : Prop where
  below : Below B w w'
  mb : G'.mb = G.mb
  fn : G'.fn = G.fn
  own : ∀ g, g < w.heap.size → G'.O g = G.O g
  oth : ∀ g, g < w.heap.size → G.O g ≠ .box → G.O g ≠ .vals → G.O g ≠ .trail → w'.heap[g]? = w.heap[g]?
theorem KeepW.refl (B : Nat) (w : World) (G : EG) : KeepW B w w G G := ⟨Below.refl _ _, rfl, rfl, fun _ _ => rfl, fun _ _ _ _ _ => rfl⟩
theorem KeepW.trans {B : Nat} {w w1 w' : World} {G G1 G' : EG} (h : KeepW B w w1 G G1) (k : KeepW B w1 w' G1 G') : KeepW B w w' G G' :=
  ⟨h.below.trans k.below, k.mb.trans h.mb, k.fn.trans h.fn, fun g hg => (k.own g (Nat.lt_of_lt_of_le hg h.below.size)).trans (h.own g hg), fun g hg h1 h2 h3 => (k.oth g (Nat.lt_of_lt_of_le hg h.below.size) (by rw [h.own g hg]; exact h1) (by rw [h.own g hg]; exact h2) (by rw [h.own g hg]; exact h3)).trans (h.oth g hg h1 h2 h3)⟩
/-- The end of set: the literal behind the trail, in a world in which the value is written. -/
theorem EngS.pushed {w1 w2 : World} {B b : Nat} {s : V.En} {X : Int → Prop} {de : List V.Dec} {bad : Bool} {G : EG} {DE v' : Value} {x : Int} (h : EngS w1 B b s X de bad G DE)
    (hown : w2.ownsRow B 3 1 v' (s.tr.length + 1) (ints s.tr ++ [.int .i64 x])) (hg : (w1.alloc (.cells #[.int .i64 x] 3)).grownBy w2 G.TR.ownBlock) (hat : v'.ownBlock = G.TR.ownBlock ∨ v'.ownBlock = some (w1.alloc (.cells #[.int .i64 x] 3)).heap.size) :
    EngS (w2.setCell ⟨b, 3, none⟩ v') B b { s with tr := s.tr ++ [x] } X de bad { G with O := newO G.O (w1.alloc (.cells #[.int .i64 x] 3)).heap.size .trail, TR := v' } DE ∧ Row w2 b 56 [G.CL, .map (some G.mb), G.VA, G.TR, .int .i64 (s.hd : Int), DE, .bool bad] ∧
    KeepW B w1 (w2.setCell ⟨b, 3, none⟩ v') G { G with O := newO G.O (w1.alloc (.cells #[.int .i64 x] 3)).heap.size .trail, TR := v' } := by
  have hlt := h.row.lt
  have hc := (h.core.alloc (.cells #[.int .i64 x] 3)).push hown hg hat
  have hne : ∀ k, G.TR.ownBlock = some k → G.O k = .trail := h.core.tr.2
  have hr : Row w2 b 56 [G.CL, .map (some G.mb), G.VA, G.TR, .int .i64 (s.hd : Int), DE, .bool bad] := (h.row.alloc _).grown hg (fun e => by
    have := hne b e.symm; rw [h.ob] at this; cases this)
  have hob : newO G.O (w1.alloc (.cells #[.int .i64 x] 3)).heap.size .trail b = .box := (newO_old (by simp; omega)).trans h.ob
  have hSz : w1.heap.size ≤ w2.heap.size := by have := hg.size; simp at this; omega
  refine ⟨⟨hc.set (p := ⟨b, 3, none⟩) (by show foreign (newO G.O _ .trail b); rw [hob]; trivial) _, hr.set 3 _, h.hb, hob, ?_⟩, hr, ?_, rfl, rfl, fun g hgg => newO_old (by simp; omega), fun g hgg q1 q2 q3 => ?_⟩
  · refine Hd.far ?_ (by show newO G.O _ .trail b ≠ _; rw [hob]; nofun) _
    refine Hd.grow ((h.de.alloc _).reNew .trail) hg (fun k e he => ?_)
    change newO G.O _ .trail k = Ow.decs at he
    rw [newO_old (by have := own_lt (h.core.tr.1.alloc (.cells #[.int .i64 x] 3)) k e; exact this), hne k e] at he; cases he
  · refine Below.setCell ?_ h.hb _
    have hB : B ≤ w1.heap.size := Nat.le_trans h.hb (Nat.le_of_lt hlt)
    exact ((Below.refl B w1).alloc hB _).grown hg (by simp; omega) (fun k e => (h.core.tr.1.lt k e).1)
  · have hgb : g ≠ b := fun e => q1 (e ▸ h.ob)
    rw [Below.heap_setCell _ _ _ _ hgb, hg.block g (by simp; omega) (fun e => q3 (hne g e.symm))]
    exact Below.heap_alloc _ _ _ hgg
theorem EngS.valued {w : World} {B b : Nat} {s : V.En} {X : Int → Prop} {de : List V.Dec} {bad : Bool} {G : EG} {DE : Value} (h : EngS w B b s X de bad G DE) {g n c i : Nat} (hv : G.VA = .slice (some ⟨g, 0, none⟩) n c) (hi : i < s.va.length) (z : Int) :
    EngS (w.setCell ⟨g, i, none⟩ (.int .i8 z)) B b { s with va := s.va.set i z } X de bad G DE ∧ KeepW B w (w.setCell ⟨g, i, none⟩ (.int .i8 z)) G G := by
  have hO : G.O g = .vals := h.core.va.2 g (by rw [hv]; rfl)
  have hB : B ≤ g := (h.core.va.1.lt g (by rw [hv]; rfl)).1
  refine ⟨⟨h.core.putVal hv hi z, h.row.far (fun e => ?_) _, h.hb, h.ob, h.de.far (fun e => ?_) _⟩, (Below.refl _ _).setCell hB _, rfl, rfl, fun _ _ => rfl, fun g' hg' q1 q2 q3 => Below.heap_setCell _ _ _ _ (fun e => ?_)⟩
  · have := h.ob; rw [e] at this; exact absurd (hO.symm.trans this) nofun
  · exact absurd (hO.symm.trans e) nofun
  · have e' : g' = g := e
    exact q2 (e' ▸ hO)
set_option maxRecDepth 100000 in
set_option maxHeartbeats 2000000 in
theorem sSet_any (B b n : Nat) (s : V.En) (X : Int → Prop) (de : List V.Dec) (bad : Bool) (G : EG) (DE : Value) (x : Int) (w : World) (h : EngS w B b s X de bad G DE) (hn : n ≤ 1000000) (hx : V.lit n x) (hl : s.va.length = n + 1) (ht : s.tr.length ≤ 2000000) :
    Calls Try.prog 25 #[.pointer (some ⟨b, 0, none⟩), .int .i64 x] w fun e w' => e = .returned (.tuple #[]) ∧ ∃ G', EngS w' B b (s.put x) X de bad G' DE ∧ KeepW B w w' G G' := by
  have R0 : Hid (Row w b 56 [G.CL, .map (some G.mb), G.VA, G.TR, .int .i64 (s.hd : Int), DE, .bool bad]) := h.row
  have k0 := R0.out.cell 0
  have k1 := R0.out.cell 1
  have k2 := R0.out.cell 2
  have k3 := R0.out.cell 3
  have k4 := R0.out.cell 4
  have k5 := R0.out.cell 5
  have k6 := R0.out.cell 6
  have kl := R0.out.lt
  simp only [List.getElem?_cons_zero, List.getElem?_cons_succ] at k0 k1 k2 k3 k4 k5 k6
  obtain ⟨x0, x1, x2⟩ := hx
  have H := Lib.hid h
  obtain ⟨g, c, hva, _, hBg, hgl, hc, hcell, hfr⟩ := h.core.va.at_ (i := 0) (by omega)
  have hbsz : B ≤ w.heap.size := by have := h.row.lt; have := h.hb; omega
  rw [hva] at k2
  clear h
  have HVA := Lib.hid hva
  clear hva
  by_cases hp : 0 < x
  · have vc : w.cell? ⟨g, x.toNat, none⟩ = some (.int .i8 (s.va.getD x.toNat 0)) := hcell _ _ (i8s_get _ _ (by omega))
    have vf : w.frozen? ⟨g, x.toNat, none⟩ = false := hfr _
    have hge : 0 ≤ x := by omega
    have hlt : x < (s.va.length : Int) := by omega
    obtain ⟨E1, K1⟩ := H.out.valued HVA.out (i := x.toNat) (by omega) 1
    have HEQ : Hid (({ ({ s with va := s.va.set x.toNat 1 } : V.En) with tr := s.tr ++ [x] } : V.En) = s.put x) := by
      show _ = _
      unfold V.En.put V.setL; rw [if_pos hp]
    have kk3 : (w.setCell ⟨g, x.toNat, none⟩ (.int .i8 1)).cell? ⟨b, 3, none⟩ = some G.TR := E1.row.cell 3
    have T1 : Hid ((w.setCell ⟨g, x.toNat, none⟩ (.int .i8 1)).ownsRow B 3 1 G.TR s.tr.length (ints s.tr)) := E1.core.tr.1
    have HE1 := Lib.hid E1
    have HK1 := Lib.hid K1
    clear E1 K1 hcell hfr
    go_enter Try.func25, Try.ntmps25
    go_wp2_with (at_builtin; refine wpList_app rfl (.tmp 23) (.tmp 25) 26 rfl B 3 (.int .i64 0) 1 8 Try.underlying26 int_infoV rfl (by decide) (by decide) G.TR (s.tr.length) (ints s.tr) rfl ?own (w.heap.size + 1) (some ⟨w.heap.size, 0, none⟩) 1 1 [.int .i64 x] rfl ?rd ?one ?hb ?hbase ?_)
    case own => exact (T1.out).alloc _
    case rd => exact lit_at (World.size_setCell _ _ _) <| Rd.lit (w.setCell ⟨g, x.toNat, none⟩ (.int .i8 1)) #[.int .i64 x] 3 (sz := 1) (m := 1) rfl
    case one => first | (intro u hu; simp at hu; subst hu; rfl) | rfl
    case hb => omega
    case hbase => first | (simp; omega) | omega
    intro v' w' hown' hgrow' hat'
    have hat2 : v'.ownBlock = G.TR.ownBlock ∨ v'.ownBlock = some ((w.setCell ⟨g, x.toNat, none⟩ (.int .i8 1)).alloc (.cells #[.int .i64 x] 3)).heap.size := by simpa using hat'
    clear hat'
    revert HE1 HK1 hgrow' hat2
    clear kk3 T1 k0 k1 k2 k3 k4 k5 k6 kl
    generalize (w.setCell ⟨g, x.toNat, none⟩ (.int .i8 1)) = w1
    intro HE1 HK1 hgrow' hat2
    obtain ⟨VA', vc', rfl, -⟩ := Rd.own hown'
    obtain ⟨E2, R2, K2⟩ := HE1.out.pushed hown' hgrow' hat2
    have HE2 := Lib.hid E2
    have HK2 := Lib.hid K2
    have HR2 := Lib.hid R2
    clear E2 K2 R2 hown' hgrow' hat2
    have k0 := HR2.out.cell 0
    have k1 := HR2.out.cell 1
    have k2 := HR2.out.cell 2
    have k3 := HR2.out.cell 3
    have k4 := HR2.out.cell 4
    have k5 := HR2.out.cell 5
    have k6 := HR2.out.cell 6
    have kl := HR2.out.lt
    simp only [List.getElem?_cons_zero, List.getElem?_cons_succ] at k0 k1 k2 k3 k4 k5 k6
    have kf0 := HR2.out.frozen 0
    have kf1 := HR2.out.frozen 1
    have kf2 := HR2.out.frozen 2
    have kf3 := HR2.out.frozen 3
    have kf4 := HR2.out.frozen 4
    have kf5 := HR2.out.frozen 5
    have kf6 := HR2.out.frozen 6
    go_wp2
    refine bodyPost_end (results_none rfl _ _ _) rfl ?_
    exact ⟨rfl, _, HEQ.out ▸ HE2.out, HK1.out.trans HK2.out⟩
  · have vc : w.cell? ⟨g, (-x).toNat, none⟩ = some (.int .i8 (s.va.getD (-x).toNat 0)) := hcell _ _ (i8s_get _ _ (by omega))
    have vf : w.frozen? ⟨g, (-x).toNat, none⟩ = false := hfr _
    have hge : 0 ≤ -x := by omega
    have hlt : -x < (s.va.length : Int) := by omega
    obtain ⟨E1, K1⟩ := H.out.valued HVA.out (i := (-x).toNat) (by omega) (-1)
    have HEQ : Hid (({ ({ s with va := s.va.set (-x).toNat (-1) } : V.En) with tr := s.tr ++ [x] } : V.En) = s.put x) := by
      show _ = _
      unfold V.En.put V.setL; rw [if_neg hp]
    have kk3 : (w.setCell ⟨g, (-x).toNat, none⟩ (.int .i8 (-1))).cell? ⟨b, 3, none⟩ = some G.TR := E1.row.cell 3
    have T1 : Hid ((w.setCell ⟨g, (-x).toNat, none⟩ (.int .i8 (-1))).ownsRow B 3 1 G.TR s.tr.length (ints s.tr)) := E1.core.tr.1
    have HE1 := Lib.hid E1
    have HK1 := Lib.hid K1
    clear E1 K1 hcell hfr
    go_enter Try.func25, Try.ntmps25
    go_wp2_with (at_builtin; refine wpList_app rfl (.tmp 23) (.tmp 25) 26 rfl B 3 (.int .i64 0) 1 8 Try.underlying26 int_infoV rfl (by decide) (by decide) G.TR (s.tr.length) (ints s.tr) rfl ?own (w.heap.size + 1) (some ⟨w.heap.size, 0, none⟩) 1 1 [.int .i64 x] rfl ?rd ?one ?hb ?hbase ?_)
    case own => exact (T1.out).alloc _
    case rd => exact lit_at (World.size_setCell _ _ _) <| Rd.lit (w.setCell ⟨g, (-x).toNat, none⟩ (.int .i8 (-1))) #[.int .i64 x] 3 (sz := 1) (m := 1) rfl
    case one => first | (intro u hu; simp at hu; subst hu; rfl) | rfl
    case hb => omega
    case hbase => first | (simp; omega) | omega
    intro v' w' hown' hgrow' hat'
    have hat2 : v'.ownBlock = G.TR.ownBlock ∨ v'.ownBlock = some ((w.setCell ⟨g, (-x).toNat, none⟩ (.int .i8 (-1))).alloc (.cells #[.int .i64 x] 3)).heap.size := by simpa using hat'
    clear hat'
    revert HE1 HK1 hgrow' hat2
    clear kk3 T1 k0 k1 k2 k3 k4 k5 k6 kl
    generalize (w.setCell ⟨g, (-x).toNat, none⟩ (.int .i8 (-1))) = w1
    intro HE1 HK1 hgrow' hat2
    obtain ⟨VA', vc', rfl, -⟩ := Rd.own hown'
    obtain ⟨E2, R2, K2⟩ := HE1.out.pushed hown' hgrow' hat2
    have HE2 := Lib.hid E2
    have HK2 := Lib.hid K2
    have HR2 := Lib.hid R2
    clear E2 K2 R2 hown' hgrow' hat2
    have k0 := HR2.out.cell 0
    have k1 := HR2.out.cell 1
    have k2 := HR2.out.cell 2
    have k3 := HR2.out.cell 3
    have k4 := HR2.out.cell 4
    have k5 := HR2.out.cell 5
    have k6 := HR2.out.cell 6
    have kl := HR2.out.lt
    simp only [List.getElem?_cons_zero, List.getElem?_cons_succ] at k0 k1 k2 k3 k4 k5 k6
    have kf0 := HR2.out.frozen 0
    have kf1 := HR2.out.frozen 1
    have kf2 := HR2.out.frozen 2
    have kf3 := HR2.out.frozen 3
    have kf4 := HR2.out.frozen 4
    have kf5 := HR2.out.frozen 5
    have kf6 := HR2.out.frozen 6
    go_wp2
    refine bodyPost_end (results_none rfl _ _ _) rfl ?_
    exact ⟨rfl, _, HEQ.out ▸ HE2.out, HK1.out.trans HK2.out⟩
end Go.Proofs.Ytbomfekfebamkaa
