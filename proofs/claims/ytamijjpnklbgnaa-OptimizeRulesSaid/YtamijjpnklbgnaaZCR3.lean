/-
  A region that draws its order and ends in a row of operations W (an append, a store), ahead of which all its loads have come up: a condition S on the world is shown behind every operation but those of W, so loads may be taken first although the last store hits a cell that they read. Any program.
-/
import Derived.Test.YtamijjpnklbgnaaZCR1
import Derived.OrdersHeld
import Derived.StillTail
import Derived.Deep.RegionHeld
namespace Go.Proofs.Ytamijjpnklbgnaa
open Go.RowKit
set_option linter.unusedSimpArgs false
set_option linter.unusedVariables false

section
variable {P : Program} {ops : Array Oper} {Q : Exit → Act → World → Prop} {md : Region.Mode} {S : World → Prop} {W : List Nat}

/-- What is listed waits for listed ones only. -/
def closedL (md : Region.Mode) (ops : Array Oper) (lst : Array Bool) : Prop :=
  ∀ k ok, ops[k]? = some ok → lst.getD k false = true → ∀ e ∈ ok.after, Region.binds md e = true → lst.getD e.on false = true

/-- From here on in whatever order; behind operation i, unless it is one of W, S holds. -/
def anyL (P : Program) (md : Region.Mode) (ops : Array Oper) (Q : Exit → Act → World → Prop) (S : World → Prop) (W : List Nat) : Nat → Array Bool → Act → World → Prop
  | 0, lst, a, w => Region.ready md ops lst = [] ∧ Q .normal a w
  | f + 1, lst, a, w => (Region.ready md ops lst = [] → Q .normal a w) ∧
      ∀ i, i ∈ Region.ready md ops lst → wpOp P ops Q i (fun b u => (W.contains i = false → S w → S u) ∧ anyL P md ops Q S W f (lst.setIfInBounds i true) b u) a w

theorem anyL_any (f : Nat) : ∀ (lst : Array Bool) (a : Act) (w : World), anyL P md ops Q S W f lst a w → wpAny P md ops Q f lst a w := by
  induction f with
  | zero => exact fun _ _ _ h => h
  | succ f ih => exact fun lst a w h => ⟨h.1, fun i hi => wpOp_mono (fun b u hb => ih _ b u hb.2) (h.2 i hi)⟩

/-- An unlisted one is not listed. -/
theorem un_not {lst : Array Bool} {k : Nat} (h : lst.getD k true = false) : ¬ lst.getD k false = true := by
  rw [Array.getD_eq_getD_getElem?] at h ⊢
  cases h' : lst[k]? with
  | none => simp
  | some b => rw [h'] at h; simp only [Option.getD_some] at h ⊢; rw [h]; simp

theorem closedL.none {n : Nat} : closedL md ops (Array.replicate n false) := by
  intro k ok _ hk
  rw [Array.getD_eq_getD_getElem?, Array.getElem?_replicate] at hk
  split at hk <;> simp at hk

theorem closedL.set {lst : Array Bool} {j : Nat} (h : closedL md ops lst) (hj : j ∈ Region.ready md ops lst) : closedL md ops (lst.setIfInBounds j true) := by
  intro k ok hok hk e he hb
  by_cases ejk : j = k
  · subst ejk
    obtain ⟨_, o2, ho2, hall⟩ := mem_ready.1 hj
    obtain rfl : o2 = ok := Option.some.inj (ho2.symm.trans hok)
    exact getD_set_true (hall e he hb)
  · rw [getD_set_ne false ejk] at hk
    exact getD_set_true (h k ok hok hk e he hb)

/-- A row of operations each of which waits for the next, the last of them for i. -/
def chainTo (md : Region.Mode) (ops : Array Oper) (i : Nat) : List Nat → Bool
  | [] => false
  | [a] => Region.waitsFor md ops a i
  | a :: b :: r => Region.waitsFor md ops a b && chainTo md ops i (b :: r)

theorem chainTo_spec {lst : Array Bool} {i : Nat} (hc : closedL md ops lst) (hi : ¬ lst.getD i false = true) : ∀ (r : List Nat) (j : Nat), chainTo md ops i (j :: r) = true → ∃ k, Region.waitsFor md ops j k = true ∧ ¬ lst.getD k false = true
  | [], j, h => ⟨i, h, hi⟩
  | b :: r, j, h => by
    simp only [chainTo, Bool.and_eq_true] at h
    obtain ⟨k, h1, h2⟩ := chainTo_spec hc hi r b h.2
    refine ⟨b, h.1, fun hb => h2 ?_⟩
    obtain ⟨ob, hob, e, he, hbi, rfl⟩ := Region.waitsFor_spec h1
    exact hc b ob hob hb e he hbi

/-- An operation that waits for an unlisted one does not come up. -/
theorem not_ready {lst : Array Bool} {i j : Nat} (hw : Region.waitsFor md ops j i = true) (hun : ¬ lst.getD i false = true) : j ∉ Region.ready md ops lst := by
  intro hj
  obtain ⟨oj, hoj, e, he, hb, rfl⟩ := Region.waitsFor_spec hw
  obtain ⟨_, ok, hok, hall⟩ := mem_ready.1 hj
  obtain rfl : ok = oj := Option.some.inj (hok.symm.trans hoj)
  exact hun (hall e he hb)

/-- Each of W waits for i, by one of these rows. -/
def waitAll (md : Region.Mode) (ops : Array Oper) (i : Nat) (W : List Nat) (ps : List (List Nat)) : Bool :=
  W.all fun l => ps.any fun p => p.head? == some l && chainTo md ops i p
theorem waitAll_spec {lst : Array Bool} {i : Nat} {ps : List (List Nat)} (h : waitAll md ops i W ps = true) (hc : closedL md ops lst) (hi : ¬ lst.getD i false = true) {l : Nat} (hl : l ∈ W) : l ∉ Region.ready md ops lst := by
  unfold waitAll at h
  rw [List.all_eq_true] at h
  have h1 := h l hl
  rw [List.any_eq_true] at h1
  obtain ⟨p, _, hp⟩ := h1
  rw [Bool.and_eq_true, beq_iff_eq] at hp
  cases p with
  | nil => cases hp.1
  | cons a r =>
    obtain rfl : a = l := Option.some.inj hp.1
    obtain ⟨k, h2, h3⟩ := chainTo_spec hc hi r a hp.2
    exact not_ready h2 h3

theorem anyL_first {i : Nat} {oi : Oper} {v : Value} {ps : List (List Nat)} (hi : ops[i]? = some oi) (hsel : ∀ (j : Nat) (o : Oper) cs b, ops[j]? = some o → o.op ≠ .select cs b)
    (hQ : ∀ c a w, Q (.panic c) (a.put oi.dst v) w → Q (.panic c) a w) (hL : waitAll md ops i W ps = true) (f : Nat) :
    ∀ (lst : Array Bool) (a : Act) (w : World), closedL md ops lst →
      (∀ j oj, ops[j]? = some oj → j ≠ i → lst.getD j true = false → (∀ e ∈ oj.after, Region.binds md e = true → e.on ≠ i) → oi.apart ops oj = true) →
      i ∈ Region.ready md ops lst → YieldsIf P ops S oi v a → S w →
      anyL P md ops Q S W f (lst.setIfInBounds i true) (a.put oi.dst v) w → anyL P md ops Q S W (f + 1) lst a w := by
  induction f with
  | zero =>
    intro lst a w _ _ hr hy hS H
    constructor
    · intro h0; rw [h0] at hr; cases hr
    · intro j hj
      by_cases e : j = i
      · rw [e]; exact hy.wpOp hi hS ⟨fun _ _ => hS, H⟩
      · have h1 := ready_mono hj e
        rw [H.1] at h1; cases h1
  | succ f ih =>
    intro lst a w hcl hfree hr hy hS H
    constructor
    · intro h0; rw [h0] at hr; cases hr
    · intro j hj
      by_cases e : j = i
      · rw [e]; exact hy.wpOp hi hS ⟨fun _ _ => hS, H⟩
      · have hiun := un_not (mem_ready.1 hr).1
        have hjL : W.contains j = false := by
          rw [Bool.eq_false_iff]
          intro hc
          exact waitAll_spec hL hcl hiun (List.contains_iff_mem.1 hc) hj
        obtain ⟨hun, oj, hoj, hall⟩ := mem_ready.1 hj
        have hno : ∀ e' ∈ oj.after, Region.binds md e' = true → e'.on ≠ i := fun e' he hb heq => hiun (heq ▸ hall e' he hb)
        refine wpOp_mono (fun b u h3 => ?_) (wpOp_putIf hoj (hfree j oj hoj e hun hno) (fun cs b => hsel i oi cs b hi) (fun cs b => hsel j oj cs b hoj) hQ hy (H.2 j (ready_mono hj e)))
        obtain ⟨hy', hS', hrest⟩ := h3
        refine ⟨hS', ih (lst.setIfInBounds j true) b u (hcl.set hj) (fun k ok hok hki hkun hkno => ?_) (ready_mono hr (Ne.symm e)) hy' (hS' hjL hS) ?_⟩
        · refine hfree k ok hok hki ?_ hkno
          by_cases hjk : j = k
          · subst hjk; exact hun
          · rw [getD_set_ne true hjk] at hkun; exact hkun
        · rw [Array.setIfInBounds_comm _ _ e]; exact hrest

/-- An operation that does not look at the world is taken first, wherever it stands. -/
theorem anyL_pure {i : Nat} {oi : Oper} {v : Value} (hi : ops[i]? = some oi) (hsel : ∀ (j : Nat) (o : Oper) cs b, ops[j]? = some o → o.op ≠ .select cs b)
    (hQ : ∀ c a w, Q (.panic c) (a.put oi.dst v) w → Q (.panic c) a w) (f : Nat) :
    ∀ (lst : Array Bool) (a : Act) (w : World), closedL md ops lst →
      (∀ j oj, ops[j]? = some oj → j ≠ i → lst.getD j true = false → (∀ e ∈ oj.after, Region.binds md e = true → e.on ≠ i) → oi.apart ops oj = true) →
      i ∈ Region.ready md ops lst → YieldsIf P ops (fun _ => True) oi v a →
      anyL P md ops Q S W f (lst.setIfInBounds i true) (a.put oi.dst v) w → anyL P md ops Q S W (f + 1) lst a w := by
  induction f with
  | zero =>
    intro lst a w _ _ hr hy H
    constructor
    · intro h0; rw [h0] at hr; cases hr
    · intro j hj
      by_cases e : j = i
      · rw [e]; exact hy.wpOp hi trivial ⟨fun _ h => h, H⟩
      · have h1 := ready_mono hj e
        rw [H.1] at h1; cases h1
  | succ f ih =>
    intro lst a w hcl hfree hr hy H
    constructor
    · intro h0; rw [h0] at hr; cases hr
    · intro j hj
      by_cases e : j = i
      · rw [e]; exact hy.wpOp hi trivial ⟨fun _ h => h, H⟩
      · have hiun := un_not (mem_ready.1 hr).1
        obtain ⟨hun, oj, hoj, hall⟩ := mem_ready.1 hj
        have hno : ∀ e' ∈ oj.after, Region.binds md e' = true → e'.on ≠ i := fun e' he hb heq => hiun (heq ▸ hall e' he hb)
        refine wpOp_mono (fun b u h3 => ?_) (wpOp_putIf hoj (hfree j oj hoj e hun hno) (fun cs b => hsel i oi cs b hi) (fun cs b => hsel j oj cs b hoj) hQ hy (H.2 j (ready_mono hj e)))
        obtain ⟨hy', hS', hrest⟩ := h3
        refine ⟨hS', ih (lst.setIfInBounds j true) b u (hcl.set hj) (fun k ok hok hki hkun hkno => ?_) (ready_mono hr (Ne.symm e)) hy' ?_⟩
        · refine hfree k ok hok hki ?_ hkno
          by_cases hjk : j = k
          · subst hjk; exact hun
          · rw [getD_set_ne true hjk] at hkun; exact hkun
        · rw [Array.setIfInBounds_comm _ _ e]; exact hrest

/-- The rest of the region, over a list that is closed. -/
def restL (P : Program) (md : Region.Mode) (ops : Array Oper) (Q : Exit → Act → World → Prop) (S : World → Prop) (W : List Nat) (f : Nat) (lst : Array Bool) (a : Act) (w : World) : Prop :=
  closedL md ops lst → anyL P md ops Q S W f lst a w

/-- Operation i is taken first. -/
theorem restL_take {i : Nat} {oi : Oper} {v : Value} {f : Nat} {lst : Array Bool} {a : Act} {w : World} (ps : List (List Nat)) (hi : ops[i]? = some oi)
    (hs : Region.noSelect ops = true) (hf : Region.free md ops lst i = true) (hr : (Region.ready md ops lst).contains i = true) (hL : waitAll md ops i W ps = true)
    (hQ : ∀ c a w, Q (.panic c) (a.put oi.dst v) w → Q (.panic c) a w) (hy : YieldsIf P ops S oi v a) (hS : S w)
    (h : restL P md ops Q S W f (lst.setIfInBounds i true) (a.put oi.dst v) w) : restL P md ops Q S W (f + 1) lst a w := by
  intro hc
  have hr' : i ∈ Region.ready md ops lst := by simpa using hr
  exact anyL_first hi (Region.noSelect_spec hs) hQ hL f lst a w hc (Region.free_spec hi hf) hr' hy hS (h (hc.set hr'))
theorem restL_pure {i : Nat} {oi : Oper} {v : Value} {f : Nat} {lst : Array Bool} {a : Act} {w : World} (hi : ops[i]? = some oi)
    (hs : Region.noSelect ops = true) (hf : Region.free md ops lst i = true) (hr : (Region.ready md ops lst).contains i = true)
    (hQ : ∀ c a w, Q (.panic c) (a.put oi.dst v) w → Q (.panic c) a w) (hy : YieldsIf P ops (fun _ => True) oi v a)
    (h : restL P md ops Q S W f (lst.setIfInBounds i true) (a.put oi.dst v) w) : restL P md ops Q S W (f + 1) lst a w := by
  intro hc
  have hr' : i ∈ Region.ready md ops lst := by simpa using hr
  exact anyL_pure hi (Region.noSelect_spec hs) hQ f lst a w hc (Region.free_spec hi hf) hr' hy (h (hc.set hr'))
/-- The only one that may come up comes up. -/
theorem restL_one {i : Nat} {o : Oper} {f : Nat} {lst : Array Bool} {a : Act} {w : World} (hr : Region.ready md ops lst = [i]) (ho : ops[i]? = some o)
    (h : ∀ K' : Act → World → Prop, Shut (∀ b u, (W.contains i = false → S u) → ((W.contains i = false → S u) → restL P md ops Q S W f (lst.setIfInBounds i true) b u) → K' b u) → if Region.wanted o (yielded ops a.tmps) = true then Oper.wp P o a w K' Q else K' (a.put o.dst undef) w) :
    restL P md ops Q S W (f + 1) lst a w := by
  intro hc
  refine And.intro (fun h0 => absurd (hr.symm.trans h0) (by simp)) (fun j hj => ?_)
  have hc' := hc.set hj
  rw [hr] at hj
  obtain rfl := List.mem_singleton.1 hj
  exact wpOp_step ho (fun K' hK => h K' (fun b u hS hW => hK b u ⟨fun e _ => hS e, hW hS hc'⟩))
theorem restL_done {lst : Array Bool} {a : Act} {w : World} (hr : Region.ready md ops lst = []) (h : Q .normal a w) : ∀ f, restL P md ops Q S W f lst a w
  | 0 => fun _ => ⟨hr, h⟩
  | _ + 1 => fun _ => And.intro (fun _ => h) (fun i hi => by rw [hr] at hi; cases hi)
/-- The beginning. -/
theorem wp_region_L {id : Nat} {a : Act} {w : World} (S : World → Prop) (W : List Nat) (hm : P.follows .mixedOrders = true) (hS : S w.drew)
    (h : S w.drew → restL P .any ops Q S W ops.size (Array.replicate ops.size false) a w.drew) : (Code.region id ops true).wp P Q a w :=
  wp_region_any hm (anyL_any _ _ _ _ (h hS closedL.none))
end
end Go.Proofs.Ytamijjpnklbgnaa

