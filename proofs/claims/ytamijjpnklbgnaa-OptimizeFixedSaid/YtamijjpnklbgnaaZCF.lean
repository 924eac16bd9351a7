/-
  A region that draws its order, walked by a condition that holds whatever has been listed so far: each operation is looked at once, not once for each order. Any program.
-/
import Derived.Test.YtamijjpnklbgnaaRegL
import Derived.Test.YtamijjpnklbgnaaZAll
import Derived.Test.YtamijjpnklbgnaaZAwake
import Derived.Test.YtamijjpnklbgnaaZCount
import Derived.Test.YtamijjpnklbgnaaCOpen
namespace Go.Proofs.Ytamijjpnklbgnaa
open Go.RowKit
set_option linter.unusedSimpArgs false
set_option linter.unusedVariables false
section
variable {P : Program} {ops : Array Oper} {Q : Exit → Act → World → Prop}
/-- The operation i is listed too. -/
def also (b : Nat → Bool) (i : Nat) : Nat → Bool := fun j => if j = i then true else b j
theorem also_same (b : Nat → Bool) (i : Nat) : also b i i = true := if_pos rfl
theorem also_ne (b : Nat → Bool) {i j : Nat} (h : j ≠ i) : also b i j = b j := if_neg h
/-- Each operation waits for earlier ones alone. -/
def backward (ops : Array Oper) : Bool := (List.range ops.size).all fun i => ((ops[i]?).map (fun o => o.after.all fun e => decide (e.on < i))).getD true
theorem len_filter_lt (p q : Nat → Bool) (n i : Nat) (hi : i < n) (h : ∀ j, p j = true → q j = true) (hp : p i = false) (hq : q i = true) : ((List.range n).filter p).length < ((List.range n).filter q).length := by
  induction n with
  | zero => omega
  | succ n ih =>
    rw [List.range_succ, List.filter_append, List.filter_append, List.length_append, List.length_append]
    have hle : ∀ m, ((List.range m).filter p).length ≤ ((List.range m).filter q).length := fun m => by
      induction m with
      | zero => exact Nat.le_refl _
      | succ m ih2 =>
        rw [List.range_succ, List.filter_append, List.filter_append, List.length_append, List.length_append]
        cases hpm : p m with
        | true => simp [hpm, h m hpm]; exact ih2
        | false => simp [hpm]; omega
    rcases Nat.lt_or_ge i n with h1 | h1
    · have := ih h1
      cases hpn : p n with
      | true => simp [hpn, h n hpn]; exact this
      | false => simp [hpn]; omega
    · obtain rfl : i = n := by omega
      have := hle i
      simp [hp, hq]; omega
theorem inv_any (I : (Nat → Bool) → Act → World → Prop) (hb : backward ops = true)
    (hstep : ∀ b c u i o, ops[i]? = some o → b i = false → (∀ e ∈ o.after, Region.binds .any e = true → b e.on = true) → I b c u → ∀ K' : Act → World → Prop, (∀ c' u', I (also b i) c' u' → K' c' u') → if Region.wanted o (yielded ops c.tmps) = true then Oper.wp P o c u K' Q else K' (c.put o.dst undef) u)
    (hend : ∀ b c u, (∀ i, i < ops.size → b i = true) → I b c u → Q .normal c u) (f : Nat) :
    ∀ (lst : Array Bool) (c : Act) (u : World), lst.size = ops.size → ((List.range ops.size).filter (fun j => !lst.getD j true)).length ≤ f → I (fun j => lst.getD j false) c u → wpAny P .any ops Q f lst c u := by
  have hdone : ∀ (lst : Array Bool), lst.size = ops.size → Region.ready .any ops lst = [] → ∀ i, i < ops.size → lst.getD i false = true := fun lst hs hr i => by
    induction i using Nat.strongRecOn with
    | _ i ih =>
      intro hi
      cases hl : lst.getD i false with
      | true => rfl
      | false =>
        exfalso
        have hmem : i ∈ Region.ready .any ops lst := by
          rw [mem_ready]
          refine ⟨?_, ops[i], Array.getElem?_eq_getElem hi, fun e he _ => ?_⟩
          · rw [Array.getD_eq_getD_getElem?, Array.getElem?_eq_getElem (by omega)] at hl ⊢; exact hl
          · unfold backward at hb
            rw [List.all_eq_true] at hb
            have h1 := hb i (List.mem_range.2 hi)
            rw [Array.getElem?_eq_getElem hi] at h1
            simp only [Option.map_some, Option.getD_some, Array.all_eq_true_iff_forall_mem, decide_eq_true_eq] at h1
            have h2 := h1 e (by simpa using he)
            exact ih e.on h2 (by omega)
        rw [hr] at hmem
        cases hmem
  induction f with
  | zero =>
    intro lst c u hs hf hI
    have hall : ∀ i, i < ops.size → lst.getD i true = true := fun i hi => by
      cases h : lst.getD i true with
      | true => rfl
      | false =>
        have : i ∈ (List.range ops.size).filter (fun j => !lst.getD j true) := by
          rw [List.mem_filter, List.mem_range]; exact ⟨hi, by rw [h]; rfl⟩
        have := List.length_pos_of_mem this
        omega
    have hr : Region.ready .any ops lst = [] := by
      rw [List.eq_nil_iff_forall_not_mem]
      intro i hi
      obtain ⟨h1, o, ho, _⟩ := mem_ready.1 hi
      rw [hall i (Array.getElem?_eq_some_iff.1 ho).1] at h1
      cases h1
    exact ⟨hr, hend _ c u (hdone lst hs hr) hI⟩
  | succ f ih =>
    intro lst c u hs hf hI
    refine ⟨fun hr => hend _ c u (hdone lst hs hr) hI, fun i hi => ?_⟩
    obtain ⟨hun, o, ho, hall⟩ := mem_ready.1 hi
    have hio : i < ops.size := (Array.getElem?_eq_some_iff.1 ho).1
    have hunf : lst.getD i false = false := by
      rw [Array.getD_eq_getD_getElem?, Array.getElem?_eq_getElem (by omega)] at hun ⊢; exact hun
    refine wpOp_step ho (fun K' hK => hstep (fun j => lst.getD j false) c u i o ho hunf hall hI K' (fun c' u' hI' => hK c' u' (ih _ c' u' (by rw [Array.size_setIfInBounds]; exact hs) ?_ ?_)))
    · have := len_filter_lt (fun j => !(lst.setIfInBounds i true).getD j true) (fun j => !lst.getD j true) ops.size i hio (fun j hj => by
        by_cases e : i = j
        · subst e
          rw [Array.getD_eq_getD_getElem?, Array.getElem?_setIfInBounds_self_of_lt (by omega)] at hj
          cases hj
        · rw [getD_set_ne true e] at hj; exact hj) (by
        show (!(lst.setIfInBounds i true).getD i true) = false
        rw [Array.getD_eq_getD_getElem?, Array.getElem?_setIfInBounds_self_of_lt (by omega)]; rfl) (by show (!lst.getD i true) = true; rw [hun]; rfl)
      omega
    · have e : (fun j => (lst.setIfInBounds i true).getD j false) = also (fun j => lst.getD j false) i := by
        funext j
        unfold also
        by_cases e : j = i
        · subst e
          rw [if_pos rfl, Array.getD_eq_getD_getElem?, Array.getElem?_setIfInBounds_self_of_lt (by omega)]; rfl
        · rw [if_neg e, getD_set_ne false (Ne.symm e)]
      rw [e]; exact hI'
/-- The law. -/
theorem wp_region_inv {id : Nat} {a : Act} {w : World} (I : (Nat → Bool) → Act → World → Prop) (hm : P.follows .mixedOrders = true) (hb : backward ops = true) (hstart : I (fun _ => false) a w.drew)
    (hstep : ∀ b c u i o, ops[i]? = some o → b i = false → (∀ e ∈ o.after, Region.binds .any e = true → b e.on = true) → I b c u → ∀ K' : Act → World → Prop, (∀ c' u', I (also b i) c' u' → K' c' u') → if Region.wanted o (yielded ops c.tmps) = true then Oper.wp P o c u K' Q else K' (c.put o.dst undef) u)
    (hend : ∀ b c u, (∀ i, i < ops.size → b i = true) → I b c u → Q .normal c u) : (Code.region id ops true).wp P Q a w := by
  refine wp_region_any hm (inv_any I hb hstep hend ops.size _ a _ (by simp) ?_ ?_)
  · exact Nat.le_trans (List.length_filter_le _ _) (by simp)
  · have e : (fun j => (Array.replicate ops.size false).getD j false) = fun _ => false := by
      funext j
      rw [Array.getD_eq_getD_getElem?, Array.getElem?_replicate]
      split <;> rfl
    rw [e]; exact hstart
end
end Go.Proofs.Ytamijjpnklbgnaa

/-
  Results of calls and the boxes that they are stored into, in whatever order calls, boxes and stores come up. Plain memory.
-/
namespace Go.Proofs.Ytamijjpnklbgnaa
open Go.RowKit
set_option linter.unusedSimpArgs false
set_option linter.unusedVariables false
def zeroCs : List Value := [.int .i64 0, .slice none 0 0, .slice none 0 0]
def upd {α : Type} (f : Nat → α) (j : Nat) (v : α) : Nat → α := fun i => if i = j then v else f i
theorem upd_same {α : Type} (f : Nat → α) (j : Nat) (v : α) : upd f j v j = v := if_pos rfl
theorem upd_ne {α : Type} (f : Nat → α) {i j : Nat} (v : α) (h : i ≠ j) : upd f j v i = f i := if_neg h
/-- got j: the cells of the result of call j; box j: the block of box j; full j: the result is stored. -/
structure Bx (B : Nat) (w1 u : World) (D : Nat → Circ) (got : Nat → Option (List Value)) (box : Nat → Option Nat) (full : Nat → Bool) : Prop where
  below : Below B w1 u
  size : B ≤ u.heap.size
  gotOk : ∀ j l, got j = some l → ∃ GA OA gn gc on oc, l = [.int .i64 (D j).inputs, .slice GA gn gc, .slice OA on oc] ∧ CAt u (D j) GA OA gn on ∧ ∀ i x, box i = some x → NotIn GA gn x ∧ NotIn OA on x
  boxOk : ∀ j x, box j = some x → B ≤ x ∧ ∃ l, Row u x 25 l ∧ (full j = false → l = zeroCs) ∧ (full j = true → got j = some l)
  inj : ∀ i j x, box i = some x → box j = some x → i = j
  fullOk : ∀ j, full j = true → (got j).isSome = true ∧ (box j).isSome = true
section
variable {B : Nat} {w1 u u' : World} {D : Nat → Circ} {got : Nat → Option (List Value)} {box : Nat → Option Nat} {full : Nat → Bool}
theorem Bx.start (hb : Below B w1 u) (hs : B ≤ u.heap.size) : Bx B w1 u D (fun _ => none) (fun _ => none) (fun _ => false) :=
  ⟨hb, hs, fun _ _ h => (by cases h), fun _ _ h => (by cases h), fun _ _ _ h => (by cases h), fun _ h => (by cases h)⟩
theorem Rd.notIn {w : World} {sz n : Nat} {A : Option Addr} {xs : List Value} (h : Rd w w.heap.size sz A n xs) : NotIn A n w.heap.size := fun ad e hn => by
  obtain ⟨ad', e', hb, _⟩ := h.2 hn
  cases e.symm.trans e'
  omega
theorem Bx.call (h : Bx B w1 u D got box full) (j : Nat) (hj : got j = none) (hb : Below u.heap.size u u') {GA OA : Option Addr} {gn gc on oc : Nat} (hc : CAt u' (D j) GA OA gn on)
    (hG : ∀ x, B ≤ x → x < u.heap.size → NotIn GA gn x) (hO : ∀ x, B ≤ x → x < u.heap.size → NotIn OA on x) :
    Bx B w1 u' D (upd got j (some [.int .i64 (D j).inputs, .slice GA gn gc, .slice OA on oc])) box full := by
  have hf : full j = false := by
    cases hh : full j with
    | false => rfl
    | true => have := (h.fullOk j hh).1; rw [hj] at this; cases this
  refine ⟨h.below.trans (hb.mono h.size), Nat.le_trans h.size hb.size, fun i l hl => ?_, fun i x hx => ?_, h.inj, fun i hi => ⟨?_, (h.fullOk i hi).2⟩⟩
  rotate_left 2
  · by_cases e : i = j
    · subst e; rw [upd_same]; rfl
    · rw [upd_ne _ _ e]; exact (h.fullOk i hi).1
  · by_cases e : i = j
    · subst e
      rw [upd_same] at hl
      cases hl
      refine ⟨GA, OA, gn, gc, on, oc, rfl, hc, fun i x hx => ?_⟩
      obtain ⟨h1, l, h2, _⟩ := h.boxOk i x hx
      exact ⟨hG x h1 h2.lt, hO x h1 h2.lt⟩
    · rw [upd_ne _ _ e] at hl
      obtain ⟨a, b, c, d, e, f, h1, h2, h3⟩ := h.gotOk i l hl
      exact ⟨a, b, c, d, e, f, h1, h2.up hb, h3⟩
  · obtain ⟨h1, l, h2, h3, h4⟩ := h.boxOk i x hx
    refine ⟨h1, l, rowCells h2 hb, h3, fun hi => ?_⟩
    by_cases e : i = j
    · subst e; rw [hf] at hi; cases hi
    · rw [upd_ne _ _ e]; exact h4 hi
theorem Bx.alloc (h : Bx B w1 u D got box full) (j : Nat) (hj : box j = none) : Bx B w1 (u.alloc (.cells zeroCs.toArray 25)) D got (upd box j (some u.heap.size)) full := by
  have hb : Below u.heap.size u (u.alloc (.cells zeroCs.toArray 25)) := (Below.refl _ _).alloc (Nat.le_refl _) _
  have hf : full j = false := by
    cases hh : full j with
    | false => rfl
    | true => have := (h.fullOk j hh).2; rw [hj] at this; cases this
  refine ⟨h.below.trans (hb.mono h.size), Nat.le_trans h.size hb.size, fun i l hl => ?_, fun i x hx => ?_, fun i k x hi hk => ?_, fun i hi => ⟨(h.fullOk i hi).1, ?_⟩⟩
  rotate_left 3
  · by_cases e : i = j
    · subst e; rw [upd_same]; rfl
    · rw [upd_ne _ _ e]; exact (h.fullOk i hi).2
  · obtain ⟨a, b, c, d, e, f, h1, h2, h3⟩ := h.gotOk i l hl
    refine ⟨a, b, c, d, e, f, h1, h2.up hb, fun k x hx => ?_⟩
    by_cases e : k = j
    · subst e
      rw [upd_same] at hx
      cases hx
      exact ⟨h2.gates.notIn, h2.outs.notIn⟩
    · rw [upd_ne _ _ e] at hx
      exact h3 k x hx
  · by_cases e : i = j
    · subst e
      rw [upd_same] at hx
      cases hx
      exact ⟨h.size, zeroCs, Row.new _ _ _, fun _ => rfl, fun hi => by rw [hf] at hi; cases hi⟩
    · rw [upd_ne _ _ e] at hx
      obtain ⟨h1, l, h2, h3⟩ := h.boxOk i x hx
      exact ⟨h1, l, h2.alloc _, h3⟩
  · have hlt : ∀ i x, box i = some x → x < u.heap.size := fun i x hx => by obtain ⟨_, l, h2, _⟩ := h.boxOk i x hx; exact h2.lt
    by_cases e : i = j
    · by_cases e' : k = j
      · omega
      · subst e
        rw [upd_same] at hi
        rw [upd_ne _ _ e'] at hk
        cases hi
        exact absurd (hlt k _ hk) (Nat.lt_irrefl _)
    · rw [upd_ne _ _ e] at hi
      by_cases e' : k = j
      · subst e'
        rw [upd_same] at hk
        cases hk
        exact absurd (hlt i _ hi) (Nat.lt_irrefl _)
      · rw [upd_ne _ _ e'] at hk
        exact h.inj i k x hi hk
theorem Bx.set1 (h : Bx B w1 u D got box full) {x : Nat} {j : Nat} (hx : box j = some x) (p : Addr) (hp : p.block = x) (v : Value) :
    Below B w1 (u.setCell p v) ∧ (∀ i l, got i = some l → ∃ GA OA gn gc on oc, l = [.int .i64 (D i).inputs, .slice GA gn gc, .slice OA on oc] ∧ CAt (u.setCell p v) (D i) GA OA gn on ∧ ∀ i x, box i = some x → NotIn GA gn x ∧ NotIn OA on x)
      ∧ (∀ i y, box i = some y → i ≠ j → B ≤ y ∧ ∃ l, Row (u.setCell p v) y 25 l ∧ (full i = false → l = zeroCs) ∧ (full i = true → got i = some l)) := by
  obtain ⟨hB, _⟩ := h.boxOk j x hx
  refine ⟨h.below.setCell (by omega) _, fun i l hl => ?_, fun i y hy hne => ?_⟩
  · obtain ⟨a, b, c, d, e, f, h1, h2, h3⟩ := h.gotOk i l hl
    exact ⟨a, b, c, d, e, f, h1, h2.farSet (by rw [hp]; exact (h3 j x hx).1) (by rw [hp]; exact (h3 j x hx).2) v, h3⟩
  · obtain ⟨h1, l, h2, h3⟩ := h.boxOk i y hy
    exact ⟨h1, l, h2.far (by rw [hp]; intro e; subst e; exact hne (h.inj i j y hy hx)) v, h3⟩
theorem Bx.store (h : Bx B w1 u D got box full) (j : Nat) {x : Nat} {l0 l1 l2 : Value} (hx : box j = some x) (hg : got j = some [l0, l1, l2]) (hf : full j = false) :
    Bx B w1 (((u.setCell ⟨x, 0, none⟩ l0).setCell ⟨x, 1, none⟩ l1).setCell ⟨x, 2, none⟩ l2) D got box (upd full j true) := by
  obtain ⟨hB, l, hrow, hz, _⟩ := h.boxOk j x hx
  have hz := hz hf
  subst hz
  have hgot : ∀ (v : Value) (k : Nat) (u : World), (∀ i l, got i = some l → ∃ GA OA gn gc on oc, l = [.int .i64 (D i).inputs, .slice GA gn gc, .slice OA on oc] ∧ CAt u (D i) GA OA gn on ∧ ∀ i x, box i = some x → NotIn GA gn x ∧ NotIn OA on x) →
      (∀ i l, got i = some l → ∃ GA OA gn gc on oc, l = [.int .i64 (D i).inputs, .slice GA gn gc, .slice OA on oc] ∧ CAt (u.setCell ⟨x, k, none⟩ v) (D i) GA OA gn on ∧ ∀ i x, box i = some x → NotIn GA gn x ∧ NotIn OA on x) := fun v k u H i l hl => by
    obtain ⟨a, b, c, d, e, f, h1, h2, h3⟩ := H i l hl
    exact ⟨a, b, c, d, e, f, h1, h2.farSet (p := ⟨x, k, none⟩) (h3 j x hx).1 (h3 j x hx).2 v, h3⟩
  refine ⟨((h.below.setCell (p := ⟨x, 0, none⟩) hB _).setCell (p := ⟨x, 1, none⟩) hB _).setCell (p := ⟨x, 2, none⟩) hB _, by simp only [World.size_setCell]; exact h.size, hgot _ 2 _ (hgot _ 1 _ (hgot _ 0 _ h.gotOk)), fun i y hy => ?_, h.inj, fun i hi => ?_⟩
  rotate_left 1
  · by_cases e : i = j
    · subst e; exact ⟨by rw [hg]; rfl, by rw [hx]; rfl⟩
    · rw [upd_ne _ _ e] at hi; exact h.fullOk i hi
  by_cases e : i = j
  · subst e
    obtain rfl : x = y := Option.some.inj (hx.symm.trans hy)
    refine ⟨hB, [l0, l1, l2], ((hrow.set 0 l0).set 1 l1).set 2 l2, fun hi => (by rw [upd_same] at hi; cases hi), fun _ => hg⟩
  · obtain ⟨h1, l, h2, h3⟩ := h.boxOk i y hy
    have hne : y ≠ x := fun e2 => by subst e2; exact e (h.inj i j y hy hx)
    refine ⟨h1, l, ((h2.far (p := ⟨x, 0, none⟩) hne _).far (p := ⟨x, 1, none⟩) hne _).far (p := ⟨x, 2, none⟩) hne _, ?_⟩
    rw [upd_ne _ _ e]; exact h3
theorem OldNew.sep {A GA : Option Addr} {n gn lo B : Nat} (h : OldNew A n GA gn lo) (hold : ∀ x, B ≤ x → NotIn GA gn x) : ∀ x, B ≤ x → x < lo → NotIn A n x := fun x h1 h2 ad ea hn => by
  rcases h ad ea hn with ⟨ad2, e2, hn2, e3⟩ | h3
  · rw [← e3]; exact hold x h1 ad2 e2 hn2
  · omega
end
end Go.Proofs.Ytamijjpnklbgnaa

/-
  The law: Trim does not change its own result, and no step changes that of All; walked.
-/
namespace Go.Proofs.Ytamijjpnklbgnaa
open Go.RowKit
set_option linter.unusedSimpArgs false
set_option linter.unusedVariables false
set_option maxRecDepth 100000 in
set_option maxHeartbeats 8000000 in
theorem lawFixed_any (c : Circ) (GA OA : Option Addr) (gn gc on oc : Nat) (w : World) (hc : CAt w c GA OA gn on) :
    Calls Try.prog 5 #[.agg #[.int .i64 c.inputs, .slice GA gn gc, .slice OA on oc]] w fun e w' => e = .returned (.bool true) ∧ Below w.heap.size w w' := by
  have HC0 : Hid (CAt w c GA OA gn on) := hc
  have HF1 : gn ≤ maxLen := hc.g63
  have HF2 : on ≤ maxLen := hc.o63
  obtain ⟨qf, hqf⟩ : ∃ q, fewB c gn on = q := ⟨_, rfl⟩
  have HFEW : Hid (∀ _ : Unit, fewB c gn on = qf) := fun _ => hqf
  clear hc hqf
  go_enter Try.func5, Try.ntmps5
  go_upto_region 1 with fail
  have RC : Hid (Row (World.alloc w (.cells #[.int .i64 c.inputs, .slice GA gn gc, .slice OA on oc] 25)) (w.heap.size) 25 [.int .i64 c.inputs, .slice GA gn gc, .slice OA on oc]) := by
    have h0 := Row.new w 25 [.int .i64 c.inputs, .slice GA gn gc, .slice OA on oc]
    try simp only [World.size_alloc] at h0
    exact h0
  have hgr9 : Below w.heap.size w (World.alloc w (.cells #[.int .i64 c.inputs, .slice GA gn gc, .slice OA on oc] 25)) := by go_grown
  have B_w : Hid (Below w.heap.size w (World.alloc w (.cells #[.int .i64 c.inputs, .slice GA gn gc, .slice OA on oc] 25))) := hgr9
  clear hgr9
  revert RC B_w
  generalize (World.alloc w (.cells #[.int .i64 c.inputs, .slice GA gn gc, .slice OA on oc] 25)) = wa
  intro RC B_w
  have kR : Hid (Row wa (w.heap.size) 25 [.int .i64 c.inputs, .slice GA gn gc, .slice OA on oc]) := RC.out
  have k0 := kR.out.cell 0
  have k1 := kR.out.cell 1
  have k2 := kR.out.cell 2
  have kl := kR.out.lt
  simp only [List.getElem?_cons_zero, List.getElem?_cons_succ] at k0 k1 k2
  clear kR
  go_wp2_with fail
  have HC := fewZ_any c GA OA gn gc on oc wa HF1 HF2
  rw [HFEW.out ()] at HC
  refine HC.mono ?_
  clear HC
  rintro e w1 ⟨rfl, hb⟩
  have B_w : Hid (Below w.heap.size w w1) := below_on2 B_w.out hb
  have B_wa : Hid (Below wa.heap.size wa w1) := hb
  clear k0 k1 k2 kl
  clear hb
  cases qf
  · go_wp2_with fail
    refine (awake_any w1).mono ?_
    rintro e y1 ⟨rfl, hb⟩
    have B_w : Hid (Below w.heap.size w y1) := below_on2 B_w.out hb
    have B_wa : Hid (Below wa.heap.size wa y1) := below_on2 B_wa.out hb
    have B_w1 : Hid (Below w1.heap.size w1 y1) := hb
    clear hb
    go_wp2_with fail
    go_ret
    exact ⟨rfl, B_w.out⟩
  have kR : Hid (Row w1 (w.heap.size) 25 [.int .i64 c.inputs, .slice GA gn gc, .slice OA on oc]) := (rowCells RC.out B_wa.out)
  have k0 := kR.out.cell 0
  have k1 := kR.out.cell 1
  have k2 := kR.out.cell 2
  have kl := kR.out.lt
  simp only [List.getElem?_cons_zero, List.getElem?_cons_succ] at k0 k1 k2
  clear kR
  go_wp2_with fail
  obtain ⟨q, hq⟩ : ∃ q, rightC c = q := ⟨_, rfl⟩
  have HQ : Hid (∀ _ : Unit, rightC c = q) := fun _ => hq
  have HC := rRightZ_at c GA OA gn gc on oc w1 (HC0.out.up B_w.out)
  rw [hq] at HC
  clear hq
  refine HC.mono ?_
  clear HC
  rintro e w2 ⟨rfl, hb⟩
  have B_w : Hid (Below w.heap.size w w2) := below_on2 B_w.out hb
  have B_wa : Hid (Below wa.heap.size wa w2) := below_on2 B_wa.out hb
  have B_w1 : Hid (Below w1.heap.size w1 w2) := hb
  clear k0 k1 k2 kl
  clear hb
  cases q
  · go_wp2_with fail
    refine (awake_any w2).mono ?_
    rintro e y1 ⟨rfl, hb⟩
    have B_w : Hid (Below w.heap.size w y1) := below_on2 B_w.out hb
    have B_wa : Hid (Below wa.heap.size wa y1) := below_on2 B_wa.out hb
    have B_w1 : Hid (Below w1.heap.size w1 y1) := below_on2 B_w1.out hb
    have B_w2 : Hid (Below w2.heap.size w2 y1) := hb
    clear hb
    go_wp2_with fail
    go_ret
    exact ⟨rfl, B_w.out⟩
  have HR : Hid (rightC c = true) := HQ.out ()
  clear HQ
  go_wp2_with fail
  have RC2 : Hid (Row w2 w.heap.size 25 [.int .i64 c.inputs, .slice GA gn gc, .slice OA on oc]) := rowCells RC.out B_wa.out
  have HN1 : Hid (∀ x, w2.heap.size ≤ x → NotIn GA gn x) := fun x hx => HC0.out.gates.low (Nat.le_trans B_w.out.size hx)
  have HN2 : Hid (∀ x, w2.heap.size ≤ x → NotIn OA on x) := fun x hx => HC0.out.outs.low (Nat.le_trans B_w.out.size hx)
  have HFX : Hid (FixC (allC c)) := all_fix HR.out
  have HRA : Hid (rightC (allC c) = true) := all_right HR.out
  have HTT : Hid (trimC (trimC c) = trimC c) := trim_trim HR.out
  have hu : undef = Value.tuple #[] := rfl
  refine wp_region_inv (fun b cc u => ∃ (got : Nat → Option (List Value)) (box : Nat → Option Nat) (full : Nat → Bool) (v14 v16 v15 v17 v3 v4 : Value), Bx w2.heap.size w2 u (fun j => if j = 0 then trimC c else if j = 1 then allC c else c) got box full ∧ ((got 0).isSome = b 1) ∧ ((got 1).isSome = b 3) ∧ ((box 0).isSome = b 4) ∧ ((box 1).isSome = b 5) ∧ (full 0 = b 6) ∧ (full 1 = b 7) ∧ (b 0 = true → v14 = .agg #[.int .i64 c.inputs, .slice GA gn gc, .slice OA on oc]) ∧ (b 2 = true → v16 = .agg #[.int .i64 c.inputs, .slice GA gn gc, .slice OA on oc]) ∧ (∀ l, got 0 = some l → v15 = .agg l.toArray) ∧ (∀ l, got 1 = some l → v17 = .agg l.toArray) ∧ (∀ x, box 0 = some x → v3 = .pointer (some ⟨x, 0, none⟩)) ∧ (∀ x, box 1 = some x → v4 = .pointer (some ⟨x, 0, none⟩)) ∧ cc = { tmps := #[.agg #[.int .i64 c.inputs, .slice GA gn gc, .slice OA on oc], .pointer (some ⟨w.heap.size, 0, none⟩), .bool false, v3, v4, .agg #[.int .i64 c.inputs, .slice GA gn gc, .slice OA on oc], .bool true, .bool false, .bool false, .agg #[.int .i64 c.inputs, .slice GA gn gc, .slice OA on oc], .bool true, .bool false, .bool false, undef, v14, v15, v16, v17, undef, undef, undef, undef, undef, undef, undef, undef, undef, undef, undef, undef, undef, undef, undef, undef, undef, undef, undef, undef, undef, undef, undef, undef, undef, undef, undef, undef, undef, undef, undef], defers := [] }) (by kernel_rfl) (by kernel_rfl) ?start ?step ?fin
  case start =>
    exact ⟨fun _ => none, fun _ => none, fun _ => false, undef, undef, undef, undef, undef, undef, Bx.start (Below.refl _ _).drew (Nat.le_refl _), rfl, rfl, rfl, rfl, rfl, rfl, fun h => (by cases h), fun h => (by cases h), fun _ h => (by cases h), fun _ h => (by cases h), fun _ h => (by cases h), fun _ h => (by cases h), rfl⟩
  case step =>
    intro b cc u i o ho hbi hpre hI K9 hK9
    obtain ⟨got, box, full, v14, v16, v15, v17, v3, v4, HBx, hg0, hg1, hx0, hx1, hf0, hf1, hl0, hl1, hv0, hv1, hp0, hp1, rfl⟩ := hI
    have hi : i < 8 := (Array.getElem?_eq_some_iff.1 ho).1
    have HK : Hid (∀ c2 u2, _ → K9 c2 u2) := hK9
    clear hK9
    have hB : Below w2.heap.size w2 u := HBx.below
    have hs0 : w2.heap.size ≤ u.heap.size := HBx.size
    have HBx : Hid (Bx _ _ _ _ _ _ _) := HBx
    obtain rfl | rfl | rfl | rfl | rfl | rfl | rfl | rfl : i = 0 ∨ i = 1 ∨ i = 2 ∨ i = 3 ∨ i = 4 ∨ i = 5 ∨ i = 6 ∨ i = 7 := by omega
    · obtain rfl := Option.some.inj ho
      have RCu : Hid (Row u w.heap.size 25 [.int .i64 c.inputs, .slice GA gn gc, .slice OA on oc]) := (RC2.out).below hB (RC2.out).lt
      have k0 := RCu.out.cell 0
      have k1 := RCu.out.cell 1
      have k2 := RCu.out.cell 2
      have kl := RCu.out.lt
      simp only [List.getElem?_cons_zero, List.getElem?_cons_succ] at k0 k1 k2
      clear RCu
      go_simp
      exact HK.out _ _ ⟨got, box, full, .agg #[.int .i64 c.inputs, .slice GA gn gc, .slice OA on oc], v16, v15, v17, v3, v4, HBx.out, hg0, hg1, hx0, hx1, hf0, hf1, fun _ => rfl, hl1, hv0, hv1, hp0, hp1, rfl⟩
    · obtain rfl := Option.some.inj ho
      have p0 := hl0 (hpre ⟨0, .data⟩ (by simp) rfl)
      subst p0
      have hgn : got 0 = none := Option.not_isSome_iff_eq_none.1 (by rw [hg0, hbi]; decide)
      go_simp
      go_at_call 16
      have HCc : CAt u c GA OA gn on := (HC0.out).up (below_on2 B_w.out hB)
      have HC := trim_any c GA OA gn gc on oc u HCc
      refine HC.mono ?_
      clear HC
      rintro e u2 ⟨A1, A2, n1, c1, n2, c2, he, hca, hfa, hfb, hb⟩
      have he2 : e = .returned (.agg #[.int .i64 (trimC c).inputs, .slice A1 n1 c1, .slice A2 n2 c2]) := he
      subst he2
      clear he
      try go_simp
      have HBn : Bx _ _ _ _ _ _ _ := HBx.out.call 0 hgn (gc := c1) (oc := c2) hb hca (fun x h1 h2 => hfa.ne h2) (fun x h1 h2 => hfb.ne h2)
      exact HK.out _ _ ⟨(upd got 0 (some [.int .i64 (trimC c).inputs, .slice A1 n1 c1, .slice A2 n2 c2])), box, full, .agg #[.int .i64 c.inputs, .slice GA gn gc, .slice OA on oc], v16, .agg #[.int .i64 (trimC c).inputs, .slice A1 n1 c1, .slice A2 n2 c2], v17, v3, v4, HBn, rfl, hg1, hx0, hx1, hf0, hf1, fun _ => rfl, hl1, fun l h => (by cases h; rfl), hv1, hp0, hp1, rfl⟩
    · obtain rfl := Option.some.inj ho
      have RCu : Hid (Row u w.heap.size 25 [.int .i64 c.inputs, .slice GA gn gc, .slice OA on oc]) := (RC2.out).below hB (RC2.out).lt
      have k0 := RCu.out.cell 0
      have k1 := RCu.out.cell 1
      have k2 := RCu.out.cell 2
      have kl := RCu.out.lt
      simp only [List.getElem?_cons_zero, List.getElem?_cons_succ] at k0 k1 k2
      clear RCu
      go_simp
      exact HK.out _ _ ⟨got, box, full, v14, .agg #[.int .i64 c.inputs, .slice GA gn gc, .slice OA on oc], v15, v17, v3, v4, HBx.out, hg0, hg1, hx0, hx1, hf0, hf1, hl0, fun _ => rfl, hv0, hv1, hp0, hp1, rfl⟩
    · obtain rfl := Option.some.inj ho
      have p0 := hl1 (hpre ⟨2, .data⟩ (by simp) rfl)
      subst p0
      have hgn : got 1 = none := Option.not_isSome_iff_eq_none.1 (by rw [hg1, hbi]; decide)
      go_simp
      go_at_call 18
      have HCc : CAt u c GA OA gn on := (HC0.out).up (below_on2 B_w.out hB)
      have HC := allF_any c GA OA gn gc on oc u HCc
      refine HC.mono ?_
      clear HC
      rintro e u2 ⟨A1, A2, n1, c1, n2, c2, he, hca, hfa, hfb, hb⟩
      have he2 : e = .returned (.agg #[.int .i64 (allC c).inputs, .slice A1 n1 c1, .slice A2 n2 c2]) := he
      subst he2
      clear he
      try go_simp
      have HBn : Bx _ _ _ _ _ _ _ := HBx.out.call 1 hgn (gc := c1) (oc := c2) hb hca (hfa.sep HN1.out) (hfb.sep HN2.out)
      exact HK.out _ _ ⟨(upd got 1 (some [.int .i64 (allC c).inputs, .slice A1 n1 c1, .slice A2 n2 c2])), box, full, v14, .agg #[.int .i64 c.inputs, .slice GA gn gc, .slice OA on oc], v15, .agg #[.int .i64 (allC c).inputs, .slice A1 n1 c1, .slice A2 n2 c2], v3, v4, HBn, hg0, rfl, hx0, hx1, hf0, hf1, hl0, fun _ => rfl, hv0, fun l h => (by cases h; rfl), hp0, hp1, rfl⟩
    · obtain rfl := Option.some.inj ho
      have hxn : box 0 = none := Option.not_isSome_iff_eq_none.1 (by rw [hx0, hbi]; decide)
      go_simp
      exact HK.out _ _ ⟨got, (upd box 0 (some u.heap.size)), full, v14, v16, v15, v17, .pointer (some ⟨u.heap.size, 0, none⟩), v4, HBx.out.alloc 0 hxn, hg0, hg1, rfl, hx1, hf0, hf1, hl0, hl1, hv0, hv1, fun x h => (by cases h; rfl), hp1, rfl⟩
    · obtain rfl := Option.some.inj ho
      have hxn : box 1 = none := Option.not_isSome_iff_eq_none.1 (by rw [hx1, hbi]; decide)
      go_simp
      exact HK.out _ _ ⟨got, (upd box 1 (some u.heap.size)), full, v14, v16, v15, v17, v3, .pointer (some ⟨u.heap.size, 0, none⟩), HBx.out.alloc 1 hxn, hg0, hg1, hx0, rfl, hf0, hf1, hl0, hl1, hv0, hv1, hp0, fun x h => (by cases h; rfl), rfl⟩
    · obtain rfl := Option.some.inj ho
      obtain ⟨l, hl⟩ := Option.isSome_iff_exists.1 (hg0.trans (hpre ⟨1, .data⟩ (by simp) rfl))
      obtain ⟨x, hx⟩ := Option.isSome_iff_exists.1 (hx0.trans (hpre ⟨4, .data⟩ (by simp) rfl))
      have hfn : full 0 = false := hf0.trans hbi
      have p1 := hv0 l hl
      have p2 := hp0 x hx
      subst p1 p2
      obtain ⟨A1, A2, n1, c1, n2, c2, rfl, hca, hsep⟩ := HBx.out.gotOk 0 l hl
      obtain ⟨hBx, lz, hrow, hz, -⟩ := HBx.out.boxOk 0 x hx
      have hz := hz hfn
      subst hz
      have RZ : Hid (Row u x 25 [.int .i64 0, .slice none 0 0, .slice none 0 0]) := hrow
      have z0 := RZ.out.cell 0
      have z1 := RZ.out.cell 1
      have z2 := RZ.out.cell 2
      have zl := RZ.out.lt
      simp only [List.getElem?_cons_zero, List.getElem?_cons_succ] at z0 z1 z2
      have zf0 := RZ.out.frozen 0
      have zf1 := RZ.out.frozen 1
      have zf2 := RZ.out.frozen 2
      clear hca hsep hrow
      go_simp
      exact HK.out _ _ ⟨got, box, (upd full 0 true), v14, v16, .agg #[.int .i64 _, .slice A1 n1 c1, .slice A2 n2 c2], v17, .pointer (some ⟨x, 0, none⟩), v4, HBx.out.store 0 hx hl hfn, hg0, hg1, hx0, hx1, rfl, hf1, hl0, hl1, hv0, hv1, hp0, hp1, rfl⟩
    · obtain rfl := Option.some.inj ho
      obtain ⟨l, hl⟩ := Option.isSome_iff_exists.1 (hg1.trans (hpre ⟨3, .data⟩ (by simp) rfl))
      obtain ⟨x, hx⟩ := Option.isSome_iff_exists.1 (hx1.trans (hpre ⟨5, .data⟩ (by simp) rfl))
      have hfn : full 1 = false := hf1.trans hbi
      have p1 := hv1 l hl
      have p2 := hp1 x hx
      subst p1 p2
      obtain ⟨A1, A2, n1, c1, n2, c2, rfl, hca, hsep⟩ := HBx.out.gotOk 1 l hl
      obtain ⟨hBx, lz, hrow, hz, -⟩ := HBx.out.boxOk 1 x hx
      have hz := hz hfn
      subst hz
      have RZ : Hid (Row u x 25 [.int .i64 0, .slice none 0 0, .slice none 0 0]) := hrow
      have z0 := RZ.out.cell 0
      have z1 := RZ.out.cell 1
      have z2 := RZ.out.cell 2
      have zl := RZ.out.lt
      simp only [List.getElem?_cons_zero, List.getElem?_cons_succ] at z0 z1 z2
      have zf0 := RZ.out.frozen 0
      have zf1 := RZ.out.frozen 1
      have zf2 := RZ.out.frozen 2
      clear hca hsep hrow
      go_simp
      exact HK.out _ _ ⟨got, box, (upd full 1 true), v14, v16, v15, .agg #[.int .i64 _, .slice A1 n1 c1, .slice A2 n2 c2], v3, .pointer (some ⟨x, 0, none⟩), HBx.out.store 1 hx hl hfn, hg0, hg1, hx0, hx1, hf0, rfl, hl0, hl1, hv0, hv1, hp0, hp1, rfl⟩
  case fin =>
    intro b cc u hall hI
    obtain ⟨got, box, full, v14, v16, v15, v17, v3, v4, HBx, hg0, hg1, hx0, hx1, hf0, hf1, hl0, hl1, hv0, hv1, hp0, hp1, rfl⟩ := hI
    obtain ⟨l0, hgl0⟩ := Option.isSome_iff_exists.1 (hg0.trans (hall 1 (by decide)))
    obtain ⟨x0, hxl0⟩ := Option.isSome_iff_exists.1 (hx0.trans (hall 4 (by decide)))
    have p0 := hl0 (hall 0 (by decide))
    have p2 := hp0 _ hxl0
    obtain ⟨A0, E0, n0, c0, m0, e0, rfl, hca, -⟩ := HBx.gotOk 0 _ hgl0
    have p1 : v15 = .agg #[.int .i64 (trimC c).inputs, .slice A0 n0 c0, .slice E0 m0 e0] := hv0 _ hgl0
    subst p0 p1 p2
    obtain ⟨-, lr, hr, -, hlr⟩ := HBx.boxOk 0 x0 hxl0
    have hlr := Option.some.inj (hgl0.symm.trans (hlr (hf0.trans (hall 6 (by decide)))))
    subst hlr
    have HA0 : Hid (CAt u (trimC c) A0 E0 n0 m0) := hca
    have RX0 : Hid (Row u x0 25 [.int .i64 (trimC c).inputs, .slice A0 n0 c0, .slice E0 m0 e0]) := hr
    clear hca hr hlr
    obtain ⟨l1, hgl1⟩ := Option.isSome_iff_exists.1 (hg1.trans (hall 3 (by decide)))
    obtain ⟨x1, hxl1⟩ := Option.isSome_iff_exists.1 (hx1.trans (hall 5 (by decide)))
    have p0 := hl1 (hall 2 (by decide))
    have p2 := hp1 _ hxl1
    obtain ⟨A1, E1, n1, c1, m1, e1, rfl, hca, -⟩ := HBx.gotOk 1 _ hgl1
    have p1 : v17 = .agg #[.int .i64 (allC c).inputs, .slice A1 n1 c1, .slice E1 m1 e1] := hv1 _ hgl1
    subst p0 p1 p2
    obtain ⟨-, lr, hr, -, hlr⟩ := HBx.boxOk 1 x1 hxl1
    have hlr := Option.some.inj (hgl1.symm.trans (hlr (hf1.trans (hall 7 (by decide)))))
    subst hlr
    have HA1 : Hid (CAt u (allC c) A1 E1 n1 m1) := hca
    have RX1 : Hid (Row u x1 25 [.int .i64 (allC c).inputs, .slice A1 n1 c1, .slice E1 m1 e1]) := hr
    clear hca hr hlr
    have HBu : Hid (Below w2.heap.size w2 u) := HBx.below
    clear HBx hg0 hg1 hx0 hx1 hf0 hf1 hl0 hl1 hv0 hv1 hp0 hp1 hall hgl0 hxl0 hgl1 hxl1
    have hb := HBu.out
    have B_w : Hid (Below w.heap.size w u) := below_on2 B_w.out hb
    have B_wa : Hid (Below wa.heap.size wa u) := below_on2 B_wa.out hb
    have B_w1 : Hid (Below w1.heap.size w1 u) := below_on2 B_w1.out hb
    have B_w2 : Hid (Below w2.heap.size w2 u) := hb
    clear hb
    go_wp2_with fail
    refine wp_region_L (fun w' => Row w' (x0) 25 [.int .i64 (trimC c).inputs, .slice A0 n0 c0, .slice E0 m0 e0] ∧ Row w' (x1) 25 [.int .i64 (allC c).inputs, .slice A1 n1 c1, .slice E1 m1 e1]) [] (by kernel_rfl) (by exact ⟨Row.drew RX0.out, Row.drew RX1.out⟩) (fun hHeld => ?_)
    have B_w : Hid (Below w.heap.size w (World.drew u)) := B_w.out.drew
    have B_wa : Hid (Below wa.heap.size wa (World.drew u)) := B_wa.out.drew
    have B_w1 : Hid (Below w1.heap.size w1 (World.drew u)) := B_w1.out.drew
    have B_w2 : Hid (Below w2.heap.size w2 (World.drew u)) := B_w2.out.drew
    have B_u : Hid (Below u.heap.size u (World.drew u)) := (Below.refl _ _).drew
    revert hHeld B_w B_wa B_w1 B_w2 B_u
    generalize World.drew u = uq
    intro hHeld B_w B_wa B_w1 B_w2 B_u
    refine restL_take (i := 0) (v := ?vb1) [] rfl (by kernel_rfl) (by kernel_rfl) (by kernel_rfl) (by kernel_rfl) (fun _ _ _ h => h) (Or.inl ⟨by rfl, ?yb1⟩) hHeld ?rb1
    case yb1 =>
      intro w' hSw
      obtain ⟨s0, s1⟩ := hSw
      have hT0 : Hid (Row w' (x0) 25 [.int .i64 (trimC c).inputs, .slice A0 n0 c0, .slice E0 m0 e0]) := s0
      have z0_0 := hT0.out.cell 0
      have z0_1 := hT0.out.cell 1
      have z0_2 := hT0.out.cell 2
      have z0_l := hT0.out.lt
      simp only [List.getElem?_cons_zero, List.getElem?_cons_succ] at z0_0 z0_1 z0_2
      have hT1 : Hid (Row w' (x1) 25 [.int .i64 (allC c).inputs, .slice A1 n1 c1, .slice E1 m1 e1]) := s1
      have z1_0 := hT1.out.cell 0
      have z1_1 := hT1.out.cell 1
      have z1_2 := hT1.out.cell 2
      have z1_l := hT1.out.lt
      simp only [List.getElem?_cons_zero, List.getElem?_cons_succ] at z1_0 z1_1 z1_2
      clear s0 s1
      go_simp
      try (with_reducible rfl)
    go_simp
    refine restL_take (i := 2) (v := ?vb2) [] rfl (by kernel_rfl) (by kernel_rfl) (by kernel_rfl) (by kernel_rfl) (fun _ _ _ h => h) (Or.inl ⟨by rfl, ?yb2⟩) hHeld ?rb2
    case yb2 =>
      intro w' hSw
      obtain ⟨s0, s1⟩ := hSw
      have hT0 : Hid (Row w' (x0) 25 [.int .i64 (trimC c).inputs, .slice A0 n0 c0, .slice E0 m0 e0]) := s0
      have z0_0 := hT0.out.cell 0
      have z0_1 := hT0.out.cell 1
      have z0_2 := hT0.out.cell 2
      have z0_l := hT0.out.lt
      simp only [List.getElem?_cons_zero, List.getElem?_cons_succ] at z0_0 z0_1 z0_2
      have hT1 : Hid (Row w' (x1) 25 [.int .i64 (allC c).inputs, .slice A1 n1 c1, .slice E1 m1 e1]) := s1
      have z1_0 := hT1.out.cell 0
      have z1_1 := hT1.out.cell 1
      have z1_2 := hT1.out.cell 2
      have z1_l := hT1.out.lt
      simp only [List.getElem?_cons_zero, List.getElem?_cons_succ] at z1_0 z1_1 z1_2
      clear s0 s1
      go_simp
      try (with_reducible rfl)
    go_simp
    refine restL_one (i := 1) (by kernel_rfl) rfl (fun K hK => ?_)
    go_simp
    go_at_call 16
    have HC := trim_any (trimC c) A0 E0 n0 c0 m0 e0 uq (HA0.out.up B_u.out)
    refine HC.mono ?_
    clear HC
    rintro e y1 ⟨TaA, TaB, Tan, Tac, Tam, Tad, he, hca, -, -, hb⟩
    have he2 : e = .returned (.agg #[.int .i64 (trimC (trimC c)).inputs, .slice TaA Tan Tac, .slice TaB Tam Tad]) := he
    subst he2
    have HTa : Hid (CAt y1 (trimC (trimC c)) TaA TaB Tan Tam) := hca
    clear he hca hHeld
    have B_w : Hid (Below w.heap.size w y1) := below_on2 B_w.out hb
    have B_wa : Hid (Below wa.heap.size wa y1) := below_on2 B_wa.out hb
    have B_w1 : Hid (Below w1.heap.size w1 y1) := below_on2 B_w1.out hb
    have B_w2 : Hid (Below w2.heap.size w2 y1) := below_on2 B_w2.out hb
    have B_u : Hid (Below u.heap.size u y1) := below_on2 B_u.out hb
    have B_uq : Hid (Below uq.heap.size uq y1) := hb
    clear hb
    refine hK.out _ _ (fun _ => ?keep) (fun hHeld => ?_)
    case keep => exact ⟨(rowCells RX0.out B_u.out), (rowCells RX1.out B_u.out)⟩
    have hHeld := hHeld rfl
    clear hK K
    try go_simp
    refine restL_one (i := 3) (by kernel_rfl) rfl (fun K hK => ?_)
    go_simp
    go_at_call 21
    have HC := same_at (trimC (trimC c)) (trimC c) TaA TaB A0 E0 Tan Tac Tam Tad n0 c0 m0 e0 y1 HTa.out (HA0.out.up B_u.out)
    rw [(sameC_iff _ _).2 HTT.out] at HC
    refine HC.mono ?_
    clear HC
    rintro e y2 ⟨rfl, hb⟩
    clear hHeld
    have B_w : Hid (Below w.heap.size w y2) := below_on2 B_w.out hb
    have B_wa : Hid (Below wa.heap.size wa y2) := below_on2 B_wa.out hb
    have B_w1 : Hid (Below w1.heap.size w1 y2) := below_on2 B_w1.out hb
    have B_w2 : Hid (Below w2.heap.size w2 y2) := below_on2 B_w2.out hb
    have B_u : Hid (Below u.heap.size u y2) := below_on2 B_u.out hb
    have B_uq : Hid (Below uq.heap.size uq y2) := below_on2 B_uq.out hb
    have B_y1 : Hid (Below y1.heap.size y1 y2) := hb
    clear hb
    refine hK.out _ _ (fun _ => ?keep) (fun hHeld => ?_)
    case keep => exact ⟨(rowCells RX0.out B_u.out), (rowCells RX1.out B_u.out)⟩
    have hHeld := hHeld rfl
    clear hK K
    try go_simp
    refine restL_pure (i := 4) (v := ?vb3) rfl (by kernel_rfl) (by kernel_rfl) (by kernel_rfl) (fun _ _ _ h => h) (Or.inl ⟨by rfl, ?yb3⟩) ?rb3
    case yb3 => intro w' hSw; clear hSw; go_simp; try (with_reducible rfl)
    go_simp
    refine restL_take (i := 5) (v := ?vb4) [] rfl (by kernel_rfl) (by kernel_rfl) (by kernel_rfl) (by kernel_rfl) (fun _ _ _ h => h) (Or.inl ⟨by first | rfl | (go_simp; done), ?yb4⟩) hHeld ?rb4
    case yb4 =>
      intro w' hSw
      obtain ⟨s0, s1⟩ := hSw
      have hT0 : Hid (Row w' (x0) 25 [.int .i64 (trimC c).inputs, .slice A0 n0 c0, .slice E0 m0 e0]) := s0
      have z0_0 := hT0.out.cell 0
      have z0_1 := hT0.out.cell 1
      have z0_2 := hT0.out.cell 2
      have z0_l := hT0.out.lt
      simp only [List.getElem?_cons_zero, List.getElem?_cons_succ] at z0_0 z0_1 z0_2
      have hT1 : Hid (Row w' (x1) 25 [.int .i64 (allC c).inputs, .slice A1 n1 c1, .slice E1 m1 e1]) := s1
      have z1_0 := hT1.out.cell 0
      have z1_1 := hT1.out.cell 1
      have z1_2 := hT1.out.cell 2
      have z1_l := hT1.out.lt
      simp only [List.getElem?_cons_zero, List.getElem?_cons_succ] at z1_0 z1_1 z1_2
      clear s0 s1
      go_simp
      try (with_reducible rfl)
    go_simp
    refine restL_take (i := 7) (v := ?vb5) [] rfl (by kernel_rfl) (by kernel_rfl) (by kernel_rfl) (by kernel_rfl) (fun _ _ _ h => h) (Or.inl ⟨by first | rfl | (go_simp; done), ?yb5⟩) hHeld ?rb5
    case yb5 =>
      intro w' hSw
      obtain ⟨s0, s1⟩ := hSw
      have hT0 : Hid (Row w' (x0) 25 [.int .i64 (trimC c).inputs, .slice A0 n0 c0, .slice E0 m0 e0]) := s0
      have z0_0 := hT0.out.cell 0
      have z0_1 := hT0.out.cell 1
      have z0_2 := hT0.out.cell 2
      have z0_l := hT0.out.lt
      simp only [List.getElem?_cons_zero, List.getElem?_cons_succ] at z0_0 z0_1 z0_2
      have hT1 : Hid (Row w' (x1) 25 [.int .i64 (allC c).inputs, .slice A1 n1 c1, .slice E1 m1 e1]) := s1
      have z1_0 := hT1.out.cell 0
      have z1_1 := hT1.out.cell 1
      have z1_2 := hT1.out.cell 2
      have z1_l := hT1.out.lt
      simp only [List.getElem?_cons_zero, List.getElem?_cons_succ] at z1_0 z1_1 z1_2
      clear s0 s1
      go_simp
      try (with_reducible rfl)
    go_simp
    refine restL_one (i := 6) (by kernel_rfl) rfl (fun K hK => ?_)
    go_simp
    go_at_call 12
    have HC := fold_any (allC c) A1 E1 n1 c1 m1 e1 y2 (HA1.out.up B_u.out)
    refine HC.mono ?_
    clear HC
    rintro e y3 ⟨FaA, FaB, Fan, Fac, Fam, Fad, he, hca, -, -, hb⟩
    have he2 : e = .returned (.agg #[.int .i64 (foldC (allC c)).inputs, .slice FaA Fan Fac, .slice FaB Fam Fad]) := he
    subst he2
    have HFa : Hid (CAt y3 (foldC (allC c)) FaA FaB Fan Fam) := hca
    clear he hca hHeld
    have B_w : Hid (Below w.heap.size w y3) := below_on2 B_w.out hb
    have B_wa : Hid (Below wa.heap.size wa y3) := below_on2 B_wa.out hb
    have B_w1 : Hid (Below w1.heap.size w1 y3) := below_on2 B_w1.out hb
    have B_w2 : Hid (Below w2.heap.size w2 y3) := below_on2 B_w2.out hb
    have B_u : Hid (Below u.heap.size u y3) := below_on2 B_u.out hb
    have B_uq : Hid (Below uq.heap.size uq y3) := below_on2 B_uq.out hb
    have B_y1 : Hid (Below y1.heap.size y1 y3) := below_on2 B_y1.out hb
    have B_y2 : Hid (Below y2.heap.size y2 y3) := hb
    clear hb
    refine hK.out _ _ (fun _ => ?keep) (fun hHeld => ?_)
    case keep => exact ⟨(rowCells RX0.out B_u.out), (rowCells RX1.out B_u.out)⟩
    have hHeld := hHeld rfl
    clear hK K
    try go_simp
    refine restL_one (i := 8) (by kernel_rfl) rfl (fun K hK => ?_)
    go_simp
    go_at_call 21
    have HC := same_at (foldC (allC c)) (allC c) FaA FaB A1 E1 Fan Fac Fam Fad n1 c1 m1 e1 y3 HFa.out (HA1.out.up B_u.out)
    rw [(sameC_iff _ _).2 HFX.out.fold_eq] at HC
    refine HC.mono ?_
    clear HC
    rintro e y4 ⟨rfl, hb⟩
    clear hHeld
    have B_w : Hid (Below w.heap.size w y4) := below_on2 B_w.out hb
    have B_wa : Hid (Below wa.heap.size wa y4) := below_on2 B_wa.out hb
    have B_w1 : Hid (Below w1.heap.size w1 y4) := below_on2 B_w1.out hb
    have B_w2 : Hid (Below w2.heap.size w2 y4) := below_on2 B_w2.out hb
    have B_u : Hid (Below u.heap.size u y4) := below_on2 B_u.out hb
    have B_uq : Hid (Below uq.heap.size uq y4) := below_on2 B_uq.out hb
    have B_y1 : Hid (Below y1.heap.size y1 y4) := below_on2 B_y1.out hb
    have B_y2 : Hid (Below y2.heap.size y2 y4) := below_on2 B_y2.out hb
    have B_y3 : Hid (Below y3.heap.size y3 y4) := hb
    clear hb
    refine hK.out _ _ (fun _ => ?keep) (fun hHeld => ?_)
    case keep => exact ⟨(rowCells RX0.out B_u.out), (rowCells RX1.out B_u.out)⟩
    have hHeld := hHeld rfl
    clear hK K
    try go_simp
    refine restL_pure (i := 9) (v := ?vb6) rfl (by kernel_rfl) (by kernel_rfl) (by kernel_rfl) (fun _ _ _ h => h) (Or.inl ⟨by rfl, ?yb6⟩) ?rb6
    case yb6 => intro w' hSw; clear hSw; go_simp; try (with_reducible rfl)
    go_simp
    refine restL_pure (i := 10) (v := ?vb7) rfl (by kernel_rfl) (by kernel_rfl) (by kernel_rfl) (fun _ _ _ h => h) (Or.inl ⟨by rfl, ?yb7⟩) ?rb7
    case yb7 => intro w' hSw; clear hSw; go_simp; try (with_reducible rfl)
    go_simp
    refine restL_take (i := 11) (v := ?vb8) [] rfl (by kernel_rfl) (by kernel_rfl) (by kernel_rfl) (by kernel_rfl) (fun _ _ _ h => h) (Or.inl ⟨by first | rfl | (go_simp; done), ?yb8⟩) hHeld ?rb8
    case yb8 =>
      intro w' hSw
      obtain ⟨s0, s1⟩ := hSw
      have hT0 : Hid (Row w' (x0) 25 [.int .i64 (trimC c).inputs, .slice A0 n0 c0, .slice E0 m0 e0]) := s0
      have z0_0 := hT0.out.cell 0
      have z0_1 := hT0.out.cell 1
      have z0_2 := hT0.out.cell 2
      have z0_l := hT0.out.lt
      simp only [List.getElem?_cons_zero, List.getElem?_cons_succ] at z0_0 z0_1 z0_2
      have hT1 : Hid (Row w' (x1) 25 [.int .i64 (allC c).inputs, .slice A1 n1 c1, .slice E1 m1 e1]) := s1
      have z1_0 := hT1.out.cell 0
      have z1_1 := hT1.out.cell 1
      have z1_2 := hT1.out.cell 2
      have z1_l := hT1.out.lt
      simp only [List.getElem?_cons_zero, List.getElem?_cons_succ] at z1_0 z1_1 z1_2
      clear s0 s1
      go_simp
      try (with_reducible rfl)
    go_simp
    refine restL_take (i := 13) (v := ?vb9) [] rfl (by kernel_rfl) (by kernel_rfl) (by kernel_rfl) (by kernel_rfl) (fun _ _ _ h => h) (Or.inl ⟨by first | rfl | (go_simp; done), ?yb9⟩) hHeld ?rb9
    case yb9 =>
      intro w' hSw
      obtain ⟨s0, s1⟩ := hSw
      have hT0 : Hid (Row w' (x0) 25 [.int .i64 (trimC c).inputs, .slice A0 n0 c0, .slice E0 m0 e0]) := s0
      have z0_0 := hT0.out.cell 0
      have z0_1 := hT0.out.cell 1
      have z0_2 := hT0.out.cell 2
      have z0_l := hT0.out.lt
      simp only [List.getElem?_cons_zero, List.getElem?_cons_succ] at z0_0 z0_1 z0_2
      have hT1 : Hid (Row w' (x1) 25 [.int .i64 (allC c).inputs, .slice A1 n1 c1, .slice E1 m1 e1]) := s1
      have z1_0 := hT1.out.cell 0
      have z1_1 := hT1.out.cell 1
      have z1_2 := hT1.out.cell 2
      have z1_l := hT1.out.lt
      simp only [List.getElem?_cons_zero, List.getElem?_cons_succ] at z1_0 z1_1 z1_2
      clear s0 s1
      go_simp
      try (with_reducible rfl)
    go_simp
    refine restL_one (i := 12) (by kernel_rfl) rfl (fun K hK => ?_)
    go_simp
    go_at_call 14
    have HC := share_any (allC c) A1 E1 n1 c1 m1 e1 y4 (HA1.out.up B_u.out)
    refine HC.mono ?_
    clear HC
    rintro e y5 ⟨SaA, SaB, San, Sac, Sam, Sad, he, hca, -, -, hb⟩
    have he2 : e = .returned (.agg #[.int .i64 (shareC (allC c)).inputs, .slice SaA San Sac, .slice SaB Sam Sad]) := he
    subst he2
    have HSa : Hid (CAt y5 (shareC (allC c)) SaA SaB San Sam) := hca
    clear he hca hHeld
    have B_w : Hid (Below w.heap.size w y5) := below_on2 B_w.out hb
    have B_wa : Hid (Below wa.heap.size wa y5) := below_on2 B_wa.out hb
    have B_w1 : Hid (Below w1.heap.size w1 y5) := below_on2 B_w1.out hb
    have B_w2 : Hid (Below w2.heap.size w2 y5) := below_on2 B_w2.out hb
    have B_u : Hid (Below u.heap.size u y5) := below_on2 B_u.out hb
    have B_uq : Hid (Below uq.heap.size uq y5) := below_on2 B_uq.out hb
    have B_y1 : Hid (Below y1.heap.size y1 y5) := below_on2 B_y1.out hb
    have B_y2 : Hid (Below y2.heap.size y2 y5) := below_on2 B_y2.out hb
    have B_y3 : Hid (Below y3.heap.size y3 y5) := below_on2 B_y3.out hb
    have B_y4 : Hid (Below y4.heap.size y4 y5) := hb
    clear hb
    refine hK.out _ _ (fun _ => ?keep) (fun hHeld => ?_)
    case keep => exact ⟨(rowCells RX0.out B_u.out), (rowCells RX1.out B_u.out)⟩
    have hHeld := hHeld rfl
    clear hK K
    try go_simp
    refine restL_one (i := 14) (by kernel_rfl) rfl (fun K hK => ?_)
    go_simp
    go_at_call 21
    have HC := same_at (shareC (allC c)) (allC c) SaA SaB A1 E1 San Sac Sam Sad n1 c1 m1 e1 y5 HSa.out (HA1.out.up B_u.out)
    rw [(sameC_iff _ _).2 HFX.out.share_eq] at HC
    refine HC.mono ?_
    clear HC
    rintro e y6 ⟨rfl, hb⟩
    clear hHeld
    have B_w : Hid (Below w.heap.size w y6) := below_on2 B_w.out hb
    have B_wa : Hid (Below wa.heap.size wa y6) := below_on2 B_wa.out hb
    have B_w1 : Hid (Below w1.heap.size w1 y6) := below_on2 B_w1.out hb
    have B_w2 : Hid (Below w2.heap.size w2 y6) := below_on2 B_w2.out hb
    have B_u : Hid (Below u.heap.size u y6) := below_on2 B_u.out hb
    have B_uq : Hid (Below uq.heap.size uq y6) := below_on2 B_uq.out hb
    have B_y1 : Hid (Below y1.heap.size y1 y6) := below_on2 B_y1.out hb
    have B_y2 : Hid (Below y2.heap.size y2 y6) := below_on2 B_y2.out hb
    have B_y3 : Hid (Below y3.heap.size y3 y6) := below_on2 B_y3.out hb
    have B_y4 : Hid (Below y4.heap.size y4 y6) := below_on2 B_y4.out hb
    have B_y5 : Hid (Below y5.heap.size y5 y6) := hb
    clear hb
    refine hK.out _ _ (fun _ => ?keep) (fun hHeld => ?_)
    case keep => exact ⟨(rowCells RX0.out B_u.out), (rowCells RX1.out B_u.out)⟩
    have hHeld := hHeld rfl
    clear hK K
    try go_simp
    refine restL_pure (i := 15) (v := ?vb10) rfl (by kernel_rfl) (by kernel_rfl) (by kernel_rfl) (fun _ _ _ h => h) (Or.inl ⟨by rfl, ?yb10⟩) ?rb10
    case yb10 => intro w' hSw; clear hSw; go_simp; try (with_reducible rfl)
    go_simp
    refine restL_pure (i := 16) (v := ?vb11) rfl (by kernel_rfl) (by kernel_rfl) (by kernel_rfl) (fun _ _ _ h => h) (Or.inl ⟨by rfl, ?yb11⟩) ?rb11
    case yb11 => intro w' hSw; clear hSw; go_simp; try (with_reducible rfl)
    go_simp
    refine restL_take (i := 17) (v := ?vb12) [] rfl (by kernel_rfl) (by kernel_rfl) (by kernel_rfl) (by kernel_rfl) (fun _ _ _ h => h) (Or.inl ⟨by first | rfl | (go_simp; done), ?yb12⟩) hHeld ?rb12
    case yb12 =>
      intro w' hSw
      obtain ⟨s0, s1⟩ := hSw
      have hT0 : Hid (Row w' (x0) 25 [.int .i64 (trimC c).inputs, .slice A0 n0 c0, .slice E0 m0 e0]) := s0
      have z0_0 := hT0.out.cell 0
      have z0_1 := hT0.out.cell 1
      have z0_2 := hT0.out.cell 2
      have z0_l := hT0.out.lt
      simp only [List.getElem?_cons_zero, List.getElem?_cons_succ] at z0_0 z0_1 z0_2
      have hT1 : Hid (Row w' (x1) 25 [.int .i64 (allC c).inputs, .slice A1 n1 c1, .slice E1 m1 e1]) := s1
      have z1_0 := hT1.out.cell 0
      have z1_1 := hT1.out.cell 1
      have z1_2 := hT1.out.cell 2
      have z1_l := hT1.out.lt
      simp only [List.getElem?_cons_zero, List.getElem?_cons_succ] at z1_0 z1_1 z1_2
      clear s0 s1
      go_simp
      try (with_reducible rfl)
    go_simp
    refine restL_take (i := 19) (v := ?vb13) [] rfl (by kernel_rfl) (by kernel_rfl) (by kernel_rfl) (by kernel_rfl) (fun _ _ _ h => h) (Or.inl ⟨by first | rfl | (go_simp; done), ?yb13⟩) hHeld ?rb13
    case yb13 =>
      intro w' hSw
      obtain ⟨s0, s1⟩ := hSw
      have hT0 : Hid (Row w' (x0) 25 [.int .i64 (trimC c).inputs, .slice A0 n0 c0, .slice E0 m0 e0]) := s0
      have z0_0 := hT0.out.cell 0
      have z0_1 := hT0.out.cell 1
      have z0_2 := hT0.out.cell 2
      have z0_l := hT0.out.lt
      simp only [List.getElem?_cons_zero, List.getElem?_cons_succ] at z0_0 z0_1 z0_2
      have hT1 : Hid (Row w' (x1) 25 [.int .i64 (allC c).inputs, .slice A1 n1 c1, .slice E1 m1 e1]) := s1
      have z1_0 := hT1.out.cell 0
      have z1_1 := hT1.out.cell 1
      have z1_2 := hT1.out.cell 2
      have z1_l := hT1.out.lt
      simp only [List.getElem?_cons_zero, List.getElem?_cons_succ] at z1_0 z1_1 z1_2
      clear s0 s1
      go_simp
      try (with_reducible rfl)
    go_simp
    refine restL_one (i := 18) (by kernel_rfl) rfl (fun K hK => ?_)
    go_simp
    go_at_call 16
    have HC := trim_any (allC c) A1 E1 n1 c1 m1 e1 y6 (HA1.out.up B_u.out)
    refine HC.mono ?_
    clear HC
    rintro e y7 ⟨UaA, UaB, Uan, Uac, Uam, Uad, he, hca, -, -, hb⟩
    have he2 : e = .returned (.agg #[.int .i64 (trimC (allC c)).inputs, .slice UaA Uan Uac, .slice UaB Uam Uad]) := he
    subst he2
    have HUa : Hid (CAt y7 (trimC (allC c)) UaA UaB Uan Uam) := hca
    clear he hca hHeld
    have B_w : Hid (Below w.heap.size w y7) := below_on2 B_w.out hb
    have B_wa : Hid (Below wa.heap.size wa y7) := below_on2 B_wa.out hb
    have B_w1 : Hid (Below w1.heap.size w1 y7) := below_on2 B_w1.out hb
    have B_w2 : Hid (Below w2.heap.size w2 y7) := below_on2 B_w2.out hb
    have B_u : Hid (Below u.heap.size u y7) := below_on2 B_u.out hb
    have B_uq : Hid (Below uq.heap.size uq y7) := below_on2 B_uq.out hb
    have B_y1 : Hid (Below y1.heap.size y1 y7) := below_on2 B_y1.out hb
    have B_y2 : Hid (Below y2.heap.size y2 y7) := below_on2 B_y2.out hb
    have B_y3 : Hid (Below y3.heap.size y3 y7) := below_on2 B_y3.out hb
    have B_y4 : Hid (Below y4.heap.size y4 y7) := below_on2 B_y4.out hb
    have B_y5 : Hid (Below y5.heap.size y5 y7) := below_on2 B_y5.out hb
    have B_y6 : Hid (Below y6.heap.size y6 y7) := hb
    clear hb
    refine hK.out _ _ (fun _ => ?keep) (fun hHeld => ?_)
    case keep => exact ⟨(rowCells RX0.out B_u.out), (rowCells RX1.out B_u.out)⟩
    have hHeld := hHeld rfl
    clear hK K
    try go_simp
    refine restL_one (i := 20) (by kernel_rfl) rfl (fun K hK => ?_)
    go_simp
    go_at_call 21
    have HC := same_at (trimC (allC c)) (allC c) UaA UaB A1 E1 Uan Uac Uam Uad n1 c1 m1 e1 y7 HUa.out (HA1.out.up B_u.out)
    rw [(sameC_iff _ _).2 HFX.out.trim_eq] at HC
    refine HC.mono ?_
    clear HC
    rintro e y8 ⟨rfl, hb⟩
    clear hHeld
    have B_w : Hid (Below w.heap.size w y8) := below_on2 B_w.out hb
    have B_wa : Hid (Below wa.heap.size wa y8) := below_on2 B_wa.out hb
    have B_w1 : Hid (Below w1.heap.size w1 y8) := below_on2 B_w1.out hb
    have B_w2 : Hid (Below w2.heap.size w2 y8) := below_on2 B_w2.out hb
    have B_u : Hid (Below u.heap.size u y8) := below_on2 B_u.out hb
    have B_uq : Hid (Below uq.heap.size uq y8) := below_on2 B_uq.out hb
    have B_y1 : Hid (Below y1.heap.size y1 y8) := below_on2 B_y1.out hb
    have B_y2 : Hid (Below y2.heap.size y2 y8) := below_on2 B_y2.out hb
    have B_y3 : Hid (Below y3.heap.size y3 y8) := below_on2 B_y3.out hb
    have B_y4 : Hid (Below y4.heap.size y4 y8) := below_on2 B_y4.out hb
    have B_y5 : Hid (Below y5.heap.size y5 y8) := below_on2 B_y5.out hb
    have B_y6 : Hid (Below y6.heap.size y6 y8) := below_on2 B_y6.out hb
    have B_y7 : Hid (Below y7.heap.size y7 y8) := hb
    clear hb
    refine hK.out _ _ (fun _ => ?keep) (fun hHeld => ?_)
    case keep => exact ⟨(rowCells RX0.out B_u.out), (rowCells RX1.out B_u.out)⟩
    have hHeld := hHeld rfl
    clear hK K
    try go_simp
    refine restL_pure (i := 21) (v := ?vb14) rfl (by kernel_rfl) (by kernel_rfl) (by kernel_rfl) (fun _ _ _ h => h) (Or.inl ⟨by rfl, ?yb14⟩) ?rb14
    case yb14 => intro w' hSw; clear hSw; go_simp; try (with_reducible rfl)
    go_simp
    refine restL_pure (i := 22) (v := ?vb15) rfl (by kernel_rfl) (by kernel_rfl) (by kernel_rfl) (fun _ _ _ h => h) (Or.inl ⟨by rfl, ?yb15⟩) ?rb15
    case yb15 => intro w' hSw; clear hSw; go_simp; try (with_reducible rfl)
    go_simp
    refine restL_take (i := 23) (v := ?vb16) [] rfl (by kernel_rfl) (by kernel_rfl) (by kernel_rfl) (by kernel_rfl) (fun _ _ _ h => h) (Or.inl ⟨by first | rfl | (go_simp; done), ?yb16⟩) hHeld ?rb16
    case yb16 =>
      intro w' hSw
      obtain ⟨s0, s1⟩ := hSw
      have hT0 : Hid (Row w' (x0) 25 [.int .i64 (trimC c).inputs, .slice A0 n0 c0, .slice E0 m0 e0]) := s0
      have z0_0 := hT0.out.cell 0
      have z0_1 := hT0.out.cell 1
      have z0_2 := hT0.out.cell 2
      have z0_l := hT0.out.lt
      simp only [List.getElem?_cons_zero, List.getElem?_cons_succ] at z0_0 z0_1 z0_2
      have hT1 : Hid (Row w' (x1) 25 [.int .i64 (allC c).inputs, .slice A1 n1 c1, .slice E1 m1 e1]) := s1
      have z1_0 := hT1.out.cell 0
      have z1_1 := hT1.out.cell 1
      have z1_2 := hT1.out.cell 2
      have z1_l := hT1.out.lt
      simp only [List.getElem?_cons_zero, List.getElem?_cons_succ] at z1_0 z1_1 z1_2
      clear s0 s1
      go_simp
      try (with_reducible rfl)
    go_simp
    refine restL_take (i := 25) (v := ?vb17) [] rfl (by kernel_rfl) (by kernel_rfl) (by kernel_rfl) (by kernel_rfl) (fun _ _ _ h => h) (Or.inl ⟨by first | rfl | (go_simp; done), ?yb17⟩) hHeld ?rb17
    case yb17 =>
      intro w' hSw
      obtain ⟨s0, s1⟩ := hSw
      have hT0 : Hid (Row w' (x0) 25 [.int .i64 (trimC c).inputs, .slice A0 n0 c0, .slice E0 m0 e0]) := s0
      have z0_0 := hT0.out.cell 0
      have z0_1 := hT0.out.cell 1
      have z0_2 := hT0.out.cell 2
      have z0_l := hT0.out.lt
      simp only [List.getElem?_cons_zero, List.getElem?_cons_succ] at z0_0 z0_1 z0_2
      have hT1 : Hid (Row w' (x1) 25 [.int .i64 (allC c).inputs, .slice A1 n1 c1, .slice E1 m1 e1]) := s1
      have z1_0 := hT1.out.cell 0
      have z1_1 := hT1.out.cell 1
      have z1_2 := hT1.out.cell 2
      have z1_l := hT1.out.lt
      simp only [List.getElem?_cons_zero, List.getElem?_cons_succ] at z1_0 z1_1 z1_2
      clear s0 s1
      go_simp
      try (with_reducible rfl)
    go_simp
    refine restL_one (i := 24) (by kernel_rfl) rfl (fun K hK => ?_)
    go_simp
    go_at_call 18
    have HC := all_any (allC c) A1 E1 n1 c1 m1 e1 y8 (HA1.out.up B_u.out)
    refine HC.mono ?_
    clear HC
    rintro e y9 ⟨LaA, LaB, Lan, Lac, Lam, Lad, he, hca, -, -, hb⟩
    have he2 : e = .returned (.agg #[.int .i64 (allC (allC c)).inputs, .slice LaA Lan Lac, .slice LaB Lam Lad]) := he
    subst he2
    have HLa : Hid (CAt y9 (allC (allC c)) LaA LaB Lan Lam) := hca
    clear he hca hHeld
    have B_w : Hid (Below w.heap.size w y9) := below_on2 B_w.out hb
    have B_wa : Hid (Below wa.heap.size wa y9) := below_on2 B_wa.out hb
    have B_w1 : Hid (Below w1.heap.size w1 y9) := below_on2 B_w1.out hb
    have B_w2 : Hid (Below w2.heap.size w2 y9) := below_on2 B_w2.out hb
    have B_u : Hid (Below u.heap.size u y9) := below_on2 B_u.out hb
    have B_uq : Hid (Below uq.heap.size uq y9) := below_on2 B_uq.out hb
    have B_y1 : Hid (Below y1.heap.size y1 y9) := below_on2 B_y1.out hb
    have B_y2 : Hid (Below y2.heap.size y2 y9) := below_on2 B_y2.out hb
    have B_y3 : Hid (Below y3.heap.size y3 y9) := below_on2 B_y3.out hb
    have B_y4 : Hid (Below y4.heap.size y4 y9) := below_on2 B_y4.out hb
    have B_y5 : Hid (Below y5.heap.size y5 y9) := below_on2 B_y5.out hb
    have B_y6 : Hid (Below y6.heap.size y6 y9) := below_on2 B_y6.out hb
    have B_y7 : Hid (Below y7.heap.size y7 y9) := below_on2 B_y7.out hb
    have B_y8 : Hid (Below y8.heap.size y8 y9) := hb
    clear hb
    refine hK.out _ _ (fun _ => ?keep) (fun hHeld => ?_)
    case keep => exact ⟨(rowCells RX0.out B_u.out), (rowCells RX1.out B_u.out)⟩
    have hHeld := hHeld rfl
    clear hK K
    try go_simp
    refine restL_one (i := 26) (by kernel_rfl) rfl (fun K hK => ?_)
    go_simp
    go_at_call 21
    have HC := same_at (allC (allC c)) (allC c) LaA LaB A1 E1 Lan Lac Lam Lad n1 c1 m1 e1 y9 HLa.out (HA1.out.up B_u.out)
    rw [(sameC_iff _ _).2 (FixC.all HRA.out HFX.out)] at HC
    refine HC.mono ?_
    clear HC
    rintro e y10 ⟨rfl, hb⟩
    clear hHeld
    have B_w : Hid (Below w.heap.size w y10) := below_on2 B_w.out hb
    have B_wa : Hid (Below wa.heap.size wa y10) := below_on2 B_wa.out hb
    have B_w1 : Hid (Below w1.heap.size w1 y10) := below_on2 B_w1.out hb
    have B_w2 : Hid (Below w2.heap.size w2 y10) := below_on2 B_w2.out hb
    have B_u : Hid (Below u.heap.size u y10) := below_on2 B_u.out hb
    have B_uq : Hid (Below uq.heap.size uq y10) := below_on2 B_uq.out hb
    have B_y1 : Hid (Below y1.heap.size y1 y10) := below_on2 B_y1.out hb
    have B_y2 : Hid (Below y2.heap.size y2 y10) := below_on2 B_y2.out hb
    have B_y3 : Hid (Below y3.heap.size y3 y10) := below_on2 B_y3.out hb
    have B_y4 : Hid (Below y4.heap.size y4 y10) := below_on2 B_y4.out hb
    have B_y5 : Hid (Below y5.heap.size y5 y10) := below_on2 B_y5.out hb
    have B_y6 : Hid (Below y6.heap.size y6 y10) := below_on2 B_y6.out hb
    have B_y7 : Hid (Below y7.heap.size y7 y10) := below_on2 B_y7.out hb
    have B_y8 : Hid (Below y8.heap.size y8 y10) := below_on2 B_y8.out hb
    have B_y9 : Hid (Below y9.heap.size y9 y10) := hb
    clear hb
    refine hK.out _ _ (fun _ => ?keep) (fun hHeld => ?_)
    case keep => exact ⟨(rowCells RX0.out B_u.out), (rowCells RX1.out B_u.out)⟩
    have hHeld := hHeld rfl
    clear hK K
    try go_simp
    refine restL_pure (i := 27) (v := ?vb18) rfl (by kernel_rfl) (by kernel_rfl) (by kernel_rfl) (fun _ _ _ h => h) (Or.inl ⟨by rfl, ?yb18⟩) ?rb18
    case yb18 => intro w' hSw; clear hSw; go_simp; try (with_reducible rfl)
    go_simp
    refine restL_pure (i := 28) (v := ?vb19) rfl (by kernel_rfl) (by kernel_rfl) (by kernel_rfl) (fun _ _ _ h => h) (Or.inl ⟨by rfl, ?yb19⟩) ?rb19
    case yb19 => intro w' hSw; clear hSw; go_simp; try (with_reducible rfl)
    go_simp
    refine restL_one (i := 29) (by kernel_rfl) rfl (fun K hK => ?_)
    go_simp
    go_at_call 10
    refine (awake_any y10).mono ?_
    rintro e y11 ⟨rfl, hb⟩
    clear hHeld
    have B_w : Hid (Below w.heap.size w y11) := below_on2 B_w.out hb
    have B_wa : Hid (Below wa.heap.size wa y11) := below_on2 B_wa.out hb
    have B_w1 : Hid (Below w1.heap.size w1 y11) := below_on2 B_w1.out hb
    have B_w2 : Hid (Below w2.heap.size w2 y11) := below_on2 B_w2.out hb
    have B_u : Hid (Below u.heap.size u y11) := below_on2 B_u.out hb
    have B_uq : Hid (Below uq.heap.size uq y11) := below_on2 B_uq.out hb
    have B_y1 : Hid (Below y1.heap.size y1 y11) := below_on2 B_y1.out hb
    have B_y2 : Hid (Below y2.heap.size y2 y11) := below_on2 B_y2.out hb
    have B_y3 : Hid (Below y3.heap.size y3 y11) := below_on2 B_y3.out hb
    have B_y4 : Hid (Below y4.heap.size y4 y11) := below_on2 B_y4.out hb
    have B_y5 : Hid (Below y5.heap.size y5 y11) := below_on2 B_y5.out hb
    have B_y6 : Hid (Below y6.heap.size y6 y11) := below_on2 B_y6.out hb
    have B_y7 : Hid (Below y7.heap.size y7 y11) := below_on2 B_y7.out hb
    have B_y8 : Hid (Below y8.heap.size y8 y11) := below_on2 B_y8.out hb
    have B_y9 : Hid (Below y9.heap.size y9 y11) := below_on2 B_y9.out hb
    have B_y10 : Hid (Below y10.heap.size y10 y11) := hb
    clear hb
    refine hK.out _ _ (fun _ => ?keep) (fun hHeld => ?_)
    case keep => exact ⟨(rowCells RX0.out B_u.out), (rowCells RX1.out B_u.out)⟩
    have hHeld := hHeld rfl
    clear hK K
    try go_simp
    refine restL_pure (i := 30) (v := ?vb20) rfl (by kernel_rfl) (by kernel_rfl) (by kernel_rfl) (fun _ _ _ h => h) (Or.inl ⟨by rfl, ?yb20⟩) ?rb20
    case yb20 => intro w' hSw; clear hSw; go_simp; try (with_reducible rfl)
    go_simp
    refine restL_pure (i := 31) (v := ?vb21) rfl (by kernel_rfl) (by kernel_rfl) (by kernel_rfl) (fun _ _ _ h => h) (Or.inl ⟨by rfl, ?yb21⟩) ?rb21
    case yb21 => intro w' hSw; clear hSw; go_simp; try (with_reducible rfl)
    go_simp
    refine restL_done (by kernel_rfl) ?_ _
    go_wp2_with fail
    go_ret
    exact ⟨rfl, B_w.out⟩
end Go.Proofs.Ytamijjpnklbgnaa

/-
  The row of OptimizeFixed.
-/
namespace Go.Proofs.Ytamijjpnklbgnaa
open Go.RowKit Go.ChangeShapes Go.WideShapes Go.ChangeAt Go.Joins
set_option linter.unusedSimpArgs false
set_option linter.unusedVariables false

set_option maxRecDepth 100000 in
theorem optimizeFixed_lifted (os : Os) (started : os.Started) (H : Type) (enc : TypeId × Value → H) :
    ReturnsInHanded {} Try.checked os 5 .any (Rows.optimizeFixedSpec.pre6 enc Try.prog Try.f5 Rows.optimizeFixedRow.domain false) (Rows.optimizeFixedSpec.post enc Try.prog Try.f5 false true false false) := by
  refine returnsInHanded_of_change (C := Try.checked) Try.own' started (by kernel_rfl) Try.func5
    (ChangeSpec.witness6 (enc := enc) (C := Try.checked) false ⟨#[], #[.agg #[.int .i64 0, .slice none 0 0, .slice none 0 0]], []⟩ 8 (by kernel_rfl) (by kernel_rfl) (by kernel_rfl) (by kernel_rfl)) ?_
  intro W base args ds gs before hval0 hW hcnd _
  have hval : ∀ (j : Nat) t v, Try.f5.params[j]? = some t → args[j]? = some v → Value.okWide Try.prog W .any base t v := hval0
  have hW' := hW
  obtain ⟨p, q, hA0, hV, rfl, hfz, hnd⟩ := hW
  have hA : DataW.TrodAll enc Try.prog W 0 (fun _ => true) true Try.f5.params.toList args.toList ds p := hA0
  rw [Try.params5] at hA hval
  obtain ⟨v0, d0, rfl, rfl, h0⟩ := trodAll_one hA
  obtain ⟨rfl, rfl⟩ := trodVars_none hV
  have h0k := h0
  have hlt0 : ∀ x ∈ p, x.block < W.heap.size := fun x hx => hW'.lt x (by simp [hx])
  obtain ⟨c0, GA0, OA0, gn0, gc0, on0, oc0, rfl, hm0⟩ := open_circ (hval 0 25 v0 rfl rfl) h0
  clear hA0 hval0
  refine (lawFixed_any c0 GA0 OA0 gn0 gc0 on0 oc0 W hm0).mono fun e W' ⟨he, hb⟩ => ?_
  subst he
  exact ⟨_, rfl, law_post (pa := p) (pv := []) hW' (fun _ _ _ => trodAll_mk1 (shut_bool Try.underlying4 true)) (trodAll_mk1 (Below.trod Try.laidOut' (by kernel_rfl) (of_decide_eq_true (by kernel_rfl)) h0k hb hlt0)) rfl hb⟩

theorem optimizeFixed_holds : Rows.OptimizeFixedSaid :=
  OpenClaim.holds_of_wide 5 Try.f5 rfl rfl rfl rfl rfl rfl rfl ⟨rfl, rfl, rfl, rfl, rfl⟩ rfl rfl rfl rfl rfl (by kernel_rfl) Try.func5 (by kernel_rfl)
    (of_decide_eq_true (by kernel_rfl)) (by unfold Func.isWrapper; first | (rw [if_pos (by decide +kernel)]; kernel_rfl) | (rw [if_neg (by decide +kernel)]; exact ⟨rfl, rfl⟩))
    (fun os started H enc _ => optimizeFixed_lifted os started H enc)

end Go.Proofs.Ytamijjpnklbgnaa
