/-
  Rule trees, plain: equality, sizes, quiet rules, and a tree with a node in front that nobody needs. Nothing of the program stands here.
-/
import Derived.Test.YtdkfaphclhaiaaaTBPlain
namespace Go.Proofs.Ytdkfaphclhaiaaa
open Go.RowKit
set_option linter.unusedSimpArgs false
set_option linter.unusedVariables false

instance : DecidableEq Pt := fun a b => if h : a.x = b.x ∧ a.y = b.y then isTrue (by cases a; cases b; simp only at h; rw [h.1, h.2]) else isFalse (fun e => h (by rw [e]; exact ⟨rfl, rfl⟩))
instance : DecidableEq Nd := fun a b => if h : a.level = b.level ∧ a.next = b.next then isTrue (by cases a; cases b; simp only at h; rw [h.1, h.2]) else isFalse (fun e => h (by rw [e]; exact ⟨rfl, rfl⟩))
def sameT (a b : Tre) : Bool := decide (a.states = b.states ∧ a.hood = b.hood ∧ a.nodes = b.nodes)
theorem sameT_self (a : Tre) : sameT a a = true := decide_eq_true ⟨rfl, rfl, rfl⟩
theorem sameT_iff (a b : Tre) : sameT a b = true ↔ a = b := by
  unfold sameT
  rw [decide_eq_true_iff]
  constructor
  · intro h; cases a; cases b; simp only at h; rw [h.1, h.2.1, h.2.2]
  · rintro rfl; exact ⟨rfl, rfl, rfl⟩
def quietT (t : Tre) : Bool := rightT t && decide (valueT t (List.replicate t.hood.length 0) = 0)
def bump (l : List Int) (i : Nat) : List Int := l.set i (l.getD i 0 + 1)
theorem bump_length (l : List Int) (i : Nat) : (bump l i).length = l.length := by simp [bump]
def sizeN (n : Nat) (ns : List Nd) : List Int := ns.foldl (fun l x => bump l (x.level - 1).toNat) (List.replicate n 0)
def sizeT (t : Tre) : List Int := if rightT t = true then sizeN t.hood.length t.nodes else []
theorem sizeN_length (n : Nat) (ns : List Nd) : (sizeN n ns).length = n := by
  unfold sizeN
  have : ∀ l : List Int, (ns.foldl (fun l x => bump l (x.level - 1).toNat) l).length = l.length := by
    induction ns with
    | nil => intro l; rfl
    | cons x ns ih => intro l; simp only [List.foldl_cons]; rw [ih, bump_length]
  rw [this]; simp
theorem nd_snoc (l : List Nd) (k : Nat) (h : k < l.length) : l.take (k + 1) = l.take k ++ [l.getD k default] := by
  rw [List.take_succ_eq_append_getElem h, List.getD_eq_getElem?_getD, List.getElem?_eq_getElem h]; rfl
theorem sizeN_snoc (n : Nat) (ns : List Nd) (k : Nat) (h : k < ns.length) : sizeN n (ns.take (k + 1)) = bump (sizeN n (ns.take k)) ((ns.getD k default).level - 1).toNat := by
  rw [nd_snoc ns k h, sizeN, List.foldl_append]; rfl
theorem zeros_in {t : Tre} (h : rightT t = true) : (List.replicate t.hood.length (0 : Int)).all (stateIn t) = true := by
  obtain ⟨_, ⟨⟨h1, _⟩, _⟩, _⟩ := rightT_parts h
  rw [List.all_eq_true]
  intro x hx
  rw [List.eq_of_mem_replicate hx]
  exact decide_eq_true ⟨by omega, by omega⟩

/- A node in front. -/
def shiftI (l k : Int) : Int := if 1 < l then k + 1 else k
def shiftNd (x : Nd) : Nd := ⟨x.level, x.next.map (shiftI x.level)⟩
def shiftT (t : Tre) : Tre := ⟨t.states, t.hood, ⟨1, List.replicate t.states.toNat 0⟩ :: t.nodes.map shiftNd⟩
theorem shiftNd_get (l : List Nd) (k : Nat) (h : k < l.length) : (l.map shiftNd).getD k default = shiftNd (l.getD k default) := by
  simp [List.getD_eq_getElem?_getD, List.getElem?_map, List.getElem?_eq_getElem h]
theorem shiftNext_get (x : Nd) (s : Nat) (h : s < x.next.length) : (shiftNd x).next.getD s 0 = shiftI x.level (x.next.getD s 0) := by
  simp [shiftNd, List.getD_eq_getElem?_getD, List.getElem?_map, List.getElem?_eq_getElem h]
theorem shift_right {t : Tre} (h : rightT t = true) (hn : t.nodes.length ≤ 4000) : rightT (shiftT t) = true := by
  obtain ⟨hh, ⟨⟨h1, h2⟩, h3, h4, h5⟩, h6⟩ := rightT_parts h
  obtain ⟨l1, l25⟩ := hoodOk_len hh
  have hL : (shiftT t).nodes.length = t.nodes.length + 1 := by simp [shiftT]
  have hg : ∀ k, k < t.nodes.length → (shiftT t).nodes.getD (k + 1) default = shiftNd (t.nodes.getD k default) := fun k hk => by
    show (_ :: t.nodes.map shiftNd).getD (k + 1) default = _
    rw [List.getD_cons_succ, shiftNd_get _ _ hk]
  have hhead : headOk (shiftT t) = true := decide_eq_true ⟨⟨h1, h2⟩, by omega, by omega, by
    rw [hL, show t.nodes.length + 1 - 1 = (t.nodes.length - 1) + 1 by omega, hg _ (by omega)]
    exact h5⟩
  have hnodes : nodesOk (shiftT t) = true := decide_eq_true (fun i hi => by
    cases i with
    | zero =>
      show nodeOk (shiftT t) 0 = true
      have e : (shiftT t).nodes.getD 0 default = ⟨1, List.replicate t.states.toNat 0⟩ := rfl
      rw [nodeOk, e, Bool.and_eq_true]
      refine ⟨decide_eq_true ⟨by show (1 : Int) ≤ 1; omega, by show (1 : Int) ≤ t.hood.length; omega, by show ((List.replicate t.states.toNat (0 : Int)).length : Int) = t.states; rw [List.length_replicate]; omega⟩, ?_⟩
      rw [List.all_eq_true]
      intro k hk
      have hk0 : k = 0 := List.eq_of_mem_replicate hk
      subst hk0
      exact decide_eq_true ⟨by omega, fun _ => by show (0 : Int) < t.states; omega, fun h => absurd h (by show ¬ (1 : Int) < 1; omega)⟩
    | succ i =>
      have hi' : i < t.nodes.length := by omega
      obtain ⟨⟨a1, a2, a3⟩, a4⟩ := nodeOk_parts (h6 i hi')
      rw [nodeOk, hg _ hi', Bool.and_eq_true]
      refine ⟨decide_eq_true ⟨a1, a2, by show (((t.nodes.getD i default).next.map _).length : Int) = _; rw [List.length_map]; exact a3⟩, ?_⟩
      rw [List.all_eq_true]
      intro k hk
      obtain ⟨s, hs, rfl⟩ := List.getElem_of_mem hk
      have hs' : s < (t.nodes.getD i default).next.length := by simpa [shiftNd] using hs
      have hl := a4 s hs'
      have hget : (shiftNd (t.nodes.getD i default)).next[s] = shiftI (t.nodes.getD i default).level ((t.nodes.getD i default).next.getD s 0) := by
        have h1 := shiftNext_get _ _ hs'
        rw [List.getD_eq_getElem?_getD, List.getElem?_eq_getElem hs] at h1
        exact h1
      rw [hget]
      generalize (t.nodes.getD i default).next.getD s 0 = k at hl
      generalize t.nodes.getD i default = x at hl a1
      simp only [linkOk, decide_eq_true_eq] at hl
      obtain ⟨b1, b2, b3⟩ := hl
      show linkOk (shiftT t) (i + 1) (shiftNd x) (shiftI x.level k) = true
      unfold shiftI
      by_cases hlev : 1 < x.level
      · rw [if_pos hlev]
        obtain ⟨c1, c2⟩ := b3 hlev
        refine decide_eq_true ⟨by omega, fun e => absurd hlev (by rw [show x.level = 1 from e]; omega), fun _ => ⟨by omega, ?_⟩⟩
        rw [show (k + 1).toNat = k.toNat + 1 by omega, hg _ (by omega)]
        exact c2
      · rw [if_neg hlev]
        exact decide_eq_true ⟨b1, fun e => b2 e, fun e => absurd e hlev⟩)
  rw [rightT, Bool.and_eq_true, Bool.and_eq_true]
  exact ⟨hh, hhead, hnodes⟩
theorem shift_walk {t : Tre} (h : rightT t = true) (ins : List Int) : ∀ k : Nat, k < t.nodes.length → (t.nodes.getD k default).level = (ins.length : Int) → ins.all (stateIn t) = true → walkT (shiftT t) ((k : Int) + 1) ins = walkT t k ins := by
  obtain ⟨_, ⟨⟨h1, h2⟩, _⟩, h6⟩ := rightT_parts h
  induction ins with
  | nil =>
    intro k hk hl
    have := (nodeOk_parts (h6 k hk)).1.1
    rw [hl] at this
    simp at this
  | cons s rest ih =>
    intro k hk hl hs
    rw [List.all_cons, Bool.and_eq_true] at hs
    obtain ⟨hs1, hs2⟩ := hs
    simp only [stateIn, decide_eq_true_eq] at hs1
    obtain ⟨⟨a1, a2, a3⟩, a4⟩ := nodeOk_parts (h6 k hk)
    have hsl : s.toNat < (t.nodes.getD k default).next.length := by omega
    have hl2 := a4 _ hsl
    show walkT (shiftT t) (stepT (shiftT t) ((k : Int) + 1) s) rest = walkT t (stepT t k s) rest
    have e1 : stepT (shiftT t) ((k : Int) + 1) s = shiftI (t.nodes.getD k default).level (stepT t k s) := by
      unfold stepT
      rw [show ((k : Int) + 1).toNat = k + 1 by omega]
      show ((_ :: t.nodes.map shiftNd).getD (k + 1) default).next.getD s.toNat 0 = _
      rw [List.getD_cons_succ, shiftNd_get _ _ hk, shiftNext_get _ _ hsl, Int.toNat_natCast]
    have e2 : stepT t k s = (t.nodes.getD k default).next.getD s.toNat 0 := by unfold stepT; rw [Int.toNat_natCast]
    rw [e1]
    rw [← e2] at hl2
    generalize stepT t k s = u at hl2
    simp only [linkOk, decide_eq_true_eq] at hl2
    obtain ⟨b1, b2, b3⟩ := hl2
    unfold shiftI
    by_cases hlev : 1 < (t.nodes.getD k default).level
    · rw [if_pos hlev]
      obtain ⟨c1, c2⟩ := b3 hlev
      obtain ⟨m, rfl⟩ : ∃ m : Nat, u = (m : Int) := ⟨u.toNat, by omega⟩
      rw [Int.toNat_natCast] at c2
      refine ih m (by omega) ?_ hs2
      rw [c2, hl]; simp
    · rw [if_neg hlev]
      have : rest.length = 0 := by rw [hl] at hlev; simp at hlev; omega
      rw [List.eq_nil_of_length_eq_zero this]; rfl
/-- The node in front changes no value. -/
theorem shift_eval {t : Tre} (h : rightT t = true) (hn : t.nodes.length ≤ 4000) (ins : List Int) : evalErr (shiftT t) ins = evalErr t ins ∧ evalV (shiftT t) ins = evalV t ins := by
  have hr := shift_right h hn
  have e : evalErr (shiftT t) ins = evalErr t ins := by
    unfold evalErr
    rw [if_pos hr, if_pos h]; rfl
  refine ⟨e, ?_⟩
  unfold evalV
  rw [e]
  by_cases h0 : evalErr t ins = 0
  · rw [if_pos h0, if_pos h0]
    obtain ⟨_, ⟨_, h3, h4, h5⟩, _⟩ := rightT_parts h
    have hl : ins.length = t.hood.length ∧ ins.all (stateIn t) = true := by
      unfold evalErr at h0
      rw [if_pos h] at h0
      split at h0
      · split at h0
        · exact ⟨by assumption, by assumption⟩
        · omega
      · omega
    have hs := shift_walk h ins (t.nodes.length - 1) (by omega) (by rw [h5, hl.1]) hl.2
    unfold valueT
    have e1 : ((shiftT t).nodes.length : Int) - 1 = ((t.nodes.length - 1 : Nat) : Int) + 1 := by simp [shiftT]; omega
    have e2 : (t.nodes.length : Int) - 1 = ((t.nodes.length - 1 : Nat) : Int) := by omega
    rw [e1, e2, hs]
  · rw [if_neg h0, if_neg h0]
end Go.Proofs.Ytdkfaphclhaiaaa
