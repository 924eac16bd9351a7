/-
  Trees of constants and of positions, plain: what tree.Constant and tree.Read build, that the trees are valid, and to which states they lead. Nothing of the program stands here.
-/
import Derived.Test.YtdkfaphclhaiaaaTLaw
namespace Go.Proofs.Ytdkfaphclhaiaaa
open Go.RowKit
set_option linter.unusedSimpArgs false
set_option linter.unusedVariables false

def noTre : Tre := ⟨0, [], []⟩
/-- c nodes, from level lo on, each of whose elements lead to what lies below. -/
def nodesIn (S : Nat) (ns : List Nd) (lo : Nat) (b : Int) : Nat → List Nd × Int
  | 0 => (ns, b)
  | c + 1 => ((nodesIn S ns lo b c).1 ++ [⟨((lo + c : Nat) : Int), List.replicate S (nodesIn S ns lo b c).2⟩], (((nodesIn S ns lo b c).1.length : Nat) : Int))
theorem nodesIn_length (S : Nat) (ns : List Nd) (lo : Nat) (b : Int) (c : Nat) : (nodesIn S ns lo b c).1.length = ns.length + c := by
  induction c with
  | zero => rfl
  | succ c ih => simp only [nodesIn, List.length_append, List.length_singleton, ih]; omega
def constT (st : Int) (l : List Pt) (s : Int) : Tre := ⟨st, l, (nodesIn st.toNat [] 1 s l.length).1⟩
def statesOk (st : Int) : Bool := decide (2 ≤ st ∧ st ≤ 8)
def constErr (st : Int) (l : List Pt) (s : Int) : Int := if statesOk st = true ∧ hoodOk l = true then (if 0 ≤ s ∧ s < st then 0 else 10) else 2
def constR (st : Int) (l : List Pt) (s : Int) : Tre := if constErr st l s = 0 then constT st l s else noTre
/-- One chain of nodes for each state. -/
def readC (S : Nat) (at_ : Nat) : Nat → List Nd × List Int
  | 0 => ([], [])
  | s + 1 => ((nodesIn S (readC S at_ s).1 1 (s : Int) (at_ - 1)).1, (readC S at_ s).2 ++ [(nodesIn S (readC S at_ s).1 1 (s : Int) (at_ - 1)).2])
theorem readC_length (S at_ s : Nat) : (readC S at_ s).1.length = s * (at_ - 1) ∧ (readC S at_ s).2.length = s := by
  induction s with
  | zero => simp [readC]
  | succ s ih => simp [readC, nodesIn_length, ih.1, ih.2, Nat.add_mul]
def readM (S at_ : Nat) : List Nd := (readC S at_ S).1 ++ [⟨(at_ : Int), (readC S at_ S).2⟩]
def readNs (S at_ n : Nat) : List Nd := (nodesIn S (readM S at_) (at_ + 1) (((readM S at_).length : Int) - 1) (n - at_)).1
def readT (st : Int) (l : List Pt) (k : Nat) : Tre := ⟨st, l, readNs st.toNat (l.length - k) l.length⟩
def readErr (st : Int) (l : List Pt) (k : Int) : Int := if statesOk st = true ∧ hoodOk l = true ∧ 0 ≤ k ∧ k < l.length then 0 else 2
def readR (st : Int) (l : List Pt) (k : Int) : Tre := if readErr st l k = 0 then readT st l k.toNat else noTre

/- Valid lists of nodes. -/
def prefOf (ns ms : List Nd) : Prop := ∃ more, ms = ns ++ more
theorem prefOf.refl (ns : List Nd) : prefOf ns ns := ⟨[], by simp⟩
theorem prefOf.trans {a b c : List Nd} (h1 : prefOf a b) (h2 : prefOf b c) : prefOf a c := by
  obtain ⟨x, rfl⟩ := h1
  obtain ⟨y, rfl⟩ := h2
  exact ⟨x ++ y, by simp⟩
theorem prefOf.snoc (a : List Nd) (x : Nd) : prefOf a (a ++ [x]) := ⟨[x], rfl⟩
theorem prefOf.get {a b : List Nd} (h : prefOf a b) (i : Nat) (hi : i < a.length) : b.getD i default = a.getD i default := by
  obtain ⟨x, rfl⟩ := h
  rw [List.getD_eq_getElem?_getD, List.getElem?_append_left hi, ← List.getD_eq_getElem?_getD]
theorem prefOf.len {a b : List Nd} (h : prefOf a b) : a.length ≤ b.length := by
  obtain ⟨x, rfl⟩ := h
  simp
theorem gnd_snoc (ns : List Nd) (x : Nd) : (ns ++ [x]).getD ns.length default = x := by
  rw [List.getD_eq_getElem?_getD, List.getElem?_append_right (Nat.le_refl _)]; simp
/-- A node fits behind ns: its elements lead to states, or to nodes of the level below. -/
def fits (S n : Nat) (ns : List Nd) (x : Nd) : Prop :=
  (1 ≤ x.level ∧ x.level ≤ n ∧ x.next.length = S) ∧ ∀ k ∈ x.next, 0 ≤ k ∧ (x.level = 1 → k < S) ∧ (1 < x.level → k < ns.length ∧ (ns.getD k.toNat default).level = x.level - 1)
def allFit (S n : Nat) (ns : List Nd) : Prop := ∀ i, i < ns.length → fits S n (ns.take i) (ns.getD i default)
theorem allFit_nil (S n : Nat) : allFit S n [] := fun i hi => absurd hi (Nat.not_lt_zero _)
theorem allFit_snoc {S n : Nat} {ns : List Nd} {x : Nd} (h : allFit S n ns) (hx : fits S n ns x) : allFit S n (ns ++ [x]) := by
  intro i hi
  simp only [List.length_append, List.length_singleton] at hi
  by_cases e : i < ns.length
  · rw [(prefOf.snoc ns x).get i e, List.take_append_of_le_length (by omega)]
    exact h i e
  · obtain rfl : i = ns.length := by omega
    rw [gnd_snoc, List.take_left' rfl]
    exact hx
theorem allFit_right {S n : Nat} {t : Tre} (h : allFit S n t.nodes) (hs : t.states = (S : Int)) (hn : t.hood.length = n) (h2 : 2 ≤ S ∧ S ≤ 8) (hh : hoodOk t.hood = true) (h1 : 1 ≤ t.nodes.length) (h4 : t.nodes.length ≤ 4096)
    (hl : (t.nodes.getD (t.nodes.length - 1) default).level = n) : rightT t = true := by
  have hnodes : nodesOk t = true := decide_eq_true (fun i hi => by
    obtain ⟨⟨a1, a2, a3⟩, a4⟩ := h i hi
    rw [nodeOk, decide_eq_true ⟨a1, by rw [hn]; exact a2, by rw [hs, a3]⟩, Bool.true_and, List.all_eq_true]
    intro k hk
    obtain ⟨b1, b2, b3⟩ := a4 k hk
    refine decide_eq_true ⟨b1, fun e => by rw [hs]; exact b2 e, fun e => ?_⟩
    obtain ⟨c1, c2⟩ := b3 e
    rw [List.length_take] at c1
    refine ⟨by omega, ?_⟩
    rw [← c2, List.getD_eq_getElem?_getD, List.getD_eq_getElem?_getD, List.getElem?_take, if_pos (by omega)])
  have hhead : headOk t = true := decide_eq_true ⟨by omega, h1, h4, by rw [hn]; exact hl⟩
  rw [rightT, hh, hhead, hnodes]; rfl

/-- From index i on, l states lead to f of them, in every tree whose nodes begin with ns. -/
def Comp (S : Nat) (ns : List Nd) (i : Int) (l : Nat) (f : List Int → Int) : Prop :=
  ∀ t : Tre, prefOf ns t.nodes → ∀ ins : List Int, ins.length = l → (∀ x ∈ ins, 0 ≤ x ∧ x < (S : Int)) → walkT t i ins = f ins
theorem Comp.ext {S : Nat} {ns ms : List Nd} {i : Int} {l : Nat} {f : List Int → Int} (h : Comp S ns i l f) (hp : prefOf ns ms) : Comp S ms i l f :=
  fun t ht ins hl hs => h t (hp.trans ht) ins hl hs
theorem Comp.state (S : Nat) (ns : List Nd) (s : Int) : Comp S ns s 0 (fun _ => s) := fun t _ ins hl _ => by
  rw [List.eq_nil_of_length_eq_zero hl]; rfl
/-- A wire of level l: a state (l = 0), or a node of that level. -/
def Wire (S : Nat) (ns : List Nd) (i : Int) (l : Nat) : Prop := 0 ≤ i ∧ (l = 0 → i < (S : Int)) ∧ (0 < l → i < ns.length ∧ (ns.getD i.toNat default).level = (l : Int))
theorem Wire.ext {S : Nat} {ns ms : List Nd} {i : Int} {l : Nat} (h : Wire S ns i l) (hp : prefOf ns ms) : Wire S ms i l := by
  obtain ⟨h1, h2, h3⟩ := h
  refine ⟨h1, h2, fun hl => ?_⟩
  obtain ⟨a, b⟩ := h3 hl
  have := hp.len
  exact ⟨by omega, by rw [hp.get _ (by omega)]; exact b⟩
theorem node_wire {S n l : Nat} {ns : List Nd} {x : Nd} (hl : x.level = ((l + 1 : Nat) : Int)) : Wire S (ns ++ [x]) (ns.length : Int) (l + 1) :=
  ⟨by omega, fun h => by omega, fun _ => ⟨by simp; omega, by rw [Int.toNat_natCast, gnd_snoc, hl]⟩⟩
theorem node_fits {S n l : Nat} {ns : List Nd} {x : Nd} (hl : x.level = ((l + 1 : Nat) : Int)) (hn : l + 1 ≤ n) (hx : x.next.length = S) (hw : ∀ k ∈ x.next, Wire S ns k l) : fits S n ns x := by
  refine ⟨⟨by omega, by omega, hx⟩, fun k hk => ?_⟩
  obtain ⟨h1, h2, h3⟩ := hw k hk
  refine ⟨h1, fun e => h2 (by omega), fun e => ?_⟩
  obtain ⟨a, b⟩ := h3 (by omega)
  exact ⟨a, by rw [b]; omega⟩
theorem node_comp {S l : Nat} {ns : List Nd} {x : Nd} {f : Int → List Int → Int} (hx : x.next.length = S) (hc : ∀ s, s < S → Comp S ns (x.next.getD s 0) l (f (s : Int))) :
    Comp S (ns ++ [x]) (ns.length : Int) (l + 1) (fun ins => f (ins.getD 0 0) (ins.drop 1)) := fun t ht ins hil his => by
  cases ins with
  | nil => simp at hil
  | cons s rest =>
    have hs := his s (by simp)
    have e : walkT t (ns.length : Int) (s :: rest) = walkT t (x.next.getD s.toNat 0) rest := by
      simp only [walkT, List.foldl_cons, stepT, Int.toNat_natCast]
      rw [ht.get ns.length (by simp), gnd_snoc]
    rw [e]
    have := hc s.toNat (by omega) t ((prefOf.snoc ns x).trans ht) rest (by simpa using hil) (fun y hy => his y (by simp [hy]))
    rw [Int.toNat_of_nonneg hs.1] at this
    simpa using this
theorem getD_rep (S s : Nat) (b : Int) (h : s < S) : (List.replicate S b).getD s 0 = b := by
  rw [List.getD_eq_getElem?_getD, List.getElem?_replicate, if_pos h]; rfl
/-- A chain of nodes: all fit, and it leads to where what lies below leads, some states later. -/
theorem chain_good {S n : Nat} (ns : List Nd) (l0 : Nat) (b : Int) (f : List Int → Int) (hS : 0 < S) (hf : allFit S n ns) (hw : Wire S ns b l0) (hc : Comp S ns b l0 f) (c : Nat) (hn : l0 + c ≤ n) :
    prefOf ns (nodesIn S ns (l0 + 1) b c).1 ∧ allFit S n (nodesIn S ns (l0 + 1) b c).1 ∧ Wire S (nodesIn S ns (l0 + 1) b c).1 (nodesIn S ns (l0 + 1) b c).2 (l0 + c) ∧
      Comp S (nodesIn S ns (l0 + 1) b c).1 (nodesIn S ns (l0 + 1) b c).2 (l0 + c) (fun ins => f (ins.drop c)) := by
  induction c with
  | zero => exact ⟨prefOf.refl _, hf, hw, by simpa [nodesIn] using hc⟩
  | succ c ih =>
    obtain ⟨i1, i2, i3, i4⟩ := ih (by omega)
    simp only [nodesIn]
    generalize nodesIn S ns (l0 + 1) b c = p at i1 i2 i3 i4
    obtain ⟨ms, z⟩ := p
    dsimp only at i1 i2 i3 i4 ⊢
    have hlev : ((⟨((l0 + 1 + c : Nat) : Int), List.replicate S z⟩ : Nd).level) = ((l0 + c + 1 : Nat) : Int) := by show ((l0 + 1 + c : Nat) : Int) = _; omega
    refine ⟨i1.trans (prefOf.snoc _ _), allFit_snoc i2 (node_fits hlev (by omega) (by simp) (fun k hk => ?_)), node_wire (n := n) hlev, ?_⟩
    · rw [List.eq_of_mem_replicate hk]; exact i3
    · have h := node_comp (S := S) (ns := ms) (l := l0 + c) (x := ⟨((l0 + 1 + c : Nat) : Int), List.replicate S z⟩) (f := fun _ rest => f (rest.drop c)) (by simp) (fun s hs => by
        show Comp S ms ((List.replicate S z).getD s 0) _ _
        rw [getD_rep S s z hs]; exact i4)
      intro t ht ins hl hs
      have := h t ht ins (by omega) hs
      rw [this]
      simp [List.drop_drop, Nat.add_comm]
theorem statesOk_parts {st : Int} (h : statesOk st = true) : 2 ≤ st.toNat ∧ st.toNat ≤ 8 ∧ st = (st.toNat : Int) := by
  have := of_decide_eq_true h
  omega
theorem hoodOk_len {l : List Pt} (h : hoodOk l = true) : 1 ≤ l.length ∧ l.length ≤ 25 := by
  simp only [hoodOk, Bool.and_eq_true, decide_eq_true_eq] at h
  exact h.1
theorem last_level {S : Nat} {ns : List Nd} {i : Int} {l : Nat} (h : Wire S ns i l) (hl : 0 < l) (hi : i = (ns.length : Int) - 1) : (ns.getD (ns.length - 1) default).level = (l : Int) := by
  have := (h.2.2 hl).2
  rw [hi, show ((ns.length : Int) - 1).toNat = ns.length - 1 by omega] at this
  exact this
theorem nodesIn_last (S : Nat) (ns : List Nd) (lo : Nat) (b : Int) (c : Nat) (hc : 0 < c) : (nodesIn S ns lo b c).2 = ((nodesIn S ns lo b c).1.length : Int) - 1 := by
  obtain ⟨c, rfl⟩ : ∃ d, c = d + 1 := ⟨c - 1, by omega⟩
  simp only [nodesIn, List.length_append, List.length_singleton]
  omega
theorem constErr_parts {st s : Int} {l : List Pt} (h : constErr st l s = 0) : statesOk st = true ∧ hoodOk l = true ∧ 0 ≤ s ∧ s < st := by
  unfold constErr at h
  split at h
  · rename_i h1
    split at h
    · rename_i h2; exact ⟨h1.1, h1.2, h2.1, h2.2⟩
    · omega
  · omega
theorem readErr_parts {st k : Int} {l : List Pt} (h : readErr st l k = 0) : statesOk st = true ∧ hoodOk l = true ∧ 0 ≤ k ∧ k < l.length := by
  unfold readErr at h
  split at h
  · assumption
  · omega
/-- A tree of Constant: valid, as many nodes as positions, and it leads to the constant. -/
theorem const_good {st s : Int} {l : List Pt} (h : constErr st l s = 0) : rightT (constT st l s) = true ∧ (constT st l s).nodes.length = l.length ∧
    ∀ ins, ins.length = l.length → ins.all (stateIn (constT st l s)) = true → valueT (constT st l s) ins = s := by
  obtain ⟨h1, h2, h3, h4⟩ := constErr_parts h
  obtain ⟨s2, s8, hst⟩ := statesOk_parts h1
  obtain ⟨l1, l25⟩ := hoodOk_len h2
  obtain ⟨g1, g2, g3, g4⟩ := chain_good (S := st.toNat) (n := l.length) [] 0 s (fun _ => s) (by omega) (allFit_nil _ _) ⟨h3, fun _ => by omega, fun h => absurd h (by omega)⟩ (Comp.state _ _ _) l.length (by omega)
  simp only [Nat.zero_add] at g1 g2 g3 g4
  have hlast := nodesIn_last st.toNat [] 1 s l.length (by omega)
  have hlen : (constT st l s).nodes.length = l.length := by show (nodesIn _ _ _ _ _).1.length = _; rw [nodesIn_length]; simp
  refine ⟨allFit_right (S := st.toNat) (n := l.length) g2 hst rfl ⟨s2, s8⟩ h2 (by omega) (by omega) (last_level g3 (by omega) hlast), hlen, fun ins hi hs => ?_⟩
  have := g4 (constT st l s) (prefOf.refl _) ins hi (fun x hx => by
    rw [List.all_eq_true] at hs
    have := hs x hx
    simp only [stateIn, decide_eq_true_eq] at this
    refine ⟨this.1, ?_⟩
    have h9 : (constT st l s).states = st := rfl
    omega)
  rw [valueT]
  refine Eq.trans ?_ this
  rw [hlast]; rfl
theorem readC_good {S n at_ : Nat} (hS : 0 < S) (ha : 1 ≤ at_) (hn : at_ ≤ n) (s : Nat) (hs : s ≤ S) : allFit S n (readC S at_ s).1 ∧ ∀ j, j < s → Wire S (readC S at_ s).1 ((readC S at_ s).2.getD j 0) (at_ - 1) ∧ Comp S (readC S at_ s).1 ((readC S at_ s).2.getD j 0) (at_ - 1) (fun _ => (j : Int)) := by
  induction s with
  | zero => exact ⟨allFit_nil _ _, fun j hj => absurd hj (by omega)⟩
  | succ s ih =>
    obtain ⟨i1, i2⟩ := ih (by omega)
    have hl := (readC_length S at_ s).2
    obtain ⟨g1, g2, g3, g4⟩ := chain_good (S := S) (n := n) (readC S at_ s).1 0 (s : Int) (fun _ => (s : Int)) hS i1 ⟨by omega, fun _ => by omega, fun h => absurd h (by omega)⟩ (Comp.state _ _ _) (at_ - 1) (by omega)
    simp only [Nat.zero_add] at g1 g2 g3 g4
    simp only [readC]
    refine ⟨g2, fun j hj => ?_⟩
    by_cases e : j = s
    · subst e
      have : ((readC S at_ j).2 ++ [(nodesIn S (readC S at_ j).1 1 (j : Int) (at_ - 1)).2]).getD j 0 = (nodesIn S (readC S at_ j).1 1 (j : Int) (at_ - 1)).2 := by
        rw [List.getD_eq_getElem?_getD, List.getElem?_append_right (by omega), hl, Nat.sub_self]; rfl
      rw [this]
      exact ⟨g3, g4⟩
    · have : ((readC S at_ s).2 ++ [(nodesIn S (readC S at_ s).1 1 (s : Int) (at_ - 1)).2]).getD j 0 = (readC S at_ s).2.getD j 0 := by
        rw [List.getD_eq_getElem?_getD, List.getElem?_append_left (by omega), ← List.getD_eq_getElem?_getD]
      rw [this]
      obtain ⟨a, b⟩ := i2 j (by omega)
      exact ⟨a.ext g1, b.ext g1⟩
/-- A tree of Read: valid, its number of nodes, and it leads to the state of the position. -/
theorem read_good {st : Int} {l : List Pt} {k : Nat} (h : readErr st l k = 0) : rightT (readT st l k) = true ∧ (readT st l k).nodes.length = k + 1 + (l.length - k - 1) * st.toNat ∧
    ∀ ins, ins.length = l.length → ins.all (stateIn (readT st l k)) = true → valueT (readT st l k) ins = ins.getD k 0 := by
  obtain ⟨h1, h2, h3, h4⟩ := readErr_parts h
  obtain ⟨s2, s8, hst⟩ := statesOk_parts h1
  obtain ⟨l1, l25⟩ := hoodOk_len h2
  have hk : k < l.length := by omega
  obtain ⟨at_, ha⟩ : ∃ a, a = l.length - k := ⟨_, rfl⟩
  have ha1 : 1 ≤ at_ := by omega
  have han : at_ ≤ l.length := by omega
  obtain ⟨c1, c2⟩ := readC_good (S := st.toNat) (n := l.length) (by omega) ha1 han st.toNat (Nat.le_refl _)
  obtain ⟨cl1, cl2⟩ := readC_length st.toNat at_ st.toNat
  have hlev : ((⟨(at_ : Int), (readC st.toNat at_ st.toNat).2⟩ : Nd).level) = ((at_ - 1 + 1 : Nat) : Int) := by show (at_ : Int) = _; omega
  have hM : allFit st.toNat l.length (readM st.toNat at_) := allFit_snoc c1 (node_fits hlev (by omega) cl2 (fun k hk => by
    obtain ⟨j, hj, rfl⟩ := List.getElem_of_mem hk
    have := (c2 j (by simp only at hj; omega)).1
    rw [List.getD_eq_getElem?_getD, List.getElem?_eq_getElem (by simpa using hj)] at this
    exact this))
  have hMl : (readM st.toNat at_).length = st.toNat * (at_ - 1) + 1 := by simp [readM, cl1]
  have hidx : ((readM st.toNat at_).length : Int) - 1 = ((readC st.toNat at_ st.toNat).1.length : Int) := by rw [hMl, cl1]; omega
  have hMw : Wire st.toNat (readM st.toNat at_) (((readM st.toNat at_).length : Int) - 1) at_ := by
    rw [hidx]
    have := node_wire (S := st.toNat) (n := l.length) (ns := (readC st.toNat at_ st.toNat).1) hlev
    rw [show at_ - 1 + 1 = at_ by omega] at this
    exact this
  have hMc : Comp st.toNat (readM st.toNat at_) (((readM st.toNat at_).length : Int) - 1) at_ (fun ins => ins.getD 0 0) := by
    rw [hidx]
    have := node_comp (S := st.toNat) (ns := (readC st.toNat at_ st.toNat).1) (l := at_ - 1) (x := ⟨(at_ : Int), (readC st.toNat at_ st.toNat).2⟩) (f := fun s _ => s) cl2 (fun s hs => (c2 s hs).2)
    rw [show at_ - 1 + 1 = at_ by omega] at this
    exact this
  obtain ⟨g1, g2, g3, g4⟩ := chain_good (S := st.toNat) (n := l.length) (readM st.toNat at_) at_ (((readM st.toNat at_).length : Int) - 1) _ (by omega) hM hMw hMc (l.length - at_) (by omega)
  rw [show at_ + (l.length - at_) = l.length by omega] at g3 g4
  have hns : (readT st l k).nodes = (nodesIn st.toNat (readM st.toNat at_) (at_ + 1) (((readM st.toNat at_).length : Int) - 1) (l.length - at_)).1 := by
    show readNs _ _ _ = _
    rw [← ha]; rfl
  have hlast : (nodesIn st.toNat (readM st.toNat at_) (at_ + 1) (((readM st.toNat at_).length : Int) - 1) (l.length - at_)).2 = ((readT st l k).nodes.length : Int) - 1 := by
    rw [hns]
    rcases Nat.eq_zero_or_pos (l.length - at_) with e | e
    · rw [e]; rfl
    · exact nodesIn_last _ _ _ _ _ e
  have hlen : (readT st l k).nodes.length = k + 1 + (l.length - k - 1) * st.toNat := by
    rw [hns, nodesIn_length, hMl, Nat.mul_comm st.toNat, show at_ - 1 = l.length - k - 1 by omega, show l.length - at_ = k by omega]
    omega
  have hbig : (l.length - k - 1) * st.toNat ≤ 24 * 8 := Nat.mul_le_mul (by omega) s8
  rw [hlast] at g3 g4
  rw [← hns] at g2 g3 g4
  refine ⟨allFit_right (S := st.toNat) (n := l.length) g2 hst rfl ⟨s2, s8⟩ h2 (by omega) (by omega) (last_level g3 (by omega) rfl), hlen, fun ins hi hs => ?_⟩
  have := g4 (readT st l k) (prefOf.refl _) ins hi (fun x hx => by
    rw [List.all_eq_true] at hs
    have := hs x hx
    simp only [stateIn, decide_eq_true_eq] at this
    refine ⟨this.1, ?_⟩
    have h9 : (readT st l k).states = st := rfl
    omega)
  rw [valueT, this]
  show (ins.drop (l.length - at_)).getD 0 0 = _
  rw [List.getD_eq_getElem?_getD, List.getElem?_drop, List.getD_eq_getElem?_getD, show l.length - at_ + 0 = k by omega]
end Go.Proofs.Ytdkfaphclhaiaaa
