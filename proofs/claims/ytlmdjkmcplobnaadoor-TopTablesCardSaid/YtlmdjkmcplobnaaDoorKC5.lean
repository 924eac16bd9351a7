/-
  Trees of constants and of positions, plain: what tree.Constant and tree.Read build, that the trees are valid, and to which states they lead. Nothing of the program stands here.
-/
import Derived.Test.YtlmdjkmcplobnaaDoorKC1
import Derived.Test.YtlmdjkmcplobnaaDoorKC2
import Derived.Test.YtlmdjkmcplobnaaDoorProg
namespace Go.Proofs.YtlmdjkmcplobnaaDoor
open Go.RowKit
set_option linter.unusedSimpArgs false
set_option linter.unusedVariables false

def noTre : Tre := ⟨0, [], []⟩
/-- c nodes, from level lo on, each of whose elements lead to what lies below. -/
def nodesIn (S : Nat) (ns : List Nd) (lo : Nat) (b : Int) : Nat → List Nd × Int
  | 0 => (ns, b)
  | c + 1 => ((nodesIn S ns lo b c).1 ++ [⟨((lo + c : Nat) : Int), List.replicate S (nodesIn S ns lo b c).2⟩], (((nodesIn S ns lo b c).1.length : Nat) : Int))
theorem nodesIn_length (S : Nat) (ns : List Nd) (lo : Nat) (b : Int) (c : Nat) : (nodesIn S ns lo b c).1.length = ns.length + c := by
  induction c with
  | zero => rfl
  | succ c ih => simp only [nodesIn, List.length_append, List.length_singleton, ih]; omega
def constT (st : Int) (l : List Pt) (s : Int) : Tre := ⟨st, l, (nodesIn st.toNat [] 1 s l.length).1⟩
def statesOk (st : Int) : Bool := decide (2 ≤ st ∧ st ≤ 8)
def constErr (st : Int) (l : List Pt) (s : Int) : Int := if statesOk st = true ∧ hoodOk l = true then (if 0 ≤ s ∧ s < st then 0 else 10) else 2
def constR (st : Int) (l : List Pt) (s : Int) : Tre := if constErr st l s = 0 then constT st l s else noTre
/-- One chain of nodes for each state. -/
def readC (S : Nat) (at_ : Nat) : Nat → List Nd × List Int
  | 0 => ([], [])
  | s + 1 => ((nodesIn S (readC S at_ s).1 1 (s : Int) (at_ - 1)).1, (readC S at_ s).2 ++ [(nodesIn S (readC S at_ s).1 1 (s : Int) (at_ - 1)).2])
theorem readC_length (S at_ s : Nat) : (readC S at_ s).1.length = s * (at_ - 1) ∧ (readC S at_ s).2.length = s := by
  induction s with
  | zero => simp [readC]
  | succ s ih => simp [readC, nodesIn_length, ih.1, ih.2, Nat.add_mul]
def readM (S at_ : Nat) : List Nd := (readC S at_ S).1 ++ [⟨(at_ : Int), (readC S at_ S).2⟩]
def readNs (S at_ n : Nat) : List Nd := (nodesIn S (readM S at_) (at_ + 1) (((readM S at_).length : Int) - 1) (n - at_)).1
def readT (st : Int) (l : List Pt) (k : Nat) : Tre := ⟨st, l, readNs st.toNat (l.length - k) l.length⟩
def readErr (st : Int) (l : List Pt) (k : Int) : Int := if statesOk st = true ∧ hoodOk l = true ∧ 0 ≤ k ∧ k < l.length then 0 else 2
def readR (st : Int) (l : List Pt) (k : Int) : Tre := if readErr st l k = 0 then readT st l k.toNat else noTre

/- Valid lists of nodes. -/
def prefOf (ns ms : List Nd) : Prop := ∃ more, ms = ns ++ more
theorem prefOf.refl (ns : List Nd) : prefOf ns ns := ⟨[], by simp⟩
theorem prefOf.trans {a b c : List Nd} (h1 : prefOf a b) (h2 : prefOf b c) : prefOf a c := by
  obtain ⟨x, rfl⟩ := h1
  obtain ⟨y, rfl⟩ := h2
  exact ⟨x ++ y, by simp⟩
theorem prefOf.snoc (a : List Nd) (x : Nd) : prefOf a (a ++ [x]) := ⟨[x], rfl⟩
theorem prefOf.get {a b : List Nd} (h : prefOf a b) (i : Nat) (hi : i < a.length) : b.getD i default = a.getD i default := by
  obtain ⟨x, rfl⟩ := h
  rw [List.getD_eq_getElem?_getD, List.getElem?_append_left hi, ← List.getD_eq_getElem?_getD]
theorem prefOf.len {a b : List Nd} (h : prefOf a b) : a.length ≤ b.length := by
  obtain ⟨x, rfl⟩ := h
  simp
theorem gnd_snoc (ns : List Nd) (x : Nd) : (ns ++ [x]).getD ns.length default = x := by
  rw [List.getD_eq_getElem?_getD, List.getElem?_append_right (Nat.le_refl _)]; simp
/-- A node fits behind ns: its elements lead to states, or to nodes of the level below. -/
def fits (S n : Nat) (ns : List Nd) (x : Nd) : Prop :=
  (1 ≤ x.level ∧ x.level ≤ n ∧ x.next.length = S) ∧ ∀ k ∈ x.next, 0 ≤ k ∧ (x.level = 1 → k < S) ∧ (1 < x.level → k < ns.length ∧ (ns.getD k.toNat default).level = x.level - 1)
def allFit (S n : Nat) (ns : List Nd) : Prop := ∀ i, i < ns.length → fits S n (ns.take i) (ns.getD i default)
theorem allFit_nil (S n : Nat) : allFit S n [] := fun i hi => absurd hi (Nat.not_lt_zero _)
theorem allFit_snoc {S n : Nat} {ns : List Nd} {x : Nd} (h : allFit S n ns) (hx : fits S n ns x) : allFit S n (ns ++ [x]) := by
  intro i hi
  simp only [List.length_append, List.length_singleton] at hi
  by_cases e : i < ns.length
  · rw [(prefOf.snoc ns x).get i e, List.take_append_of_le_length (by omega)]
    exact h i e
  · obtain rfl : i = ns.length := by omega
    rw [gnd_snoc, List.take_left' rfl]
    exact hx
theorem allFit_right {S n : Nat} {t : Tre} (h : allFit S n t.nodes) (hs : t.states = (S : Int)) (hn : t.hood.length = n) (h2 : 2 ≤ S ∧ S ≤ 8) (hh : hoodOk t.hood = true) (h1 : 1 ≤ t.nodes.length) (h4 : t.nodes.length ≤ 4096)
    (hl : (t.nodes.getD (t.nodes.length - 1) default).level = n) : rightT t = true := by
  have hnodes : nodesOk t = true := decide_eq_true (fun i hi => by
    obtain ⟨⟨a1, a2, a3⟩, a4⟩ := h i hi
    rw [nodeOk, decide_eq_true ⟨a1, by rw [hn]; exact a2, by rw [hs, a3]⟩, Bool.true_and, List.all_eq_true]
    intro k hk
    obtain ⟨b1, b2, b3⟩ := a4 k hk
    refine decide_eq_true ⟨b1, fun e => by rw [hs]; exact b2 e, fun e => ?_⟩
    obtain ⟨c1, c2⟩ := b3 e
    rw [List.length_take] at c1
    refine ⟨by omega, ?_⟩
    rw [← c2, List.getD_eq_getElem?_getD, List.getD_eq_getElem?_getD, List.getElem?_take, if_pos (by omega)])
  have hhead : headOk t = true := decide_eq_true ⟨by omega, h1, h4, by rw [hn]; exact hl⟩
  rw [rightT, hh, hhead, hnodes]; rfl

/-- From index i on, l states lead to f of them, in every tree whose nodes begin with ns. -/
def Comp (S : Nat) (ns : List Nd) (i : Int) (l : Nat) (f : List Int → Int) : Prop :=
  ∀ t : Tre, prefOf ns t.nodes → ∀ ins : List Int, ins.length = l → (∀ x ∈ ins, 0 ≤ x ∧ x < (S : Int)) → walkT t i ins = f ins
theorem Comp.ext {S : Nat} {ns ms : List Nd} {i : Int} {l : Nat} {f : List Int → Int} (h : Comp S ns i l f) (hp : prefOf ns ms) : Comp S ms i l f :=
  fun t ht ins hl hs => h t (hp.trans ht) ins hl hs
theorem Comp.state (S : Nat) (ns : List Nd) (s : Int) : Comp S ns s 0 (fun _ => s) := fun t _ ins hl _ => by
  rw [List.eq_nil_of_length_eq_zero hl]; rfl
/-- A wire of level l: a state (l = 0), or a node of that level. -/
def Wire (S : Nat) (ns : List Nd) (i : Int) (l : Nat) : Prop := 0 ≤ i ∧ (l = 0 → i < (S : Int)) ∧ (0 < l → i < ns.length ∧ (ns.getD i.toNat default).level = (l : Int))
theorem Wire.ext {S : Nat} {ns ms : List Nd} {i : Int} {l : Nat} (h : Wire S ns i l) (hp : prefOf ns ms) : Wire S ms i l := by
  obtain ⟨h1, h2, h3⟩ := h
  refine ⟨h1, h2, fun hl => ?_⟩
  obtain ⟨a, b⟩ := h3 hl
  have := hp.len
  exact ⟨by omega, by rw [hp.get _ (by omega)]; exact b⟩
theorem node_wire {S n l : Nat} {ns : List Nd} {x : Nd} (hl : x.level = ((l + 1 : Nat) : Int)) : Wire S (ns ++ [x]) (ns.length : Int) (l + 1) :=
  ⟨by omega, fun h => by omega, fun _ => ⟨by simp; omega, by rw [Int.toNat_natCast, gnd_snoc, hl]⟩⟩
theorem node_fits {S n l : Nat} {ns : List Nd} {x : Nd} (hl : x.level = ((l + 1 : Nat) : Int)) (hn : l + 1 ≤ n) (hx : x.next.length = S) (hw : ∀ k ∈ x.next, Wire S ns k l) : fits S n ns x := by
  refine ⟨⟨by omega, by omega, hx⟩, fun k hk => ?_⟩
  obtain ⟨h1, h2, h3⟩ := hw k hk
  refine ⟨h1, fun e => h2 (by omega), fun e => ?_⟩
  obtain ⟨a, b⟩ := h3 (by omega)
  exact ⟨a, by rw [b]; omega⟩
theorem node_comp {S l : Nat} {ns : List Nd} {x : Nd} {f : Int → List Int → Int} (hx : x.next.length = S) (hc : ∀ s, s < S → Comp S ns (x.next.getD s 0) l (f (s : Int))) :
    Comp S (ns ++ [x]) (ns.length : Int) (l + 1) (fun ins => f (ins.getD 0 0) (ins.drop 1)) := fun t ht ins hil his => by
  cases ins with
  | nil => simp at hil
  | cons s rest =>
    have hs := his s (by simp)
    have e : walkT t (ns.length : Int) (s :: rest) = walkT t (x.next.getD s.toNat 0) rest := by
      simp only [walkT, List.foldl_cons, stepT, Int.toNat_natCast]
      rw [ht.get ns.length (by simp), gnd_snoc]
    rw [e]
    have := hc s.toNat (by omega) t ((prefOf.snoc ns x).trans ht) rest (by simpa using hil) (fun y hy => his y (by simp [hy]))
    rw [Int.toNat_of_nonneg hs.1] at this
    simpa using this
theorem getD_rep (S s : Nat) (b : Int) (h : s < S) : (List.replicate S b).getD s 0 = b := by
  rw [List.getD_eq_getElem?_getD, List.getElem?_replicate, if_pos h]; rfl
/-- A chain of nodes: all fit, and it leads to where what lies below leads, some states later. -/
theorem chain_good {S n : Nat} (ns : List Nd) (l0 : Nat) (b : Int) (f : List Int → Int) (hS : 0 < S) (hf : allFit S n ns) (hw : Wire S ns b l0) (hc : Comp S ns b l0 f) (c : Nat) (hn : l0 + c ≤ n) :
    prefOf ns (nodesIn S ns (l0 + 1) b c).1 ∧ allFit S n (nodesIn S ns (l0 + 1) b c).1 ∧ Wire S (nodesIn S ns (l0 + 1) b c).1 (nodesIn S ns (l0 + 1) b c).2 (l0 + c) ∧
      Comp S (nodesIn S ns (l0 + 1) b c).1 (nodesIn S ns (l0 + 1) b c).2 (l0 + c) (fun ins => f (ins.drop c)) := by
  induction c with
  | zero => exact ⟨prefOf.refl _, hf, hw, by simpa [nodesIn] using hc⟩
  | succ c ih =>
    obtain ⟨i1, i2, i3, i4⟩ := ih (by omega)
    simp only [nodesIn]
    generalize nodesIn S ns (l0 + 1) b c = p at i1 i2 i3 i4
    obtain ⟨ms, z⟩ := p
    dsimp only at i1 i2 i3 i4 ⊢
    have hlev : ((⟨((l0 + 1 + c : Nat) : Int), List.replicate S z⟩ : Nd).level) = ((l0 + c + 1 : Nat) : Int) := by show ((l0 + 1 + c : Nat) : Int) = _; omega
    refine ⟨i1.trans (prefOf.snoc _ _), allFit_snoc i2 (node_fits hlev (by omega) (by simp) (fun k hk => ?_)), node_wire (n := n) hlev, ?_⟩
    · rw [List.eq_of_mem_replicate hk]; exact i3
    · have h := node_comp (S := S) (ns := ms) (l := l0 + c) (x := ⟨((l0 + 1 + c : Nat) : Int), List.replicate S z⟩) (f := fun _ rest => f (rest.drop c)) (by simp) (fun s hs => by
        show Comp S ms ((List.replicate S z).getD s 0) _ _
        rw [getD_rep S s z hs]; exact i4)
      intro t ht ins hl hs
      have := h t ht ins (by omega) hs
      rw [this]
      simp [List.drop_drop, Nat.add_comm]
theorem statesOk_parts {st : Int} (h : statesOk st = true) : 2 ≤ st.toNat ∧ st.toNat ≤ 8 ∧ st = (st.toNat : Int) := by
  have := of_decide_eq_true h
  omega
theorem hoodOk_len {l : List Pt} (h : hoodOk l = true) : 1 ≤ l.length ∧ l.length ≤ 25 := by
  simp only [hoodOk, Bool.and_eq_true, decide_eq_true_eq] at h
  exact h.1
theorem last_level {S : Nat} {ns : List Nd} {i : Int} {l : Nat} (h : Wire S ns i l) (hl : 0 < l) (hi : i = (ns.length : Int) - 1) : (ns.getD (ns.length - 1) default).level = (l : Int) := by
  have := (h.2.2 hl).2
  rw [hi, show ((ns.length : Int) - 1).toNat = ns.length - 1 by omega] at this
  exact this
theorem nodesIn_last (S : Nat) (ns : List Nd) (lo : Nat) (b : Int) (c : Nat) (hc : 0 < c) : (nodesIn S ns lo b c).2 = ((nodesIn S ns lo b c).1.length : Int) - 1 := by
  obtain ⟨c, rfl⟩ : ∃ d, c = d + 1 := ⟨c - 1, by omega⟩
  simp only [nodesIn, List.length_append, List.length_singleton]
  omega
theorem constErr_parts {st s : Int} {l : List Pt} (h : constErr st l s = 0) : statesOk st = true ∧ hoodOk l = true ∧ 0 ≤ s ∧ s < st := by
  unfold constErr at h
  split at h
  · rename_i h1
    split at h
    · rename_i h2; exact ⟨h1.1, h1.2, h2.1, h2.2⟩
    · omega
  · omega
theorem readErr_parts {st k : Int} {l : List Pt} (h : readErr st l k = 0) : statesOk st = true ∧ hoodOk l = true ∧ 0 ≤ k ∧ k < l.length := by
  unfold readErr at h
  split at h
  · assumption
  · omega
/-- A tree of Constant: valid, as many nodes as positions, and it leads to the constant. -/
theorem const_good {st s : Int} {l : List Pt} (h : constErr st l s = 0) : rightT (constT st l s) = true ∧ (constT st l s).nodes.length = l.length ∧
    ∀ ins, ins.length = l.length → ins.all (stateIn (constT st l s)) = true → valueT (constT st l s) ins = s := by
  obtain ⟨h1, h2, h3, h4⟩ := constErr_parts h
  obtain ⟨s2, s8, hst⟩ := statesOk_parts h1
  obtain ⟨l1, l25⟩ := hoodOk_len h2
  obtain ⟨g1, g2, g3, g4⟩ := chain_good (S := st.toNat) (n := l.length) [] 0 s (fun _ => s) (by omega) (allFit_nil _ _) ⟨h3, fun _ => by omega, fun h => absurd h (by omega)⟩ (Comp.state _ _ _) l.length (by omega)
  simp only [Nat.zero_add] at g1 g2 g3 g4
  have hlast := nodesIn_last st.toNat [] 1 s l.length (by omega)
  have hlen : (constT st l s).nodes.length = l.length := by show (nodesIn _ _ _ _ _).1.length = _; rw [nodesIn_length]; simp
  refine ⟨allFit_right (S := st.toNat) (n := l.length) g2 hst rfl ⟨s2, s8⟩ h2 (by omega) (by omega) (last_level g3 (by omega) hlast), hlen, fun ins hi hs => ?_⟩
  have := g4 (constT st l s) (prefOf.refl _) ins hi (fun x hx => by
    rw [List.all_eq_true] at hs
    have := hs x hx
    simp only [stateIn, decide_eq_true_eq] at this
    refine ⟨this.1, ?_⟩
    have h9 : (constT st l s).states = st := rfl
    omega)
  rw [valueT]
  refine Eq.trans ?_ this
  rw [hlast]; rfl
theorem readC_good {S n at_ : Nat} (hS : 0 < S) (ha : 1 ≤ at_) (hn : at_ ≤ n) (s : Nat) (hs : s ≤ S) : allFit S n (readC S at_ s).1 ∧ ∀ j, j < s → Wire S (readC S at_ s).1 ((readC S at_ s).2.getD j 0) (at_ - 1) ∧ Comp S (readC S at_ s).1 ((readC S at_ s).2.getD j 0) (at_ - 1) (fun _ => (j : Int)) := by
  induction s with
  | zero => exact ⟨allFit_nil _ _, fun j hj => absurd hj (by omega)⟩
  | succ s ih =>
    obtain ⟨i1, i2⟩ := ih (by omega)
    have hl := (readC_length S at_ s).2
    obtain ⟨g1, g2, g3, g4⟩ := chain_good (S := S) (n := n) (readC S at_ s).1 0 (s : Int) (fun _ => (s : Int)) hS i1 ⟨by omega, fun _ => by omega, fun h => absurd h (by omega)⟩ (Comp.state _ _ _) (at_ - 1) (by omega)
    simp only [Nat.zero_add] at g1 g2 g3 g4
    simp only [readC]
    refine ⟨g2, fun j hj => ?_⟩
    by_cases e : j = s
    · subst e
      have : ((readC S at_ j).2 ++ [(nodesIn S (readC S at_ j).1 1 (j : Int) (at_ - 1)).2]).getD j 0 = (nodesIn S (readC S at_ j).1 1 (j : Int) (at_ - 1)).2 := by
        rw [List.getD_eq_getElem?_getD, List.getElem?_append_right (by omega), hl, Nat.sub_self]; rfl
      rw [this]
      exact ⟨g3, g4⟩
    · have : ((readC S at_ s).2 ++ [(nodesIn S (readC S at_ s).1 1 (s : Int) (at_ - 1)).2]).getD j 0 = (readC S at_ s).2.getD j 0 := by
        rw [List.getD_eq_getElem?_getD, List.getElem?_append_left (by omega), ← List.getD_eq_getElem?_getD]
      rw [this]
      obtain ⟨a, b⟩ := i2 j (by omega)
      exact ⟨a.ext g1, b.ext g1⟩
/-- A tree of Read: valid, its number of nodes, and it leads to the state of the position. -/
theorem read_good {st : Int} {l : List Pt} {k : Nat} (h : readErr st l k = 0) : rightT (readT st l k) = true ∧ (readT st l k).nodes.length = k + 1 + (l.length - k - 1) * st.toNat ∧
    ∀ ins, ins.length = l.length → ins.all (stateIn (readT st l k)) = true → valueT (readT st l k) ins = ins.getD k 0 := by
  obtain ⟨h1, h2, h3, h4⟩ := readErr_parts h
  obtain ⟨s2, s8, hst⟩ := statesOk_parts h1
  obtain ⟨l1, l25⟩ := hoodOk_len h2
  have hk : k < l.length := by omega
  obtain ⟨at_, ha⟩ : ∃ a, a = l.length - k := ⟨_, rfl⟩
  have ha1 : 1 ≤ at_ := by omega
  have han : at_ ≤ l.length := by omega
  obtain ⟨c1, c2⟩ := readC_good (S := st.toNat) (n := l.length) (by omega) ha1 han st.toNat (Nat.le_refl _)
  obtain ⟨cl1, cl2⟩ := readC_length st.toNat at_ st.toNat
  have hlev : ((⟨(at_ : Int), (readC st.toNat at_ st.toNat).2⟩ : Nd).level) = ((at_ - 1 + 1 : Nat) : Int) := by show (at_ : Int) = _; omega
  have hM : allFit st.toNat l.length (readM st.toNat at_) := allFit_snoc c1 (node_fits hlev (by omega) cl2 (fun k hk => by
    obtain ⟨j, hj, rfl⟩ := List.getElem_of_mem hk
    have := (c2 j (by simp only at hj; omega)).1
    rw [List.getD_eq_getElem?_getD, List.getElem?_eq_getElem (by simpa using hj)] at this
    exact this))
  have hMl : (readM st.toNat at_).length = st.toNat * (at_ - 1) + 1 := by simp [readM, cl1]
  have hidx : ((readM st.toNat at_).length : Int) - 1 = ((readC st.toNat at_ st.toNat).1.length : Int) := by rw [hMl, cl1]; omega
  have hMw : Wire st.toNat (readM st.toNat at_) (((readM st.toNat at_).length : Int) - 1) at_ := by
    rw [hidx]
    have := node_wire (S := st.toNat) (n := l.length) (ns := (readC st.toNat at_ st.toNat).1) hlev
    rw [show at_ - 1 + 1 = at_ by omega] at this
    exact this
  have hMc : Comp st.toNat (readM st.toNat at_) (((readM st.toNat at_).length : Int) - 1) at_ (fun ins => ins.getD 0 0) := by
    rw [hidx]
    have := node_comp (S := st.toNat) (ns := (readC st.toNat at_ st.toNat).1) (l := at_ - 1) (x := ⟨(at_ : Int), (readC st.toNat at_ st.toNat).2⟩) (f := fun s _ => s) cl2 (fun s hs => (c2 s hs).2)
    rw [show at_ - 1 + 1 = at_ by omega] at this
    exact this
  obtain ⟨g1, g2, g3, g4⟩ := chain_good (S := st.toNat) (n := l.length) (readM st.toNat at_) at_ (((readM st.toNat at_).length : Int) - 1) _ (by omega) hM hMw hMc (l.length - at_) (by omega)
  rw [show at_ + (l.length - at_) = l.length by omega] at g3 g4
  have hns : (readT st l k).nodes = (nodesIn st.toNat (readM st.toNat at_) (at_ + 1) (((readM st.toNat at_).length : Int) - 1) (l.length - at_)).1 := by
    show readNs _ _ _ = _
    rw [← ha]; rfl
  have hlast : (nodesIn st.toNat (readM st.toNat at_) (at_ + 1) (((readM st.toNat at_).length : Int) - 1) (l.length - at_)).2 = ((readT st l k).nodes.length : Int) - 1 := by
    rw [hns]
    rcases Nat.eq_zero_or_pos (l.length - at_) with e | e
    · rw [e]; rfl
    · exact nodesIn_last _ _ _ _ _ e
  have hlen : (readT st l k).nodes.length = k + 1 + (l.length - k - 1) * st.toNat := by
    rw [hns, nodesIn_length, hMl, Nat.mul_comm st.toNat, show at_ - 1 = l.length - k - 1 by omega, show l.length - at_ = k by omega]
    omega
  have hbig : (l.length - k - 1) * st.toNat ≤ 24 * 8 := Nat.mul_le_mul (by omega) s8
  rw [hlast] at g3 g4
  rw [← hns] at g2 g3 g4
  refine ⟨allFit_right (S := st.toNat) (n := l.length) g2 hst rfl ⟨s2, s8⟩ h2 (by omega) (by omega) (last_level g3 (by omega) rfl), hlen, fun ins hi hs => ?_⟩
  have := g4 (readT st l k) (prefOf.refl _) ins hi (fun x hx => by
    rw [List.all_eq_true] at hs
    have := hs x hx
    simp only [stateIn, decide_eq_true_eq] at this
    refine ⟨this.1, ?_⟩
    have h9 : (readT st l k).states = st := rfl
    omega)
  rw [valueT, this]
  show (ins.drop (l.length - at_)).getD 0 0 = _
  rw [List.getD_eq_getElem?_getD, List.getElem?_drop, List.getD_eq_getElem?_getD, show l.length - at_ + 0 = k by omega]
end Go.Proofs.YtlmdjkmcplobnaaDoor

/-
  Rule trees, plain: equality, sizes, quiet rules, and a tree with a node in front that nobody needs. Nothing of the program stands here.
-/
namespace Go.Proofs.YtlmdjkmcplobnaaDoor
open Go.RowKit
set_option linter.unusedSimpArgs false
set_option linter.unusedVariables false

instance : DecidableEq Pt := fun a b => if h : a.x = b.x ∧ a.y = b.y then isTrue (by cases a; cases b; simp only at h; rw [h.1, h.2]) else isFalse (fun e => h (by rw [e]; exact ⟨rfl, rfl⟩))
instance : DecidableEq Nd := fun a b => if h : a.level = b.level ∧ a.next = b.next then isTrue (by cases a; cases b; simp only at h; rw [h.1, h.2]) else isFalse (fun e => h (by rw [e]; exact ⟨rfl, rfl⟩))
def sameT (a b : Tre) : Bool := decide (a.states = b.states ∧ a.hood = b.hood ∧ a.nodes = b.nodes)
theorem sameT_self (a : Tre) : sameT a a = true := decide_eq_true ⟨rfl, rfl, rfl⟩
theorem sameT_iff (a b : Tre) : sameT a b = true ↔ a = b := by
  unfold sameT
  rw [decide_eq_true_iff]
  constructor
  · intro h; cases a; cases b; simp only at h; rw [h.1, h.2.1, h.2.2]
  · rintro rfl; exact ⟨rfl, rfl, rfl⟩
def quietT (t : Tre) : Bool := rightT t && decide (valueT t (List.replicate t.hood.length 0) = 0)
def bump (l : List Int) (i : Nat) : List Int := l.set i (l.getD i 0 + 1)
theorem bump_length (l : List Int) (i : Nat) : (bump l i).length = l.length := by simp [bump]
def sizeN (n : Nat) (ns : List Nd) : List Int := ns.foldl (fun l x => bump l (x.level - 1).toNat) (List.replicate n 0)
def sizeT (t : Tre) : List Int := if rightT t = true then sizeN t.hood.length t.nodes else []
theorem sizeN_length (n : Nat) (ns : List Nd) : (sizeN n ns).length = n := by
  unfold sizeN
  have : ∀ l : List Int, (ns.foldl (fun l x => bump l (x.level - 1).toNat) l).length = l.length := by
    induction ns with
    | nil => intro l; rfl
    | cons x ns ih => intro l; simp only [List.foldl_cons]; rw [ih, bump_length]
  rw [this]; simp
theorem nd_snoc (l : List Nd) (k : Nat) (h : k < l.length) : l.take (k + 1) = l.take k ++ [l.getD k default] := by
  rw [List.take_succ_eq_append_getElem h, List.getD_eq_getElem?_getD, List.getElem?_eq_getElem h]; rfl
theorem sizeN_snoc (n : Nat) (ns : List Nd) (k : Nat) (h : k < ns.length) : sizeN n (ns.take (k + 1)) = bump (sizeN n (ns.take k)) ((ns.getD k default).level - 1).toNat := by
  rw [nd_snoc ns k h, sizeN, List.foldl_append]; rfl
theorem zeros_in {t : Tre} (h : rightT t = true) : (List.replicate t.hood.length (0 : Int)).all (stateIn t) = true := by
  obtain ⟨_, ⟨⟨h1, _⟩, _⟩, _⟩ := rightT_parts h
  rw [List.all_eq_true]
  intro x hx
  rw [List.eq_of_mem_replicate hx]
  exact decide_eq_true ⟨by omega, by omega⟩

/- A node in front. -/
def shiftI (l k : Int) : Int := if 1 < l then k + 1 else k
def shiftNd (x : Nd) : Nd := ⟨x.level, x.next.map (shiftI x.level)⟩
def shiftT (t : Tre) : Tre := ⟨t.states, t.hood, ⟨1, List.replicate t.states.toNat 0⟩ :: t.nodes.map shiftNd⟩
theorem shiftNd_get (l : List Nd) (k : Nat) (h : k < l.length) : (l.map shiftNd).getD k default = shiftNd (l.getD k default) := by
  simp [List.getD_eq_getElem?_getD, List.getElem?_map, List.getElem?_eq_getElem h]
theorem shiftNext_get (x : Nd) (s : Nat) (h : s < x.next.length) : (shiftNd x).next.getD s 0 = shiftI x.level (x.next.getD s 0) := by
  simp [shiftNd, List.getD_eq_getElem?_getD, List.getElem?_map, List.getElem?_eq_getElem h]
theorem shift_right {t : Tre} (h : rightT t = true) (hn : t.nodes.length ≤ 4000) : rightT (shiftT t) = true := by
  obtain ⟨hh, ⟨⟨h1, h2⟩, h3, h4, h5⟩, h6⟩ := rightT_parts h
  obtain ⟨l1, l25⟩ := hoodOk_len hh
  have hL : (shiftT t).nodes.length = t.nodes.length + 1 := by simp [shiftT]
  have hg : ∀ k, k < t.nodes.length → (shiftT t).nodes.getD (k + 1) default = shiftNd (t.nodes.getD k default) := fun k hk => by
    show (_ :: t.nodes.map shiftNd).getD (k + 1) default = _
    rw [List.getD_cons_succ, shiftNd_get _ _ hk]
  have hhead : headOk (shiftT t) = true := decide_eq_true ⟨⟨h1, h2⟩, by omega, by omega, by
    rw [hL, show t.nodes.length + 1 - 1 = (t.nodes.length - 1) + 1 by omega, hg _ (by omega)]
    exact h5⟩
  have hnodes : nodesOk (shiftT t) = true := decide_eq_true (fun i hi => by
    cases i with
    | zero =>
      show nodeOk (shiftT t) 0 = true
      have e : (shiftT t).nodes.getD 0 default = ⟨1, List.replicate t.states.toNat 0⟩ := rfl
      rw [nodeOk, e, Bool.and_eq_true]
      refine ⟨decide_eq_true ⟨by show (1 : Int) ≤ 1; omega, by show (1 : Int) ≤ t.hood.length; omega, by show ((List.replicate t.states.toNat (0 : Int)).length : Int) = t.states; rw [List.length_replicate]; omega⟩, ?_⟩
      rw [List.all_eq_true]
      intro k hk
      have hk0 : k = 0 := List.eq_of_mem_replicate hk
      subst hk0
      exact decide_eq_true ⟨by omega, fun _ => by show (0 : Int) < t.states; omega, fun h => absurd h (by show ¬ (1 : Int) < 1; omega)⟩
    | succ i =>
      have hi' : i < t.nodes.length := by omega
      obtain ⟨⟨a1, a2, a3⟩, a4⟩ := nodeOk_parts (h6 i hi')
      rw [nodeOk, hg _ hi', Bool.and_eq_true]
      refine ⟨decide_eq_true ⟨a1, a2, by show (((t.nodes.getD i default).next.map _).length : Int) = _; rw [List.length_map]; exact a3⟩, ?_⟩
      rw [List.all_eq_true]
      intro k hk
      obtain ⟨s, hs, rfl⟩ := List.getElem_of_mem hk
      have hs' : s < (t.nodes.getD i default).next.length := by simpa [shiftNd] using hs
      have hl := a4 s hs'
      have hget : (shiftNd (t.nodes.getD i default)).next[s] = shiftI (t.nodes.getD i default).level ((t.nodes.getD i default).next.getD s 0) := by
        have h1 := shiftNext_get _ _ hs'
        rw [List.getD_eq_getElem?_getD, List.getElem?_eq_getElem hs] at h1
        exact h1
      rw [hget]
      generalize (t.nodes.getD i default).next.getD s 0 = k at hl
      generalize t.nodes.getD i default = x at hl a1
      simp only [linkOk, decide_eq_true_eq] at hl
      obtain ⟨b1, b2, b3⟩ := hl
      show linkOk (shiftT t) (i + 1) (shiftNd x) (shiftI x.level k) = true
      unfold shiftI
      by_cases hlev : 1 < x.level
      · rw [if_pos hlev]
        obtain ⟨c1, c2⟩ := b3 hlev
        refine decide_eq_true ⟨by omega, fun e => absurd hlev (by rw [show x.level = 1 from e]; omega), fun _ => ⟨by omega, ?_⟩⟩
        rw [show (k + 1).toNat = k.toNat + 1 by omega, hg _ (by omega)]
        exact c2
      · rw [if_neg hlev]
        exact decide_eq_true ⟨b1, fun e => b2 e, fun e => absurd e hlev⟩)
  rw [rightT, Bool.and_eq_true, Bool.and_eq_true]
  exact ⟨hh, hhead, hnodes⟩
theorem shift_walk {t : Tre} (h : rightT t = true) (ins : List Int) : ∀ k : Nat, k < t.nodes.length → (t.nodes.getD k default).level = (ins.length : Int) → ins.all (stateIn t) = true → walkT (shiftT t) ((k : Int) + 1) ins = walkT t k ins := by
  obtain ⟨_, ⟨⟨h1, h2⟩, _⟩, h6⟩ := rightT_parts h
  induction ins with
  | nil =>
    intro k hk hl
    have := (nodeOk_parts (h6 k hk)).1.1
    rw [hl] at this
    simp at this
  | cons s rest ih =>
    intro k hk hl hs
    rw [List.all_cons, Bool.and_eq_true] at hs
    obtain ⟨hs1, hs2⟩ := hs
    simp only [stateIn, decide_eq_true_eq] at hs1
    obtain ⟨⟨a1, a2, a3⟩, a4⟩ := nodeOk_parts (h6 k hk)
    have hsl : s.toNat < (t.nodes.getD k default).next.length := by omega
    have hl2 := a4 _ hsl
    show walkT (shiftT t) (stepT (shiftT t) ((k : Int) + 1) s) rest = walkT t (stepT t k s) rest
    have e1 : stepT (shiftT t) ((k : Int) + 1) s = shiftI (t.nodes.getD k default).level (stepT t k s) := by
      unfold stepT
      rw [show ((k : Int) + 1).toNat = k + 1 by omega]
      show ((_ :: t.nodes.map shiftNd).getD (k + 1) default).next.getD s.toNat 0 = _
      rw [List.getD_cons_succ, shiftNd_get _ _ hk, shiftNext_get _ _ hsl, Int.toNat_natCast]
    have e2 : stepT t k s = (t.nodes.getD k default).next.getD s.toNat 0 := by unfold stepT; rw [Int.toNat_natCast]
    rw [e1]
    rw [← e2] at hl2
    generalize stepT t k s = u at hl2
    simp only [linkOk, decide_eq_true_eq] at hl2
    obtain ⟨b1, b2, b3⟩ := hl2
    unfold shiftI
    by_cases hlev : 1 < (t.nodes.getD k default).level
    · rw [if_pos hlev]
      obtain ⟨c1, c2⟩ := b3 hlev
      obtain ⟨m, rfl⟩ : ∃ m : Nat, u = (m : Int) := ⟨u.toNat, by omega⟩
      rw [Int.toNat_natCast] at c2
      refine ih m (by omega) ?_ hs2
      rw [c2, hl]; simp
    · rw [if_neg hlev]
      have : rest.length = 0 := by rw [hl] at hlev; simp at hlev; omega
      rw [List.eq_nil_of_length_eq_zero this]; rfl
/-- The node in front changes no value. -/
theorem shift_eval {t : Tre} (h : rightT t = true) (hn : t.nodes.length ≤ 4000) (ins : List Int) : evalErr (shiftT t) ins = evalErr t ins ∧ evalV (shiftT t) ins = evalV t ins := by
  have hr := shift_right h hn
  have e : evalErr (shiftT t) ins = evalErr t ins := by
    unfold evalErr
    rw [if_pos hr, if_pos h]; rfl
  refine ⟨e, ?_⟩
  unfold evalV
  rw [e]
  by_cases h0 : evalErr t ins = 0
  · rw [if_pos h0, if_pos h0]
    obtain ⟨_, ⟨_, h3, h4, h5⟩, _⟩ := rightT_parts h
    have hl : ins.length = t.hood.length ∧ ins.all (stateIn t) = true := by
      unfold evalErr at h0
      rw [if_pos h] at h0
      split at h0
      · split at h0
        · exact ⟨by assumption, by assumption⟩
        · omega
      · omega
    have hs := shift_walk h ins (t.nodes.length - 1) (by omega) (by rw [h5, hl.1]) hl.2
    unfold valueT
    have e1 : ((shiftT t).nodes.length : Int) - 1 = ((t.nodes.length - 1 : Nat) : Int) + 1 := by simp [shiftT]; omega
    have e2 : (t.nodes.length : Int) - 1 = ((t.nodes.length - 1 : Nat) : Int) := by omega
    rw [e1, e2, hs]
  · rw [if_neg h0, if_neg h0]
end Go.Proofs.YtlmdjkmcplobnaaDoor

/-
  A rule tree that is being built, in memory: its struct, its nodes' row, the rows of its nodes' elements; what a write to it leaves. Nothing of the program but its types stands here.
-/
namespace Go.Proofs.YtlmdjkmcplobnaaDoor
open Go.RowKit
set_option linter.unusedSimpArgs false
set_option linter.unusedVariables false

/-- What stays where a call writes to the tree at block b and to its nodes' row (from block B on): all below b, all blocks of other types, all nodes' blocks below B. -/
structure TFr (B b : Nat) (w w' : World) : Prop where
  below : Below b w w'
  keep : ∀ (k : Nat) (cs : Array Value) (T : TypeId) (fz : Nat × Nat), T ≠ 31 → (T = 72 → k < B) → w.heap[k]? = some (Obj.cells cs T fz) → w'.heap[k]? = some (Obj.cells cs T fz)
section
variable {B b : Nat} {w w1 w' : World}
theorem TFr.refl (B b : Nat) (w : World) : TFr B b w w := ⟨Below.refl _ _, fun _ _ _ _ _ _ h => h⟩
theorem TFr.trans (h : TFr B b w w1) (k : TFr B b w1 w') : TFr B b w w' := ⟨h.below.trans k.below, fun g cs T fz h1 h2 hh => k.keep g cs T fz h1 h2 (h.keep g cs T fz h1 h2 hh)⟩
theorem TFr.drew (h : TFr B b w w1) : TFr B b w w1.drew := ⟨h.below.drew, h.keep⟩
theorem TFr.alloc (h : TFr B b w w1) (hB : b ≤ w1.heap.size) (o : Obj) : TFr B b w (w1.alloc o) :=
  ⟨h.below.alloc hB o, fun g cs T fz h1 h2 hh => by
    have := h.keep g cs T fz h1 h2 hh
    rw [Below.heap_alloc w1 o g (heap_lt this)]; exact this⟩
theorem TFr.set {xs : List Value} {p : Addr} (h : TFr B b w w1) (hr : Row w1 p.block 31 xs) (hB : b ≤ p.block) (u : Value) : TFr B b w (w1.setCell p u) :=
  ⟨h.below.setCell hB u, fun g cs T fz h1 h2 hh => by
    have := h.keep g cs T fz h1 h2 hh
    rw [Below.heap_setCell w1 p u g (fun e => by
      subst e
      unfold Row at hr
      rw [hr] at this
      injection this with this
      injection this with _ ht
      exact h1 ht.symm)]
    exact this⟩
theorem TFr.ofBelow (h : Below w.heap.size w w') (hB : b ≤ w.heap.size) : TFr B b w w' :=
  ⟨h.mono hB, fun g cs T fz _ _ hh => by rw [h.block g (heap_lt hh)]; exact hh⟩
/-- The nodes' row grows. -/
theorem TFr.grownN {sz n : Nat} {v : Value} {xs : List Value} (h : TFr B b w w1) (ho : w1.ownsRow B 72 sz v n xs) (hB : b ≤ B) (hS : b ≤ w1.heap.size) (hg : w1.grownBy w' v.ownBlock) : TFr B b w w' := by
  refine ⟨h.below.grown hg hS (fun k hk => Nat.le_trans hB (own_block_type ho hk).choose_spec.2), fun g cs T fz h1 h2 hh => ?_⟩
  have := h.keep g cs T fz h1 h2 hh
  rw [hg.block g (heap_lt this) (fun e => by
    obtain ⟨cur, hc, hBg⟩ := own_block_type ho e.symm
    rw [hc] at this
    injection this with this
    injection this with _ ht
    have := h2 ht.symm
    omega)]
  exact this
theorem TFr.own {base sz n : Nat} {e : TypeId} {v : Value} {xs : List Value} (h : TFr B b w w') (ho : w.ownsRow base e sz v n xs) (h1 : e ≠ 31) (h2 : e ≠ 72) : w'.ownsRow base e sz v n xs :=
  ⟨ho.1, ho.2.imp id (fun ⟨g, cap, cur, a, c, d, r⟩ => ⟨g, cap, cur, a, c, h.keep g cur e (0, 0) h1 (fun e => absurd e h2) d, r⟩)⟩
theorem TFr.row {g : Nat} {T : TypeId} {xs : List Value} (h : TFr B b w w') (hr : Row w g T xs) (h1 : T ≠ 31) (h2 : T = 72 → g < B) : Row w' g T xs := h.keep g _ T (0, 0) h1 h2 hr
end

theorem nodesCells_snoc (ns : List Nd) (sl : List Sl) (x : Nd) (s : Sl) (h : sl.length = ns.length) : nodesCells (ns ++ [x]) (sl ++ [s]) = nodesCells ns sl ++ [.int .i64 x.level, .slice s.at_ s.len s.cap] := by
  unfold nodesCells
  rw [List.zip_append h.symm, List.flatMap_append]
  rfl
theorem gsl_snoc (sl : List Sl) (s : Sl) : (sl ++ [s]).getD sl.length default = s := by
  rw [List.getD_eq_getElem?_getD, List.getElem?_append_right (Nat.le_refl _)]; simp
theorem gsl_old (sl : List Sl) (s : Sl) (i : Nat) (h : i < sl.length) : (sl ++ [s]).getD i default = sl.getD i default := by
  rw [List.getD_eq_getElem?_getD, List.getElem?_append_left h, ← List.getD_eq_getElem?_getD]

/-- The rows of the nodes' elements; none of them in block q. -/
def NextAt (w : World) (ns : List Nd) (sl : List Sl) (q : Option Nat) : Prop :=
  ∀ i, i < ns.length → w.ownsRow 0 3 1 (.slice (sl.getD i default).at_ (sl.getD i default).len (sl.getD i default).cap) (sl.getD i default).len (ints (ns.getD i default).next) ∧
    ∀ k, q = some k → (Value.slice (sl.getD i default).at_ (sl.getD i default).len (sl.getD i default).cap).ownBlock ≠ some k
/-- The tree that is built, at block b: its states, its neighbourhood, its nodes (a row from block B on). -/
def TSt (w : World) (B b : Nat) (st : Int) (hv : Value) (ns : List Nd) (q : Option Nat) : Prop :=
  ∃ (v : Value) (sl : List Sl), Row w b 31 [.int .i64 st, hv, v] ∧ w.ownsRow B 72 2 v ns.length (nodesCells ns sl) ∧ sl.length = ns.length ∧ b ≤ B ∧ NextAt w ns sl q
section
variable {w w' w0 : World} {B b : Nat} {st : Int} {hv : Value} {ns : List Nd} {q : Option Nat}
theorem NextAt.keep {sl : List Sl} (h : NextAt w ns sl q) (hk : ∀ k cs, w.heap[k]? = some (Obj.cells cs 3 (0, 0)) → (∀ i, i < ns.length → (Value.slice (sl.getD i default).at_ (sl.getD i default).len (sl.getD i default).cap).ownBlock = some k → w'.heap[k]? = some (Obj.cells cs 3 (0, 0)))) : NextAt w' ns sl q := by
  intro i hi
  obtain ⟨h1, h2⟩ := h i hi
  refine ⟨⟨h1.1, h1.2.imp id (fun ⟨g, cap, cur, a, c, d, r⟩ => ⟨g, cap, cur, a, c, hk g cur d i hi (by rw [a]; rfl), r⟩)⟩, h2⟩
theorem TSt.new (w : World) (st : Int) (hv : Value) (q : Option Nat) {b B : Nat} (hr : Row w b 31 [.int .i64 st, hv, .slice none 0 0]) (hB : b ≤ B) : TSt w B b st hv [] q :=
  ⟨_, [], hr, World.ownsRow_nil _ _ _ _, rfl, hB, fun i hi => absurd hi (Nat.not_lt_zero _)⟩
theorem TSt.blk (h : TSt w B b st hv ns q) : b < w.heap.size ∧ b ≤ B := by
  obtain ⟨v, sl, h1, _, _, h3, _⟩ := h
  exact ⟨h1.lt, h3⟩
theorem TSt.op (h : TSt w B b st hv ns q) : ∃ NA nc sl, Row w b 31 [.int .i64 st, hv, .slice NA ns.length nc] ∧ w.ownsRow B 72 2 (.slice NA ns.length nc) ns.length (nodesCells ns sl) ∧ sl.length = ns.length ∧ b ≤ B ∧ NextAt w ns sl q := by
  obtain ⟨v, sl, h1, h2, h3, h4, h5⟩ := h
  obtain ⟨NA, nc, rfl, _⟩ := Rd.own h2
  exact ⟨NA, nc, sl, h1, h2, h3, h4, h5⟩
theorem TSt.keepAll (h : TSt w B b st hv ns q) (hb : ∀ k, k < w.heap.size → w'.heap[k]? = w.heap[k]?) : TSt w' B b st hv ns q := by
  obtain ⟨v, sl, h1, h2, h3, h4, h5⟩ := h
  exact ⟨v, sl, (hb b h1.lt).trans h1, ⟨h2.1, h2.2.imp id (fun ⟨g, cap, cur, a, b', c, d⟩ => ⟨g, cap, cur, a, b', (hb g (heap_lt c)).trans c, d⟩)⟩, h3, h4, h5.keep (fun k cs hk _ _ _ => (hb k (heap_lt hk)).trans hk)⟩
theorem TSt.below (h : TSt w B b st hv ns q) (hb : Below w.heap.size w w') : TSt w' B b st hv ns q := h.keepAll hb.block
theorem TSt.alloc (h : TSt w B b st hv ns q) (o : Obj) : TSt (w.alloc o) B b st hv ns q := h.keepAll (fun k hk => Below.heap_alloc w o k hk)
theorem TSt.drew (h : TSt w B b st hv ns q) : TSt w.drew B b st hv ns q := h
/-- The avoided block is forgotten, or another one, not yet there, is avoided. -/
theorem TSt.free (h : TSt w B b st hv ns q) : TSt w B b st hv ns none := by
  obtain ⟨v, sl, h1, h2, h3, h4, h5⟩ := h
  exact ⟨v, sl, h1, h2, h3, h4, fun i hi => ⟨(h5 i hi).1, fun k hk => by cases hk⟩⟩
/-- A row of integers grows: the one that the nodes avoid. -/
theorem TSt.grownQ {n : Nat} {u u' : Value} {xs : List Value} (h : TSt w B b st hv ns u.ownBlock) (ho : w.ownsRow 0 3 1 u n xs) (hg : w.grownBy w' u.ownBlock) (ha : u'.ownBlock = u.ownBlock ∨ u'.ownBlock = some w.heap.size) : TSt w' B b st hv ns u'.ownBlock := by
  obtain ⟨v, sl, h1, h2, h3, h4, h5⟩ := h
  have key : ∀ k cs T, T ≠ 3 → w.heap[k]? = some (Obj.cells cs T (0, 0)) → w'.heap[k]? = some (Obj.cells cs T (0, 0)) := fun k cs T ht hh => by
    rw [hg.block k (heap_lt hh) (fun he => by
      obtain ⟨cur, hc, _⟩ := own_block_type ho he.symm
      rw [hc] at hh
      injection hh with hh
      injection hh with _ h4
      exact ht h4.symm)]
    exact hh
  refine ⟨v, sl, key b _ _ (by decide) h1, ⟨h2.1, h2.2.imp id (fun ⟨g, cap, cur, a, b', c, d⟩ => ⟨g, cap, cur, a, b', key g cur _ (by decide) c, d⟩)⟩, h3, h4, fun i hi => ?_⟩
  obtain ⟨i1, i2⟩ := h5 i hi
  have hlt := own_lt i1
  refine ⟨own_grown i1 hg (fun k hk e => i2 k e hk), fun k hk he => ?_⟩
  rcases ha with ha | ha
  · exact i2 k (ha ▸ hk) he
  · rw [ha] at hk
    injection hk with hk
    have := hlt k he
    omega
/-- A node is appended and stored. -/
theorem TSt.push {v v' : Value} {n : Nat} {x : Nd} {s : Sl} {sl : List Sl} (hr : Row w b 31 [.int .i64 st, hv, v]) (ho : w.ownsRow B 72 2 v n (nodesCells ns sl)) (hn : ns.length = n) (hsl : sl.length = ns.length) (hB : b ≤ B) (hx : NextAt w ns sl q)
    (hs : w.ownsRow 0 3 1 (.slice s.at_ s.len s.cap) s.len (ints x.next)) (hq : ∀ k, q = some k → (Value.slice s.at_ s.len s.cap).ownBlock ≠ some k) (hg : w.grownBy w' v.ownBlock)
    (ho' : w'.ownsRow B 72 2 v' (n + 1) (nodesCells ns sl ++ [.int .i64 x.level, .slice s.at_ s.len s.cap])) (hF : TFr B b w0 w) :
    Row w' b 31 [.int .i64 st, hv, v] ∧ TSt (w'.setCell ⟨b, 2, none⟩ v') B b st hv (ns ++ [x]) q ∧ TFr B b w0 (w'.setCell ⟨b, 2, none⟩ v') ∧ TFr B b w0 w' := by
  have hbl := hr.lt
  have r1 : Row w' b 31 [.int .i64 st, hv, v] := hr.grown hg (fun e => (own_ne_row ho hr (by decide)) e.symm)
  have f1 : TFr B b w0 w' := TFr.grownN hF ho hB (by omega) hg
  have f2 : TFr B b w w' := TFr.grownN (TFr.refl _ _ _) ho hB (by omega) hg
  have f3 : TFr B b w (w'.setCell ⟨b, 2, none⟩ v') := TFr.set (p := ⟨b, 2, none⟩) f2 r1 (Nat.le_refl _) _
  refine ⟨r1, ⟨v', sl ++ [s], r1.set 2 v', ?_, ?_, hB, ?_⟩, TFr.set (p := ⟨b, 2, none⟩) f1 r1 (Nat.le_refl _) _, f1⟩
  · rw [nodesCells_snoc _ _ _ _ hsl, List.length_append, List.length_singleton, hn]
    exact own_set (p := ⟨b, 2, none⟩) ho' r1 (by decide) v'
  · rw [List.length_append, List.length_append, hsl]; rfl
  · intro i hi
    rw [List.length_append, List.length_singleton] at hi
    by_cases e : i < ns.length
    · rw [(prefOf.snoc ns x).get i e, gsl_old sl s i (by omega)]
      exact ⟨f3.own (hx i e).1 (by decide) (by decide), (hx i e).2⟩
    · obtain rfl : i = ns.length := by omega
      rw [gnd_snoc]
      have e2 : (sl ++ [s]).getD ns.length default = s := by rw [← hsl]; exact gsl_snoc sl s
      rw [e2]
      exact ⟨f3.own hs (by decide) (by decide), hq⟩
/-- The tree that is built, as it lies there. -/
theorem TSt.tree {HA : Option Addr} {hn hc : Nat} {hood : List Pt} (h : TSt w B b st (.slice HA hn hc) ns q) (hh : Rd w w.heap.size 2 HA hn (hoodCells hood)) (h63 : hn ≤ maxLen) (hl : ns.length ≤ 5000) (hx : ∀ x ∈ ns, x.next.length ≤ 20) :
    ∃ NA nc sl, Row w b 31 [.int .i64 st, .slice HA hn hc, .slice NA ns.length nc] ∧ TAt w ⟨st, hood, ns⟩ HA NA hn ns.length sl := by
  obtain ⟨NA, nc, sl, h1, h2, h3, _, h5⟩ := h.op
  refine ⟨NA, nc, sl, h1, hh, Rd.of_own h2, h3, fun i hi => ?_, h63, by unfold maxLen; show ns.length ≤ _; omega⟩
  have h6 := (h5 i hi).1
  refine ⟨Rd.of_own h6, ?_⟩
  have h7 := h6.1
  rw [ints_length] at h7
  have h8 : (ns.getD i default) ∈ ns := by
    rw [List.getD_eq_getElem?_getD, List.getElem?_eq_getElem hi]; exact List.getElem_mem hi
  have := hx _ h8
  unfold maxLen
  omega
end
theorem nodesIn_next (S : Nat) (ns : List Nd) (lo : Nat) (b : Int) (c : Nat) (x : Nd) (h : x ∈ (nodesIn S ns lo b c).1) : x ∈ ns ∨ x.next.length = S := by
  induction c with
  | zero => exact .inl h
  | succ c ih =>
    simp only [nodesIn, List.mem_append, List.mem_singleton] at h
    rcases h with h | rfl
    · exact ih h
    · exact .inr (by simp)

/-- What a call returns that returns a tree and an error. -/
def TPost (t : Tre) (k : Int) (w : World) (e : Ending) (w' : World) : Prop := ∃ HA NA hn hc nn nc sl, e = .returned (.tuple #[.agg #[.int .i64 t.states, .slice HA hn hc, .slice NA nn nc], .int .i64 k]) ∧ TAt w' t HA NA hn nn sl ∧ Below w.heap.size w w'
theorem noTre_at (w : World) : TAt w noTre none none 0 0 [] := ⟨Rd.empty _, Rd.empty _, rfl, fun i hi => absurd hi (Nat.not_lt_zero _), by unfold maxLen; omega, by unfold maxLen; omega⟩
theorem tpost_err {t : Tre} {k : Int} {w w' : World} (h : t = noTre) (hb : Below w.heap.size w w') : TPost t k w (.returned (.tuple #[.agg #[.int .i64 0, .slice none 0 0, .slice none 0 0], .int .i64 k])) w' := by
  subst h
  exact ⟨none, none, 0, 0, 0, 0, [], rfl, noTre_at _, hb⟩
end Go.Proofs.YtlmdjkmcplobnaaDoor
