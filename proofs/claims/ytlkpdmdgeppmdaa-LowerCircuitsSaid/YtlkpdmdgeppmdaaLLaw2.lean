/-
  The circuit of a rule tree, the nodes: validity, size, and the outputs as bits of the tree's value. Nothing of the program stands here.
-/
import Derived.Test.YtlkpdmdgeppmdaaLLaw
namespace Go.Proofs.Ytlkpdmdgeppmdaa
open Go.RowKit
set_option linter.unusedSimpArgs false
set_option linter.unusedVariables false

/-- The state of position i in a list of bits. -/
def stF (vs : List Bool) (b i : Nat) : Int := valB ((vs.drop (i * b)).take b)
def stsF (vs : List Bool) (b n : Nat) : List Int := (List.range n).map (stF vs b)
theorem stsF_length (vs : List Bool) (b n : Nat) : (stsF vs b n).length = n := by simp [stsF]
theorem stsF_drop (vs : List Bool) (b n i : Nat) (h : i < n) : (stsF vs b n).drop i = stF vs b i :: (stsF vs b n).drop (i + 1) := by
  rw [List.drop_eq_getElem_cons (by rw [stsF_length]; exact h)]
  simp [stsF]
theorem row_lt {n b i k : Nat} (hi : i < n) (hk : k < b) : i * b + k < n * b := by
  have : (i + 1) * b ≤ n * b := Nat.mul_le_mul_right b hi
  rw [Nat.add_mul] at this; omega
theorem bitsOf_get (b : Nat) (v : Int) (k : Nat) (h : k < b) : (bitsOf b v).getD k false = bitI v k := by
  simp [bitsOf, List.getD_eq_getElem?_getD, List.getElem?_map, List.getElem?_range h]
theorem part_length {vs : List Bool} {n b i : Nat} (hv : vs.length = n * b) (hi : i < n) : ((vs.drop (i * b)).take b).length = b := by
  have : (i + 1) * b ≤ n * b := Nat.mul_le_mul_right b hi
  rw [Nat.add_mul] at this
  simp; omega
theorem part_get {vs : List Bool} {b i k : Nat} (hk : k < b) : ((vs.drop (i * b)).take b).getD k false = vs.getD (i * b + k) false := by
  simp [List.getD_eq_getElem?_getD, List.getElem?_take, hk]
theorem bl_ext {xs ys : List Bool} (hl : xs.length = ys.length) (h : ∀ k, k < xs.length → xs.getD k false = ys.getD k false) : xs = ys := by
  apply List.ext_getElem hl
  intro k h1 h2
  have := h k h1
  simpa [List.getD_eq_getElem?_getD, List.getElem?_eq_getElem h1, List.getElem?_eq_getElem h2] using this
theorem atS_eq {vs : List Bool} {n b i s : Nat} (hv : vs.length = n * b) (hi : i < n) (hs : (s : Int) < 2 ^ b) : atS vs b i s = (stF vs b i == (s : Int)) := by
  rw [Bool.eq_iff_iff]
  simp only [atS, List.all_eq_true, List.mem_range, beq_iff_eq]
  constructor
  · intro h
    have e : (vs.drop (i * b)).take b = bitsOf b s := bl_ext (by rw [part_length hv hi, bitsOf_length]) (fun k hk => by
      rw [part_length hv hi] at hk
      rw [part_get hk, bitsOf_get b s k hk, h k hk])
    unfold stF; rw [e, valB_bits b s (by omega) hs]
  · intro h k hk
    have e : bitsOf b s = (vs.drop (i * b)).take b := by
      apply valB_inj
      · rw [part_length hv hi, bitsOf_length]
      · rw [valB_bits b s (by omega) hs]; exact h.symm
    rw [← part_get hk, ← e, bitsOf_get b s k hk]
theorem stF_bd (vs : List Bool) (b i : Nat) : 0 ≤ stF vs b i := (valB_bd _).1
theorem any_pick (S : Nat) (st : Int) (h0 : 0 ≤ st) (f : Nat → Bool) : (List.range S).any (fun s => (st == (s : Int)) && f s) = (decide (st < (S : Int)) && f st.toNat) := by
  rw [Bool.eq_iff_iff]
  simp only [List.any_eq_true, List.mem_range, Bool.and_eq_true, beq_iff_eq, decide_eq_true_eq]
  constructor
  · rintro ⟨s, hs, rfl, hf⟩
    exact ⟨by omega, by simpa using hf⟩
  · rintro ⟨h1, h2⟩
    exact ⟨st.toNat, by omega, by omega, h2⟩
def okSts (S : Int) (l : List Int) : Bool := l.all (fun s => decide (s < S))
def tailOf (t : Tre) (vs : List Bool) (lev : Int) : List Int := (stsF vs (bitsF t.states) t.hood.length).drop ((t.hood.length : Int) - lev).toNat
def valN (t : Tre) (vs : List Bool) (i k : Nat) : Bool := okSts t.states (tailOf t vs (t.nodes.getD i default).level) && bitI (walkT t i (tailOf t vs (t.nodes.getD i default).level)) k
def nextR (t : Tre) (vs : List Bool) (x : Nd) (k s : Nat) : Bool := if upN x = true then valN t vs (x.next.getD s 0).toNat k else bitI (x.next.getD s 0) k

theorem any_congr_range (S : Nat) (f g : Nat → Bool) (h : ∀ s, s < S → f s = g s) : (List.range S).any f = (List.range S).any g := by
  rw [Bool.eq_iff_iff, List.any_eq_true, List.any_eq_true]
  refine exists_congr fun s => and_congr_right fun hs => ?_
  rw [h s (List.mem_range.1 hs)]
theorem node_step {t : Tre} (hr : rightT t = true) {vs : List Bool} (hv : vs.length = lowN t) (i k : Nat) (hi : i < t.nodes.length) :
    (List.range t.states.toNat).any (fun s => atS vs (bitsF t.states) ((t.hood.length : Int) - (t.nodes.getD i default).level).toNat s && nextR t vs (t.nodes.getD i default) k s) = valN t vs i k := by
  obtain ⟨_, ⟨hs, _⟩, hn⟩ := rightT_parts hr
  obtain ⟨⟨l1, l2, l3⟩, hlink⟩ := nodeOk_parts (hn i hi)
  have hw : ∀ s : Int, walkT t i [s] = (t.nodes.getD i default).next.getD s.toNat 0 := fun s => by simp [walkT, stepT]
  have hw2 : ∀ (s : Int) (l : List Int), walkT t i (s :: l) = walkT t ((t.nodes.getD i default).next.getD s.toNat 0) l := fun s l => by simp [walkT, stepT]
  unfold valN tailOf
  generalize hx : t.nodes.getD i default = x at l1 l2 l3 hlink hw hw2 ⊢
  have hp : ((t.hood.length : Int) - x.level).toNat < t.hood.length := by omega
  generalize hpos : ((t.hood.length : Int) - x.level).toNat = pos at hp ⊢
  rw [stsF_drop _ _ _ _ hp]
  have h0 := stF_bd vs (bitsF t.states) pos
  have hpw := bitsF_pow hs
  rw [any_congr_range t.states.toNat _ (fun s => (stF vs (bitsF t.states) pos == (s : Int)) && nextR t vs x k s) (fun s hs' => by rw [atS_eq hv hp (by omega)]), any_pick _ _ h0, hw2]
  simp only [okSts, List.all_cons]
  rw [Int.toNat_of_nonneg (by omega)]
  generalize hst : stF vs (bitsF t.states) pos = st at h0
  cases hd : decide (st < t.states)
  · simp
  · rw [decide_eq_true_eq] at hd
    simp only [Bool.true_and]
    have hlk := hlink st.toNat (by omega)
    simp only [linkOk, decide_eq_true_eq] at hlk
    obtain ⟨k1, k2, k3⟩ := hlk
    unfold nextR
    by_cases hup : 1 < x.level
    · rw [if_pos (by simpa [upN] using hup)]
      obtain ⟨k4, k5⟩ := k3 hup
      unfold valN tailOf
      rw [k5, show ((t.hood.length : Int) - (x.level - 1)).toNat = pos + 1 by omega, Int.toNat_of_nonneg k1]
      rfl
    · rw [if_neg (by simpa [upN] using hup)]
      have : pos + 1 = t.hood.length := by omega
      rw [this, List.drop_of_length_le (by rw [stsF_length]; exact Nat.le_refl _)]
      simp [walkT]
theorem nodeS_good {t : Tre} (hr : rightT t = true) {vs : List Bool} (hv : vs.length = lowN t) {gs0 g0 g : List Gt} {acc : List (List Int)} {tests : List (List Int)} {i : Nat} (hi : i < t.nodes.length)
    (ht : Rows2 (lowN t) vs gs0 g0 tests t.hood.length t.states.toNat (atS vs (bitsF t.states))) (h : Rows2 (lowN t) vs g0 g acc i (bitsF t.states) (valN t vs)) :
    Rows1 (lowN t) vs g (nodeS t (lowN t) (bitsF t.states) t.states.toNat tests g acc i).1 (nodeS t (lowN t) (bitsF t.states) t.states.toNat tests g acc i).2 (bitsF t.states) (valN t vs i) := by
  obtain ⟨_, ⟨hs, _⟩, hn⟩ := rightT_parts hr
  obtain ⟨⟨l1, l2, l3⟩, hlink⟩ := nodeOk_parts (hn i hi)
  refine scan_ind _ g (fun g' row k => Rows1 (lowN t) vs g g' row k (valN t vs i)) ⟨Ext.refl _, h.ok, fun s hs => absurd hs (by omega)⟩ (bitsF t.states) (fun k g' row hk hl hh => hh.next hv hl ?_)
  rw [← node_step hr hv i k hi]
  refine res_good hv _ _ _ _ g' k _ _ _ hh.ok (fun s hs' => ?_) (fun s hs' hup => ?_) (fun s hs' hup => ?_)
  · obtain ⟨t1, t2⟩ := ht.at_ ((t.hood.length : Int) - (t.nodes.getD i default).level).toNat (by omega) s hs'
    exact ⟨t1.ext (h.ext.trans hh.ext), (V_ext hv (h.ext.trans hh.ext) t1).trans t2⟩
  · have hlk := hlink s (by omega)
    simp only [linkOk, decide_eq_true_eq] at hlk
    have hlt := (hlk.2.2 (by simpa [upN] using hup)).1
    obtain ⟨t1, t2⟩ := h.at_ ((t.nodes.getD i default).next.getD s 0).toNat (by omega) k hk
    refine ⟨t1.ext hh.ext, (V_ext hv hh.ext t1).trans ?_⟩
    rw [t2, nextR, if_pos hup]
  · rw [nextR, if_neg (by rw [hup]; simp)]
theorem lowT_good {t : Tre} (hr : rightT t = true) {vs : List Bool} (hv : vs.length = lowN t) : Rows2 (lowN t) vs (notsG (lowN t)) (lowT t).1 (lowT t).2 t.hood.length t.states.toNat (atS vs (bitsF t.states)) := by
  obtain ⟨_, ⟨hs, _⟩, hn⟩ := rightT_parts hr
  exact testRows_good hv rfl (bitsF_pos hs) (Ext.refl _) (nots_ok _)
theorem lowM_good {t : Tre} (hr : rightT t = true) {vs : List Bool} (hv : vs.length = lowN t) (m : Nat) (hm : m ≤ t.nodes.length) : Rows2 (lowN t) vs (lowT t).1 (lowM t m).1 (lowM t m).2 m (bitsF t.states) (valN t vs) :=
  scan_ind (fun g res i => nodeS t (lowN t) (bitsF t.states) t.states.toNat (lowT t).2 g res i) (lowT t).1 (fun g acc k => Rows2 (lowN t) vs (lowT t).1 g acc k (bitsF t.states) (valN t vs)) ⟨Ext.refl _, (lowT_good hr hv).ok, fun s hs => absurd hs (by omega)⟩ m
    (fun k g acc hk hl h => h.next hv hl (nodeS_good hr hv (by omega) (lowT_good hr hv) h))

/- Sizes. -/
theorem scan_bd {α : Type} (f : List Gt → List α → Nat → List Gt × α) (gs : List Gt) (K c : Nat) (h : ∀ k g acc, k < K → acc.length = k → (f g acc k).1.length ≤ g.length + c) : (scan f gs K).1.length ≤ gs.length + c * K :=
  scan_ind f gs (fun g _ k => g.length ≤ gs.length + c * k) (by simp) K (fun k g acc hk hl hh => by
    have := h k g acc hk hl
    rw [Nat.mul_add]; omega)
theorem scan_all {α : Type} (f : List Gt → List α → Nat → List Gt × α) (gs : List Gt) (K : Nat) (Q : α → Prop) (h : ∀ k g acc, k < K → Q (f g acc k).2) : ∀ x ∈ (scan f gs K).2, Q x :=
  scan_ind f gs (fun _ acc _ => ∀ x ∈ acc, Q x) (by simp) K (fun k g acc hk hl hh x hx => by
    simp only [List.mem_append, List.mem_singleton] at hx
    rcases hx with hx | rfl
    · exact hh x hx
    · exact h k g acc hk)
theorem lowT_len {t : Tre} (hr : rightT t = true) : (lowT t).1.length ≤ 475 ∧ lowN t ≤ 75 := by
  obtain ⟨hh, ⟨hs, _⟩, hn⟩ := rightT_parts hr
  have h25 : t.hood.length ≤ 25 := by
    simp only [hoodOk, Bool.and_eq_true, decide_eq_true_eq] at hh
    omega
  have hb := bitsF_bd t.states
  have hN : lowN t ≤ 75 := by
    have := Nat.mul_le_mul h25 hb
    unfold lowN; omega
  refine ⟨?_, hN⟩
  have h1 := scan_bd (fun g _ i => testRow (lowN t) (bitsF t.states) t.states.toNat g i) (notsG (lowN t)) t.hood.length 16 (fun k g acc hk hl => by
    have h2 := scan_bd (fun g _ s => testS (lowN t) (bitsF t.states) g k s) g t.states.toNat 2 (fun s g acc hk hl => by
      simp only [testS]
      rw [allS_len, litsF_length]; omega)
    unfold testRow
    omega)
  rw [notsG_length] at h1
  unfold lowT testRows
  omega
theorem nodeS_len {t : Tre} (hs : 2 ≤ t.states ∧ t.states ≤ 8) (N : Nat) (tests : List (List Int)) (g : List Gt) (acc : List (List Int)) (i : Nat) : (nodeS t N (bitsF t.states) t.states.toNat tests g acc i).1.length ≤ g.length + 48 := by
  have hb := bitsF_bd t.states
  have := scan_bd (fun g _ k => resS N (upN (t.nodes.getD i default)) (tests.getD ((t.hood.length : Int) - (t.nodes.getD i default).level).toNat []) acc (t.nodes.getD i default).next t.states.toNat g k) g (bitsF t.states) 16 (fun k g acc' hk hl => by
    have := resS_len N (upN (t.nodes.getD i default)) (tests.getD ((t.hood.length : Int) - (t.nodes.getD i default).level).toNat []) acc (t.nodes.getD i default).next g k t.states.toNat (by omega)
    omega)
  unfold nodeS
  omega
theorem lowM_len {t : Tre} (hr : rightT t = true) (m : Nat) : (lowM t m).1.length ≤ 475 + 48 * m := by
  obtain ⟨hh, ⟨hs, _⟩, hn⟩ := rightT_parts hr
  have h1 := (lowT_len hr).1
  have := scan_bd (fun g res i => nodeS t (lowN t) (bitsF t.states) t.states.toNat (lowT t).2 g res i) (lowT t).1 m 48 (fun k g acc hk hl => nodeS_len hs _ _ g acc k)
  unfold lowM nodesS
  omega
theorem lowM_row {t : Tre} (m i : Nat) (hi : i < m) : ((lowM t m).2.getD i []).length = bitsF t.states := by
  have hl : (lowM t m).2.length = m := by unfold lowM nodesS; exact scan_length _ _ _
  have := scan_all (fun g res i => nodeS t (lowN t) (bitsF t.states) t.states.toNat (lowT t).2 g res i) (lowT t).1 m (fun r => r.length = bitsF t.states) (fun k g acc hk => by unfold nodeS; exact scan_length _ _ _)
  have hi' : i < (lowM t m).2.length := by omega
  have this : ∀ x ∈ (lowM t m).2, x.length = bitsF t.states := this
  rw [List.getD_eq_getElem?_getD, List.getElem?_eq_getElem hi']
  exact this _ (List.getElem_mem hi')
theorem lowT_row {t : Tre} (i : Nat) (hi : i < t.hood.length) : ((lowT t).2.getD i []).length = t.states.toNat := by
  have hl : (lowT t).2.length = t.hood.length := by unfold lowT testRows; exact scan_length _ _ _
  have := scan_all (fun g _ i => testRow (lowN t) (bitsF t.states) t.states.toNat g i) (notsG (lowN t)) t.hood.length (fun r => r.length = t.states.toNat) (fun k g acc hk => by unfold testRow; exact scan_length _ _ _)
  have hi' : i < (lowT t).2.length := by omega
  have this : ∀ x ∈ (lowT t).2, x.length = t.states.toNat := this
  rw [List.getD_eq_getElem?_getD, List.getElem?_eq_getElem hi']
  exact this _ (List.getElem_mem hi')

theorem right_mk (N : Nat) (gs : List Gt) (os : List Int) (h1 : N ≤ 1000) (h2 : gs.length ≤ 20000) (h3 : os.length ≤ 1000) (hg : okG N gs) (ho : ∀ k, k < os.length → okW N gs (os.getD k 0)) : rightC ⟨(N : Int), gs, os⟩ = true := by
  have e := right_true_gates ⟨(N : Int), gs, os⟩ ⟨by dsimp only; omega, by dsimp only; omega, h2, h3⟩ hg
  rw [e]
  apply all_true_at
  intro k hk
  have := ho k hk
  unfold okW at this
  exact decide_eq_true this
/-- The circuit of a valid tree is valid. -/
theorem lowR_right {t : Tre} (hr : rightT t = true) (hm : t.nodes.length ≤ 400) : rightC (lowR t) = true := by
  obtain ⟨hh, ⟨hs, hn1, _⟩, hn⟩ := rightT_parts hr
  have h1 := lowM_len hr t.nodes.length
  have h2 := (lowT_len hr).2
  have hg := lowM_good hr (vs := List.replicate (lowN t) false) (List.length_replicate ..) t.nodes.length (Nat.le_refl _)
  have hrow := lowM_row (t := t) t.nodes.length (t.nodes.length - 1) (by omega)
  have hb := bitsF_bd t.states
  rw [lowR, if_pos hr]
  exact right_mk _ _ _ (by omega) (by omega) (by omega) hg.ok (fun k hk => (hg.at_ (t.nodes.length - 1) (by omega) k (by omega)).1)
def statesOf (t : Tre) (vs : List Bool) : List Int := stsF vs (bitsF t.states) t.hood.length
def outsV (t : Tre) (vs : List Bool) : List Bool := (List.range (bitsF t.states)).map (fun k => okSts t.states (statesOf t vs) && bitI (valueT t (statesOf t vs)) k)
theorem lowR_outs {t : Tre} (hr : rightT t = true) {vs : List Bool} (hv : vs.length = lowN t) : outsG evalB false (lowR t) vs = outsV t vs := by
  obtain ⟨hh, ⟨hs, hn1, _, hroot⟩, hn⟩ := rightT_parts hr
  have hg := lowM_good hr hv t.nodes.length (Nat.le_refl _)
  have hrow := lowM_row (t := t) t.nodes.length (t.nodes.length - 1) (by omega)
  rw [lowR, if_pos hr]
  unfold outsG outsV
  dsimp only
  apply bl_ext
  · rw [List.length_map, List.length_map, List.length_range, hrow]
  · intro k hk
    rw [List.length_map, hrow] at hk
    have h2 := (hg.at_ (t.nodes.length - 1) (by omega) k hk).2
    have e1 : ∀ (l : List Int), l.length = bitsF t.states → (l.map (fun o => (runG evalB false (lowM t t.nodes.length).1 vs).getD o.toNat false)).getD k false = V vs (lowM t t.nodes.length).1 (l.getD k 0) := fun l hl => by
      have : k < l.length := by omega
      simp [List.getD_eq_getElem?_getD, List.getElem?_map, List.getElem?_eq_getElem this, V, vals]
    rw [e1 _ hrow, h2]
    simp only [List.getD_eq_getElem?_getD, List.getElem?_map, List.getElem?_range hk, Option.map_some, Option.getD_some]
    simp only [valN, tailOf]
    rw [hroot, Int.sub_self]
    simp only [Int.toNat_zero, List.drop_zero]
    unfold valueT statesOf
    rw [show ((t.nodes.length : Int) - 1) = ((t.nodes.length - 1 : Nat) : Int) by omega]

/- Inputs and outputs. -/
theorem flat_part (b : Nat) (ins : List Int) (i : Nat) (hi : i < ins.length) : ((ins.flatMap (bitsOf b)).drop (i * b)).take b = bitsOf b (ins.getD i 0) := by
  induction ins generalizing i with
  | nil => simp at hi
  | cons x l ih =>
    cases i with
    | zero =>
      simp only [List.flatMap_cons, Nat.zero_mul, List.drop_zero, List.getD_cons_zero]
      rw [List.take_left' (bitsOf_length b x)]
    | succ i =>
      have := ih i (by simpa using hi)
      simp only [List.flatMap_cons, List.getD_cons_succ]
      rw [← this, show (i + 1) * b = b + i * b by rw [Nat.add_mul]; omega, ← List.drop_drop, List.drop_left' (bitsOf_length b x)]
theorem flat_len (b : Nat) (ins : List Int) : (ins.flatMap (bitsOf b)).length = ins.length * b := by
  induction ins with
  | nil => simp
  | cons x l ih => simp only [List.flatMap_cons, List.length_append, List.length_cons, ih, bitsOf_length, Nat.add_mul]; omega
theorem evalErr_parts {t : Tre} {ins : List Int} (h : evalErr t ins = 0) : rightT t = true ∧ ins.length = t.hood.length ∧ ins.all (stateIn t) = true := by
  unfold evalErr at h
  split at h
  · split at h
    · split at h
      · exact ⟨by assumption, by assumption, by assumption⟩
      · omega
    · omega
  · omega
theorem inputs_len {t : Tre} {ins : List Int} (h : evalErr t ins = 0) : (inputsB t ins).length = lowN t := by
  obtain ⟨_, h2, _⟩ := evalErr_parts h
  unfold inputsB lowN
  rw [flat_len, h2]
theorem statesOf_inputs {t : Tre} {ins : List Int} (h : evalErr t ins = 0) : statesOf t (inputsB t ins) = ins := by
  obtain ⟨h1, h2, h3⟩ := evalErr_parts h
  obtain ⟨_, ⟨hs, _⟩, _⟩ := rightT_parts h1
  have hp := bitsF_pow hs
  apply List.ext_getElem
  · simp [statesOf, stsF, h2]
  · intro i hi1 hi2
    have h4 := stateIn_at h3 hi2
    have e : ins.getD i 0 = ins[i] := by rw [List.getD_eq_getElem?_getD, List.getElem?_eq_getElem hi2]; rfl
    simp only [statesOf, stsF, List.getElem_map, List.getElem_range, stF, inputsB]
    rw [flat_part _ _ _ hi2, valB_bits _ _ h4.1 (by omega), e]
/-- The law LowerSame: the outputs at a tree's inputs are the bits of its value. -/
theorem low_same {t : Tre} {ins : List Int} (h : evalErr t ins = 0) : outsG evalB false (lowR t) (inputsB t ins) = bitsOf (bitsF t.states) (valueT t ins) ∧ stateF (outsG evalB false (lowR t) (inputsB t ins)) = valueT t ins := by
  obtain ⟨h1, h2, h3⟩ := evalErr_parts h
  obtain ⟨hh, ⟨hs, _⟩, _⟩ := rightT_parts h1
  have hp := bitsF_pow hs
  have h0 : 1 ≤ t.hood.length := by
    simp only [hoodOk, Bool.and_eq_true, decide_eq_true_eq] at hh
    omega
  have hv := (walkT_at h1 ins h2 (fun j hj => stateIn_at h3 hj) ins.length (Nat.le_refl _)).2 rfl (by omega)
  rw [List.take_length] at hv
  have hok : okSts t.states ins = true := by
    unfold okSts
    rw [List.all_eq_true] at *
    intro x hx
    have := h3 x hx
    simp only [stateIn, decide_eq_true_eq] at this
    simpa using this.2
  have e : outsG evalB false (lowR t) (inputsB t ins) = bitsOf (bitsF t.states) (valueT t ins) := by
    rw [lowR_outs h1 (inputs_len h)]
    unfold outsV
    rw [statesOf_inputs h, hok]
    simp [bitsOf]
  refine ⟨e, ?_⟩
  rw [e, stateF, if_neg (by rw [bitsOf_length]; have := bitsF_bd t.states; omega)]
  exact valB_bits _ _ hv.1 (by unfold valueT; omega)
theorem valB_false (n : Nat) : valB (List.replicate n false) = 0 := by
  induction n with
  | zero => rfl
  | succ n ih => simp [List.replicate_succ, valB, ih]
/-- The law LowerFalse: where a position's bits are no state, all outputs are false. -/
theorem low_false {t : Tre} (hr : rightT t = true) {vs : List Bool} (hv : vs.length = lowN t) (i : Nat) (hi : i < t.hood.length) (hw : t.states ≤ stF vs (bitsF t.states) i) : stateF (outsG evalB false (lowR t) vs) = 0 := by
  rw [lowR_outs hr hv]
  have hok : okSts t.states (statesOf t vs) = false := by
    unfold okSts
    rw [List.all_eq_false]
    refine ⟨stF vs (bitsF t.states) i, ?_, by simpa using hw⟩
    simp only [statesOf, stsF, List.mem_map, List.mem_range]
    exact ⟨i, hi, rfl⟩
  have e : outsV t vs = List.replicate (bitsF t.states) false := by
    unfold outsV
    rw [hok]
    apply List.ext_getElem
    · simp
    · intro k h1 h2; simp
  rw [e, stateF, valB_false]; split <;> rfl
theorem outsV_length (t : Tre) (vs : List Bool) : (outsV t vs).length = bitsF t.states := by simp [outsV]
end Go.Proofs.Ytlkpdmdgeppmdaa
