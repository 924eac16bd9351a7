/-
  What the steps that make a circuit smaller keep: each circuit is valid. Plain.
-/
import Derived.Test.YtamijjpnklbgnaaZPlain
namespace Go.Proofs.Ytamijjpnklbgnaa
open Go.RowKit
set_option linter.unusedSimpArgs false
set_option linter.unusedVariables false
theorem gateOk_mk {lim : Int} {g : Gt} (ho : g.op = 0 ∨ g.op = 1 ∨ g.op = 2 ∨ g.op = 3 ∨ g.op = 4 ∨ g.op = 5) (ha : 2 ≤ g.op → 0 ≤ g.a ∧ g.a < lim) (hb : 3 ≤ g.op → 0 ≤ g.b ∧ g.b < lim) (ha0 : g.op < 2 → g.a = 0) (hb0 : g.op < 3 → g.b = 0) : gateOk lim g = true := by
  have hop : operandsF g.op = if g.op < 2 then 0 else if g.op < 3 then 1 else 2 := by
    rcases ho with e | e | e | e | e | e <;> rw [e] <;> rfl
  simp only [gateOk, wireOk, Bool.and_eq_true, decide_eq_true_eq]
  rw [hop]
  refine ⟨⟨?_, ?_⟩, ?_⟩
  · split <;> (try split) <;> omega
  · split
    · rename_i h; have := ha0 h; omega
    · rename_i h; have := ha (by omega); split <;> omega
  · split
    · rename_i h; have := hb0 (by omega); omega
    · split
      · rename_i h; have := hb0 (by omega); omega
      · rename_i h; have := hb (by omega); omega
theorem operandsO_of {op : Int} (ho : op = 0 ∨ op = 1 ∨ op = 2 ∨ op = 3 ∨ op = 4 ∨ op = 5) : operandsO op = if op < 2 then 0 else if op < 3 then 1 else 2 := by
  rcases ho with e | e | e | e | e | e <;> rw [e] <;> rfl
/-- The gates so far are valid. -/
def GsOk (n : Int) (gs : List Gt) : Prop := ∀ i, i < gs.length → gateOk (n + (i : Int)) (gs.getD i default) = true
theorem GsOk.snoc {n : Int} {gs : List Gt} {g : Gt} (h : GsOk n gs) (hg : gateOk (n + (gs.length : Int)) g = true) : GsOk n (gs ++ [g]) := by
  intro i hi
  rw [List.length_append, List.length_singleton] at hi
  rcases Nat.lt_or_ge i gs.length with h1 | h1
  · rw [List.getD_eq_getElem?_getD, List.getElem?_append_left h1, ← List.getD_eq_getElem?_getD]; exact h i h1
  · obtain rfl : i = gs.length := by omega
    rw [List.getD_eq_getElem?_getD, List.getElem?_append_right (Nat.le_refl _), Nat.sub_self]; exact hg
theorem snocZ_lt {α : Type} (l : List α) (x d : α) {i : Nat} (h : i < l.length) : (l ++ [x]).getD i d = l.getD i d := by
  rw [List.getD_eq_getElem?_getD, List.getElem?_append_left h, ← List.getD_eq_getElem?_getD]
theorem snocZ_eq {α : Type} (l : List α) (x d : α) : (l ++ [x]).getD l.length d = x := by
  rw [List.getD_eq_getElem?_getD, List.getElem?_append_right (Nat.le_refl _), Nat.sub_self]; rfl
/-- A wire of the gate j is before it. -/
theorem isW_gate {n : Int} {gs : List Gt} {w op : Int} (h : isW n gs w op = true) (hw : w < n + (gs.length : Int)) : ∃ j : Nat, w = n + (j : Int) ∧ j < gs.length ∧ (gs.getD j default).op = op ∧ argW n gs w = (gs.getD j default).a := by
  unfold isW at h
  rw [Bool.and_eq_true, decide_eq_true_iff, decide_eq_true_iff] at h
  exact ⟨(w - n).toNat, by omega, by omega, h.2, rfl⟩
theorem argW_ok {n : Int} {gs : List Gt} (hs : GsOk n gs) {w : Int} (h : isW n gs w 2 = true) (hw : w < n + (gs.length : Int)) : 0 ≤ argW n gs w ∧ argW n gs w < w := by
  obtain ⟨j, rfl, hj, ho, ha⟩ := isW_gate h hw
  have := (gateOk_parts (hs j hj)).2.1 (by omega)
  rw [ha]; omega
theorem const_ok {lim : Int} (o : Int) (ho : o = 0 ∨ o = 1) : gateOk lim ⟨o, 0, 0⟩ = true := by
  refine gateOk_mk (ho.elim .inl (fun h => .inr (.inl h))) (fun h => ?_) (fun h => ?_) (fun _ => rfl) (fun _ => rfl)
  · have h : 2 ≤ o := h
    omega
  · have h : 3 ≤ o := h
    omega
theorem nott_ok {lim a : Int} (ha : 0 ≤ a ∧ a < lim) : gateOk lim ⟨2, a, 0⟩ = true := by
  refine gateOk_mk (.inr (.inr (.inl rfl))) (fun _ => ha) (fun h => ?_) (fun h => ?_) (fun _ => rfl)
  · have h : (3 : Int) ≤ 2 := h
    omega
  · have h : (2 : Int) < 2 := h
    omega
theorem notF_ok {n : Int} {gs : List Gt} (hs : GsOk n gs) {a : Int} (ha : 0 ≤ a ∧ a < n + (gs.length : Int)) : gateOk (n + (gs.length : Int)) (notF n gs a).1 = true ∧ -1 ≤ (notF n gs a).2 ∧ (notF n gs a).2 < n + (gs.length : Int) := by
  have hm : (-1 : Int) < n + (gs.length : Int) := by omega
  have h1 : (-1 : Int) ≤ -1 := by omega
  unfold notF
  split
  · exact ⟨const_ok 1 (.inr rfl), h1, hm⟩
  · split
    · exact ⟨const_ok 0 (.inl rfl), h1, hm⟩
    · split
      · rename_i h
        have := argW_ok hs h ha.2
        exact ⟨nott_ok ha, by show -1 ≤ argW n gs a; omega, by show argW n gs a < _; omega⟩
      · exact ⟨nott_ok ha, h1, hm⟩
theorem foldG_ok {n : Int} {gs : List Gt} (hs : GsOk n gs) {g : Gt} (hn : 0 ≤ n) (hg : gateOk (n + (gs.length : Int)) g = true) : gateOk (n + (gs.length : Int)) (foldG n gs g).1 = true ∧ -1 ≤ (foldG n gs g).2 ∧ (foldG n gs g).2 < n + (gs.length : Int) := by
  obtain ⟨ho, ha, hb, ha0, hb0⟩ := gateOk_parts hg
  have hc := fun o ho => const_ok (lim := n + (gs.length : Int)) o ho
  have hd : (-1 : Int) ≤ -1 := by omega
  have hm : (-1 : Int) < n + (gs.length : Int) := by omega
  have heither : ∀ ab ne : Int, (ab = 0 ∨ ab = 1) → 3 ≤ g.op → gateOk (n + (gs.length : Int)) (eitherF n gs g ab ne).1 = true ∧ -1 ≤ (eitherF n gs g ab ne).2 ∧ (eitherF n gs g ab ne).2 < n + (gs.length : Int) := fun ab ne hab h3 => by
    have h1 := ha (by omega)
    have h2 := hb h3
    unfold eitherF
    split
    · exact ⟨hc ab hab, hd, hm⟩
    · split
      · exact ⟨hg, by show -1 ≤ g.b; omega, h2.2⟩
      · split
        · exact ⟨hg, by show -1 ≤ g.a; omega, h1.2⟩
        · split
          · exact ⟨hc ab hab, hd, hm⟩
          · exact ⟨hg, hd, hm⟩
  unfold foldG
  split
  · rename_i h
    exact notF_ok hs (ha (by omega))
  · split
    · exact heither 0 1 (.inl rfl) (by omega)
    · split
      · exact heither 1 0 (.inr rfl) (by omega)
      · split
        · have h1 := ha (by omega)
          have h2 := hb (by omega)
          unfold xorF
          split
          · exact ⟨hg, by show -1 ≤ g.b; omega, h2.2⟩
          · split
            · exact ⟨hg, by show -1 ≤ g.a; omega, h1.2⟩
            · split
              · exact ⟨hc 0 (.inl rfl), hd, hm⟩
              · split
                · exact ⟨hc 1 (.inr rfl), hd, hm⟩
                · split
                  · exact notF_ok hs h2
                  · split
                    · exact notF_ok hs h1
                    · exact ⟨hg, hd, hm⟩
        · exact ⟨hg, hd, hm⟩
/-- The work, valid where P holds of a wire. -/
structure WkOk (n : Int) (P : Nat → Prop) (s : Wk) : Prop where
  gok : GsOk n s.gates
  tok : ∀ w, w < s.to.length → P w → 0 ≤ s.to.getD w 0 ∧ s.to.getD w 0 < n + (s.gates.length : Int)
theorem startOk {n : Int} (hn : 0 ≤ n) (P : Nat → Prop) : WkOk n P (startW n) :=
  ⟨fun i hi => absurd hi (Nat.not_lt_zero _), fun w hw _ => by
    have hw' : w < n.toNat := by simpa [startW] using hw
    have e : (startW n).to.getD w 0 = (w : Int) := by simp [startW, List.getD_eq_getElem?_getD, List.getElem?_map, List.getElem?_range hw']
    rw [e]
    show 0 ≤ (w : Int) ∧ (w : Int) < n + ((0 : Nat) : Int)
    omega⟩
theorem moveG_ok {n lim : Int} {P : Nat → Prop} {s : Wk} (h : WkOk n P s) {g : Gt} (hg : gateOk lim g = true) (hl : lim ≤ (s.to.length : Int)) (hPa : 2 ≤ g.op → P g.a.toNat) (hPb : 3 ≤ g.op → P g.b.toNat) : gateOk (n + (s.gates.length : Int)) (moveG s.to g) = true := by
  obtain ⟨ho, ha, hb, ha0, hb0⟩ := gateOk_parts hg
  have hop := operandsO_of ho
  refine gateOk_mk ho (fun h2 => ?_) (fun h3 => ?_) (fun h2 => ?_) (fun h3 => ?_)
  · have h2 : 2 ≤ g.op := h2
    have := ha h2
    show 0 ≤ (if 1 ≤ operandsO g.op then toAt s.to g.a else g.a) ∧ _
    have e : (moveG s.to g).a = toAt s.to g.a := by show (if _ then _ else _) = _; rw [if_pos (by rw [hop, if_neg (by omega)]; split <;> omega)]
    rw [e]
    have e2 : (if 1 ≤ operandsO g.op then toAt s.to g.a else g.a) = toAt s.to g.a := e
    rw [e2]
    exact h.tok _ (by omega) (hPa h2)
  · have h3 : 3 ≤ g.op := h3
    have := hb h3
    have e : (moveG s.to g).b = toAt s.to g.b := by show (if _ then _ else _) = _; rw [if_pos (by rw [hop, if_neg (by omega), if_neg (by omega)])]
    rw [e]
    exact h.tok _ (by omega) (hPb h3)
  · have h2 : g.op < 2 := h2
    have e : (moveG s.to g).a = g.a := by show (if _ then _ else _) = _; rw [if_neg (by rw [hop, if_pos h2]; omega)]
    rw [e]; exact ha0 h2
  · have h3 : g.op < 3 := h3
    have e : (moveG s.to g).b = g.b := by show (if _ then _ else _) = _; rw [if_neg (by rw [hop]; split <;> (try split) <;> omega)]
    rw [e]; exact hb0 h3
theorem WkOk.add {n : Int} {P Q : Nat → Prop} {s : Wk} (h : WkOk n P s) {p : Gt × Int} (hg : gateOk (n + (s.gates.length : Int)) p.1 = true) (hp : -1 ≤ p.2 ∧ p.2 < n + (s.gates.length : Int)) (hn : 0 ≤ n) (hQ : ∀ w, w < s.to.length → Q w → P w) : WkOk n Q (addW n s p) := by
  refine ⟨h.gok.snoc hg, fun w hw hq => ?_⟩
  have e1 : ((addW n s p).gates.length : Int) = (s.gates.length : Int) + 1 := by rw [(addW_len n s p).1]; omega
  rw [e1]
  rw [(addW_len n s p).2] at hw
  rcases Nat.lt_or_ge w s.to.length with h1 | h1
  · rw [show (addW n s p).to.getD w 0 = s.to.getD w 0 from snocZ_lt _ _ _ h1]
    have := h.tok w h1 (hQ w h1 hq)
    omega
  · obtain rfl : w = s.to.length := by omega
    rw [show (addW n s p).to.getD s.to.length 0 = _ from snocZ_eq _ _ _]
    split <;> omega
theorem gateAt_ok {c : Circ} (h : rightC c = true) {k : Nat} (hk : k < c.gates.length) : gateOk (c.inputs + (k : Int)) (gateAt c k) = true := (rightC_parts h).2.1 k hk
theorem foldTo_ok {c : Circ} (h : rightC c = true) (k : Nat) (hk : k ≤ c.gates.length) : WkOk c.inputs (fun _ => True) (foldTo c k) := by
  obtain ⟨⟨h0, h1, _⟩, _⟩ := rightC_parts h
  induction k with
  | zero => exact startOk h0 _
  | succ k ih =>
    have hs := ih (by omega)
    obtain ⟨l1, l2⟩ := foldTo_len c k
    have hm := moveG_ok hs (gateAt_ok h (show k < c.gates.length by omega)) (by omega) (fun _ => trivial) (fun _ => trivial)
    obtain ⟨f1, f2, f3⟩ := foldG_ok hs.gok h0 hm
    rw [foldTo]
    exact hs.add f1 ⟨f2, f3⟩ h0 (fun _ _ _ => trivial)
theorem done_ok {c : Circ} {P : Nat → Prop} {s : Wk} (h : rightC c = true) (hs : WkOk c.inputs P s) (hl : (s.to.length : Int) = c.inputs + (c.gates.length : Int)) (hg : s.gates.length ≤ c.gates.length) (hP : ∀ k, k < c.outs.length → P (c.outs.getD k 0).toNat) : rightC (doneW c s) = true := by
  obtain ⟨⟨h0, h1, h2, h3⟩, hg2, ho⟩ := rightC_parts h
  refine (right_true_gates (doneW c s) ⟨h0, h1, by show s.gates.length ≤ _; omega, by show (c.outs.map _).length ≤ _; simpa using h3⟩ (fun k hk => hs.gok k hk)).trans ?_
  refine all_true_at _ _ (fun k hk => ?_)
  have hk' : k < c.outs.length := by simpa [doneW] using hk
  have e : (doneW c s).outs.getD k 0 = toAt s.to (c.outs.getD k 0) := by
    simp [doneW, List.getD_eq_getElem?_getD, List.getElem?_map, List.getElem?_eq_getElem hk']
  have hb := outOk_at ho hk'
  rw [e]
  have := hs.tok (c.outs.getD k 0).toNat (by omega) (hP k hk')
  exact decide_eq_true this
theorem fold_right {c : Circ} (h : rightC c = true) : rightC (foldC c) = true := by
  rw [foldC, if_pos h]
  obtain ⟨⟨h0, h1, _⟩, _⟩ := rightC_parts h
  obtain ⟨l1, l2⟩ := foldTo_len c c.gates.length
  exact done_ok h (foldTo_ok h _ (Nat.le_refl _)) (by omega) (by omega) (fun _ _ => trivial)
theorem swapG_ok {lim : Int} {g : Gt} (hg : gateOk lim g = true) : gateOk lim (swapG g) = true := by
  unfold swapG
  split
  · rename_i h
    obtain ⟨ho, ha, hb, ha0, hb0⟩ := gateOk_parts hg
    have hop := operandsO_of ho
    have h3 : 3 ≤ g.op := by
      have := h.1
      rw [hop] at this
      split at this <;> (try split at this) <;> omega
    exact gateOk_mk ho (fun _ => hb h3) (fun _ => ha (by omega)) (fun h => by have h : g.op < 2 := h; omega) (fun h => by have h : g.op < 3 := h; omega)
  · exact hg
theorem knownW_bd (n : Int) (gs : List Gt) (g : Gt) (hn : 0 ≤ n) : -1 ≤ knownW n gs g ∧ knownW n gs g < n + (gs.length : Int) := by
  unfold knownW
  split
  · rename_i k hk
    have := (List.findIdx?_eq_some_iff_getElem.1 hk).1
    omega
  · omega
theorem shareTo_ok {c : Circ} (h : rightC c = true) (k : Nat) (hk : k ≤ c.gates.length) : WkOk c.inputs (fun _ => True) (shareTo c k) := by
  obtain ⟨⟨h0, h1, _⟩, _⟩ := rightC_parts h
  induction k with
  | zero => exact startOk h0 _
  | succ k ih =>
    have hs := ih (by omega)
    obtain ⟨l1, l2⟩ := shareTo_len c k
    have hm := moveG_ok hs (gateAt_ok h (show k < c.gates.length by omega)) (by omega) (fun _ => trivial) (fun _ => trivial)
    rw [shareTo]
    exact hs.add (swapG_ok hm) (knownW_bd _ _ _ h0) h0 (fun _ _ _ => trivial)
theorem share_right {c : Circ} (h : rightC c = true) : rightC (shareC c) = true := by
  rw [shareC, if_pos h]
  obtain ⟨⟨h0, h1, _⟩, _⟩ := rightC_parts h
  obtain ⟨l1, l2⟩ := shareTo_len c c.gates.length
  exact done_ok h (shareTo_ok h _ (Nat.le_refl _)) (by omega) (by omega) (fun _ _ => trivial)
end Go.Proofs.Ytamijjpnklbgnaa
