/-
  What the steps that make a circuit smaller keep: each circuit is valid. Plain.
-/
import Derived.Test.YtamijjpnklbgnaaZCR2
import Derived.Test.YtamijjpnklbgnaaProg
import Derived.Test.YtamijjpnklbgnaaZCR1
namespace Go.Proofs.Ytamijjpnklbgnaa
open Go.RowKit
set_option linter.unusedSimpArgs false
set_option linter.unusedVariables false
theorem gateOk_mk {lim : Int} {g : Gt} (ho : g.op = 0 ∨ g.op = 1 ∨ g.op = 2 ∨ g.op = 3 ∨ g.op = 4 ∨ g.op = 5) (ha : 2 ≤ g.op → 0 ≤ g.a ∧ g.a < lim) (hb : 3 ≤ g.op → 0 ≤ g.b ∧ g.b < lim) (ha0 : g.op < 2 → g.a = 0) (hb0 : g.op < 3 → g.b = 0) : gateOk lim g = true := by
  have hop : operandsF g.op = if g.op < 2 then 0 else if g.op < 3 then 1 else 2 := by
    rcases ho with e | e | e | e | e | e <;> rw [e] <;> rfl
  simp only [gateOk, wireOk, Bool.and_eq_true, decide_eq_true_eq]
  rw [hop]
  refine ⟨⟨?_, ?_⟩, ?_⟩
  · split <;> (try split) <;> omega
  · split
    · rename_i h; have := ha0 h; omega
    · rename_i h; have := ha (by omega); split <;> omega
  · split
    · rename_i h; have := hb0 (by omega); omega
    · split
      · rename_i h; have := hb0 (by omega); omega
      · rename_i h; have := hb (by omega); omega
theorem operandsO_of {op : Int} (ho : op = 0 ∨ op = 1 ∨ op = 2 ∨ op = 3 ∨ op = 4 ∨ op = 5) : operandsO op = if op < 2 then 0 else if op < 3 then 1 else 2 := by
  rcases ho with e | e | e | e | e | e <;> rw [e] <;> rfl
/-- The gates so far are valid. -/
def GsOk (n : Int) (gs : List Gt) : Prop := ∀ i, i < gs.length → gateOk (n + (i : Int)) (gs.getD i default) = true
theorem GsOk.snoc {n : Int} {gs : List Gt} {g : Gt} (h : GsOk n gs) (hg : gateOk (n + (gs.length : Int)) g = true) : GsOk n (gs ++ [g]) := by
  intro i hi
  rw [List.length_append, List.length_singleton] at hi
  rcases Nat.lt_or_ge i gs.length with h1 | h1
  · rw [List.getD_eq_getElem?_getD, List.getElem?_append_left h1, ← List.getD_eq_getElem?_getD]; exact h i h1
  · obtain rfl : i = gs.length := by omega
    rw [List.getD_eq_getElem?_getD, List.getElem?_append_right (Nat.le_refl _), Nat.sub_self]; exact hg
theorem snocZ_lt {α : Type} (l : List α) (x d : α) {i : Nat} (h : i < l.length) : (l ++ [x]).getD i d = l.getD i d := by
  rw [List.getD_eq_getElem?_getD, List.getElem?_append_left h, ← List.getD_eq_getElem?_getD]
theorem snocZ_eq {α : Type} (l : List α) (x d : α) : (l ++ [x]).getD l.length d = x := by
  rw [List.getD_eq_getElem?_getD, List.getElem?_append_right (Nat.le_refl _), Nat.sub_self]; rfl
/-- A wire of the gate j is before it. -/
theorem isW_gate {n : Int} {gs : List Gt} {w op : Int} (h : isW n gs w op = true) (hw : w < n + (gs.length : Int)) : ∃ j : Nat, w = n + (j : Int) ∧ j < gs.length ∧ (gs.getD j default).op = op ∧ argW n gs w = (gs.getD j default).a := by
  unfold isW at h
  rw [Bool.and_eq_true, decide_eq_true_iff, decide_eq_true_iff] at h
  exact ⟨(w - n).toNat, by omega, by omega, h.2, rfl⟩
theorem argW_ok {n : Int} {gs : List Gt} (hs : GsOk n gs) {w : Int} (h : isW n gs w 2 = true) (hw : w < n + (gs.length : Int)) : 0 ≤ argW n gs w ∧ argW n gs w < w := by
  obtain ⟨j, rfl, hj, ho, ha⟩ := isW_gate h hw
  have := (gateOk_parts (hs j hj)).2.1 (by omega)
  rw [ha]; omega
theorem const_ok {lim : Int} (o : Int) (ho : o = 0 ∨ o = 1) : gateOk lim ⟨o, 0, 0⟩ = true := by
  refine gateOk_mk (ho.elim .inl (fun h => .inr (.inl h))) (fun h => ?_) (fun h => ?_) (fun _ => rfl) (fun _ => rfl)
  · have h : 2 ≤ o := h
    omega
  · have h : 3 ≤ o := h
    omega
theorem nott_ok {lim a : Int} (ha : 0 ≤ a ∧ a < lim) : gateOk lim ⟨2, a, 0⟩ = true := by
  refine gateOk_mk (.inr (.inr (.inl rfl))) (fun _ => ha) (fun h => ?_) (fun h => ?_) (fun _ => rfl)
  · have h : (3 : Int) ≤ 2 := h
    omega
  · have h : (2 : Int) < 2 := h
    omega
theorem notF_ok {n : Int} {gs : List Gt} (hs : GsOk n gs) {a : Int} (ha : 0 ≤ a ∧ a < n + (gs.length : Int)) : gateOk (n + (gs.length : Int)) (notF n gs a).1 = true ∧ -1 ≤ (notF n gs a).2 ∧ (notF n gs a).2 < n + (gs.length : Int) := by
  have hm : (-1 : Int) < n + (gs.length : Int) := by omega
  have h1 : (-1 : Int) ≤ -1 := by omega
  unfold notF
  split
  · exact ⟨const_ok 1 (.inr rfl), h1, hm⟩
  · split
    · exact ⟨const_ok 0 (.inl rfl), h1, hm⟩
    · split
      · rename_i h
        have := argW_ok hs h ha.2
        exact ⟨nott_ok ha, by show -1 ≤ argW n gs a; omega, by show argW n gs a < _; omega⟩
      · exact ⟨nott_ok ha, h1, hm⟩
theorem foldG_ok {n : Int} {gs : List Gt} (hs : GsOk n gs) {g : Gt} (hn : 0 ≤ n) (hg : gateOk (n + (gs.length : Int)) g = true) : gateOk (n + (gs.length : Int)) (foldG n gs g).1 = true ∧ -1 ≤ (foldG n gs g).2 ∧ (foldG n gs g).2 < n + (gs.length : Int) := by
  obtain ⟨ho, ha, hb, ha0, hb0⟩ := gateOk_parts hg
  have hc := fun o ho => const_ok (lim := n + (gs.length : Int)) o ho
  have hd : (-1 : Int) ≤ -1 := by omega
  have hm : (-1 : Int) < n + (gs.length : Int) := by omega
  have heither : ∀ ab ne : Int, (ab = 0 ∨ ab = 1) → 3 ≤ g.op → gateOk (n + (gs.length : Int)) (eitherF n gs g ab ne).1 = true ∧ -1 ≤ (eitherF n gs g ab ne).2 ∧ (eitherF n gs g ab ne).2 < n + (gs.length : Int) := fun ab ne hab h3 => by
    have h1 := ha (by omega)
    have h2 := hb h3
    unfold eitherF
    split
    · exact ⟨hc ab hab, hd, hm⟩
    · split
      · exact ⟨hg, by show -1 ≤ g.b; omega, h2.2⟩
      · split
        · exact ⟨hg, by show -1 ≤ g.a; omega, h1.2⟩
        · split
          · exact ⟨hc ab hab, hd, hm⟩
          · exact ⟨hg, hd, hm⟩
  unfold foldG
  split
  · rename_i h
    exact notF_ok hs (ha (by omega))
  · split
    · exact heither 0 1 (.inl rfl) (by omega)
    · split
      · exact heither 1 0 (.inr rfl) (by omega)
      · split
        · have h1 := ha (by omega)
          have h2 := hb (by omega)
          unfold xorF
          split
          · exact ⟨hg, by show -1 ≤ g.b; omega, h2.2⟩
          · split
            · exact ⟨hg, by show -1 ≤ g.a; omega, h1.2⟩
            · split
              · exact ⟨hc 0 (.inl rfl), hd, hm⟩
              · split
                · exact ⟨hc 1 (.inr rfl), hd, hm⟩
                · split
                  · exact notF_ok hs h2
                  · split
                    · exact notF_ok hs h1
                    · exact ⟨hg, hd, hm⟩
        · exact ⟨hg, hd, hm⟩
/-- The work, valid where P holds of a wire. -/
structure WkOk (n : Int) (P : Nat → Prop) (s : Wk) : Prop where
  gok : GsOk n s.gates
  tok : ∀ w, w < s.to.length → P w → 0 ≤ s.to.getD w 0 ∧ s.to.getD w 0 < n + (s.gates.length : Int)
theorem startOk {n : Int} (hn : 0 ≤ n) (P : Nat → Prop) : WkOk n P (startW n) :=
  ⟨fun i hi => absurd hi (Nat.not_lt_zero _), fun w hw _ => by
    have hw' : w < n.toNat := by simpa [startW] using hw
    have e : (startW n).to.getD w 0 = (w : Int) := by simp [startW, List.getD_eq_getElem?_getD, List.getElem?_map, List.getElem?_range hw']
    rw [e]
    show 0 ≤ (w : Int) ∧ (w : Int) < n + ((0 : Nat) : Int)
    omega⟩
theorem moveG_ok {n lim : Int} {P : Nat → Prop} {s : Wk} (h : WkOk n P s) {g : Gt} (hg : gateOk lim g = true) (hl : lim ≤ (s.to.length : Int)) (hPa : 2 ≤ g.op → P g.a.toNat) (hPb : 3 ≤ g.op → P g.b.toNat) : gateOk (n + (s.gates.length : Int)) (moveG s.to g) = true := by
  obtain ⟨ho, ha, hb, ha0, hb0⟩ := gateOk_parts hg
  have hop := operandsO_of ho
  refine gateOk_mk ho (fun h2 => ?_) (fun h3 => ?_) (fun h2 => ?_) (fun h3 => ?_)
  · have h2 : 2 ≤ g.op := h2
    have := ha h2
    show 0 ≤ (if 1 ≤ operandsO g.op then toAt s.to g.a else g.a) ∧ _
    have e : (moveG s.to g).a = toAt s.to g.a := by show (if _ then _ else _) = _; rw [if_pos (by rw [hop, if_neg (by omega)]; split <;> omega)]
    rw [e]
    have e2 : (if 1 ≤ operandsO g.op then toAt s.to g.a else g.a) = toAt s.to g.a := e
    rw [e2]
    exact h.tok _ (by omega) (hPa h2)
  · have h3 : 3 ≤ g.op := h3
    have := hb h3
    have e : (moveG s.to g).b = toAt s.to g.b := by show (if _ then _ else _) = _; rw [if_pos (by rw [hop, if_neg (by omega), if_neg (by omega)])]
    rw [e]
    exact h.tok _ (by omega) (hPb h3)
  · have h2 : g.op < 2 := h2
    have e : (moveG s.to g).a = g.a := by show (if _ then _ else _) = _; rw [if_neg (by rw [hop, if_pos h2]; omega)]
    rw [e]; exact ha0 h2
  · have h3 : g.op < 3 := h3
    have e : (moveG s.to g).b = g.b := by show (if _ then _ else _) = _; rw [if_neg (by rw [hop]; split <;> (try split) <;> omega)]
    rw [e]; exact hb0 h3
theorem WkOk.add {n : Int} {P Q : Nat → Prop} {s : Wk} (h : WkOk n P s) {p : Gt × Int} (hg : gateOk (n + (s.gates.length : Int)) p.1 = true) (hp : -1 ≤ p.2 ∧ p.2 < n + (s.gates.length : Int)) (hn : 0 ≤ n) (hQ : ∀ w, w < s.to.length → Q w → P w) : WkOk n Q (addW n s p) := by
  refine ⟨h.gok.snoc hg, fun w hw hq => ?_⟩
  have e1 : ((addW n s p).gates.length : Int) = (s.gates.length : Int) + 1 := by rw [(addW_len n s p).1]; omega
  rw [e1]
  rw [(addW_len n s p).2] at hw
  rcases Nat.lt_or_ge w s.to.length with h1 | h1
  · rw [show (addW n s p).to.getD w 0 = s.to.getD w 0 from snocZ_lt _ _ _ h1]
    have := h.tok w h1 (hQ w h1 hq)
    omega
  · obtain rfl : w = s.to.length := by omega
    rw [show (addW n s p).to.getD s.to.length 0 = _ from snocZ_eq _ _ _]
    split <;> omega
theorem gateAt_ok {c : Circ} (h : rightC c = true) {k : Nat} (hk : k < c.gates.length) : gateOk (c.inputs + (k : Int)) (gateAt c k) = true := (rightC_parts h).2.1 k hk
theorem foldTo_ok {c : Circ} (h : rightC c = true) (k : Nat) (hk : k ≤ c.gates.length) : WkOk c.inputs (fun _ => True) (foldTo c k) := by
  obtain ⟨⟨h0, h1, _⟩, _⟩ := rightC_parts h
  induction k with
  | zero => exact startOk h0 _
  | succ k ih =>
    have hs := ih (by omega)
    obtain ⟨l1, l2⟩ := foldTo_len c k
    have hm := moveG_ok hs (gateAt_ok h (show k < c.gates.length by omega)) (by omega) (fun _ => trivial) (fun _ => trivial)
    obtain ⟨f1, f2, f3⟩ := foldG_ok hs.gok h0 hm
    rw [foldTo]
    exact hs.add f1 ⟨f2, f3⟩ h0 (fun _ _ _ => trivial)
theorem done_ok {c : Circ} {P : Nat → Prop} {s : Wk} (h : rightC c = true) (hs : WkOk c.inputs P s) (hl : (s.to.length : Int) = c.inputs + (c.gates.length : Int)) (hg : s.gates.length ≤ c.gates.length) (hP : ∀ k, k < c.outs.length → P (c.outs.getD k 0).toNat) : rightC (doneW c s) = true := by
  obtain ⟨⟨h0, h1, h2, h3⟩, hg2, ho⟩ := rightC_parts h
  refine (right_true_gates (doneW c s) ⟨h0, h1, by show s.gates.length ≤ _; omega, by show (c.outs.map _).length ≤ _; simpa using h3⟩ (fun k hk => hs.gok k hk)).trans ?_
  refine all_true_at _ _ (fun k hk => ?_)
  have hk' : k < c.outs.length := by simpa [doneW] using hk
  have e : (doneW c s).outs.getD k 0 = toAt s.to (c.outs.getD k 0) := by
    simp [doneW, List.getD_eq_getElem?_getD, List.getElem?_map, List.getElem?_eq_getElem hk']
  have hb := outOk_at ho hk'
  rw [e]
  have := hs.tok (c.outs.getD k 0).toNat (by omega) (hP k hk')
  exact decide_eq_true this
theorem fold_right {c : Circ} (h : rightC c = true) : rightC (foldC c) = true := by
  rw [foldC, if_pos h]
  obtain ⟨⟨h0, h1, _⟩, _⟩ := rightC_parts h
  obtain ⟨l1, l2⟩ := foldTo_len c c.gates.length
  exact done_ok h (foldTo_ok h _ (Nat.le_refl _)) (by omega) (by omega) (fun _ _ => trivial)
theorem swapG_ok {lim : Int} {g : Gt} (hg : gateOk lim g = true) : gateOk lim (swapG g) = true := by
  unfold swapG
  split
  · rename_i h
    obtain ⟨ho, ha, hb, ha0, hb0⟩ := gateOk_parts hg
    have hop := operandsO_of ho
    have h3 : 3 ≤ g.op := by
      have := h.1
      rw [hop] at this
      split at this <;> (try split at this) <;> omega
    exact gateOk_mk ho (fun _ => hb h3) (fun _ => ha (by omega)) (fun h => by have h : g.op < 2 := h; omega) (fun h => by have h : g.op < 3 := h; omega)
  · exact hg
theorem knownW_bd (n : Int) (gs : List Gt) (g : Gt) (hn : 0 ≤ n) : -1 ≤ knownW n gs g ∧ knownW n gs g < n + (gs.length : Int) := by
  unfold knownW
  split
  · rename_i k hk
    have := (List.findIdx?_eq_some_iff_getElem.1 hk).1
    omega
  · omega
theorem shareTo_ok {c : Circ} (h : rightC c = true) (k : Nat) (hk : k ≤ c.gates.length) : WkOk c.inputs (fun _ => True) (shareTo c k) := by
  obtain ⟨⟨h0, h1, _⟩, _⟩ := rightC_parts h
  induction k with
  | zero => exact startOk h0 _
  | succ k ih =>
    have hs := ih (by omega)
    obtain ⟨l1, l2⟩ := shareTo_len c k
    have hm := moveG_ok hs (gateAt_ok h (show k < c.gates.length by omega)) (by omega) (fun _ => trivial) (fun _ => trivial)
    rw [shareTo]
    exact hs.add (swapG_ok hm) (knownW_bd _ _ _ h0) h0 (fun _ _ _ => trivial)
theorem share_right {c : Circ} (h : rightC c = true) : rightC (shareC c) = true := by
  rw [shareC, if_pos h]
  obtain ⟨⟨h0, h1, _⟩, _⟩ := rightC_parts h
  obtain ⟨l1, l2⟩ := shareTo_len c c.gates.length
  exact done_ok h (shareTo_ok h _ (Nat.le_refl _)) (by omega) (by omega) (fun _ _ => trivial)
end Go.Proofs.Ytamijjpnklbgnaa

/-
  slices.IndexFunc and slices.ContainsFunc at integers, for whatever predicate.
-/
namespace Go.Proofs.Ytamijjpnklbgnaa
open Go.RowKit
set_option linter.unusedSimpArgs false
set_option linter.unusedVariables false

/-- What is asked of a predicate at integers that lies in world w. -/
def PredInts (P : Program) (g : Nat) (lb : Array Value) (p : Int → Bool) (zs : List Int) (w : World) : Prop :=
  ∀ (W : World) (x : Int), x ∈ zs → Below w.heap.size w W → Calls P g (#[.int .i64 x] ++ lb) W fun e w' => e = .returned (.bool (p x)) ∧ Below w.heap.size w w'

/-- The first place at which p holds; -1. -/
def findI (p : Int → Bool) (zs : List Int) : Int := match zs.findIdx? p with | some i => i | none => -1

theorem findI_hit (p : Int → Bool) (zs : List Int) (k : Nat) (hk : k < zs.length) (hp : p (zs.getD k 0) = true) (hno : ∀ j, j < k → p (zs.getD j 0) = false) : findI p zs = k := by
  have hg : zs.getD k 0 = zs[k] := by simp [List.getD_eq_getElem?_getD, List.getElem?_eq_getElem hk]
  have : zs.findIdx? p = some k := by
    rw [List.findIdx?_eq_some_iff_getElem]
    refine ⟨hk, by rw [← hg]; exact hp, fun j hj => ?_⟩
    have := hno j hj
    simp [List.getD_eq_getElem?_getD, List.getElem?_eq_getElem (show j < zs.length by omega)] at this
    simp [this]
  simp [findI, this]
theorem findI_miss (p : Int → Bool) (zs : List Int) (hno : ∀ j, j < zs.length → p (zs.getD j 0) = false) : findI p zs = -1 := by
  have : zs.findIdx? p = none := by
    rw [List.findIdx?_eq_none_iff]
    intro x hx
    obtain ⟨j, hj, rfl⟩ := List.getElem_of_mem hx
    have := hno j hj
    simpa [List.getD_eq_getElem?_getD, List.getElem?_eq_getElem hj] using this
  simp [findI, this]
theorem findI_nonneg (p : Int → Bool) (zs : List Int) : decide (0 ≤ findI p zs) = zs.any p := by
  unfold findI
  cases h : zs.findIdx? p with
  | none => rw [List.findIdx?_eq_none_iff] at h; simp; intro x hx; simpa using h x hx
  | some i => 
    rw [List.findIdx?_eq_some_iff_getElem] at h
    obtain ⟨hi, hp, _⟩ := h
    simp
    exact ⟨_, List.getElem_mem hi, hp⟩

set_option maxHeartbeats 400000 in
theorem indexFunc_ints (A : Option Addr) (n c : Nat) (zs : List Int) (g : Nat) (lb : Array Value) (p : Int → Bool) (w : World)
    (eg : ∀ args w, (callFunc g args).run Try.prog w = .ok (.enter g args) w)
    (hr : Rd w w.heap.size 1 A n (ints zs)) (hbig : n ≤ 9223372036854775807) (hp : PredInts Try.prog g lb p zs w) :
    Calls Try.prog 67 #[.slice A n c, .func (.func g) #[] lb] w fun e w' => e = .returned (.int .i64 (findI p zs)) ∧ Below w.heap.size w w' := by
  have hl : zs.length = n := by have := hr.1; simpa using this
  have HL : Hid (zs.length = n) := hl
  have HR : Hid (Rd w w.heap.size 1 A n (ints zs)) := hr
  have HP : Hid (PredInts Try.prog g lb p zs w) := hp
  clear hl hr hp
  go_enter Try.func67, Try.ntmps67
  go_wp2
  go_loopg [5, 8] n (fun gg _ s8 wr => ∃ kk : Nat, kk ≤ n ∧ n - kk ≤ gg ∧ s8 = .int .i64 kk ∧ Aside (Below w.heap.size w wr) ∧ Aside (∀ j, j < kk → p (zs.getD j 0) = false))
  case atStart => exact ⟨0, Nat.zero_le _, by omega, rfl, Below.refl _ w, fun j hj => absurd hj (Nat.not_lt_zero _)⟩
  case round =>
    obtain ⟨kk, hkk, hg, rfl, BW, AA⟩ := hrel
    by_cases hlt : kk < n
    · have hltz : (kk : Int) < (n : Int) := by omega
      obtain ⟨ad, rfl, hb, hcell0⟩ := HR.out.int hlt
      have hcell : wr.cell? (ad.add kk) = some (.int .i64 (zs.getD kk 0)) := (BW.out.cell (by rw [add_block]; exact hb)).trans hcell0
      clear hcell0
      have hcall := HP.out wr (zs.getD kk 0) (by rw [List.getD_eq_getElem?_getD, List.getElem?_eq_getElem (by rw [HL.out]; exact hlt)]; exact List.getElem_mem _) BW.out
      generalize hy : zs.getD kk 0 = y at hcell hcall
      have HY : Aside (zs.getD kk 0 = y) := hy
      clear hy
      cases hq : p y with
      | true =>
        rw [hq] at hcall
        go_wp2_with fail
        refine hcall.mono ?_
        rintro e w' ⟨rfl, hb'⟩
        go_wp2
        go_ret
        refine ⟨?_, hb'⟩
        rw [findI_hit p zs kk (by rw [HL.out]; exact hlt) (by rw [HY.out]; exact hq) AA.out]
        rfl
      | false =>
        rw [hq] at hcall
        go_wp2_with fail
        refine hcall.mono ?_
        rintro e w' ⟨rfl, hb'⟩
        go_wp2
        go_roundg (n - (kk + 1))
        case measure => omega
        case rel =>
          refine ⟨kk + 1, by omega, by omega, by go_num, hb', (show Aside _ from fun j hj => ?_)⟩
          by_cases e : j = kk
          · subst e
            rw [HY.out]; exact hq
          · exact AA.out j (by omega)
    · have hltz : ¬ (kk : Int) < (n : Int) := by omega
      have : kk = n := by omega
      subst this
      go_wp2
      go_ret
      refine ⟨?_, BW.out⟩
      rw [findI_miss p zs (fun j hj => AA.out j (by rw [HL.out] at hj; exact hj))]
      rfl

theorem containsFunc_ints (A : Option Addr) (n c : Nat) (zs : List Int) (g : Nat) (lb : Array Value) (p : Int → Bool) (w : World)
    (eg : ∀ args w, (callFunc g args).run Try.prog w = .ok (.enter g args) w)
    (hr : Rd w w.heap.size 1 A n (ints zs)) (hbig : n ≤ 9223372036854775807) (hp : PredInts Try.prog g lb p zs w) :
    Calls Try.prog 51 #[.slice A n c, .func (.func g) #[] lb] w fun e w' => e = .returned (.bool (zs.any p)) ∧ Below w.heap.size w w' := by
  rw [← findI_nonneg]
  go_enter Try.func51, Try.ntmps51
  go_wp2_with (go_at_call 67; refine (indexFunc_ints A n c zs g lb p _ eg hr hbig hp).mono ?_; rintro e w' ⟨rfl, hb'⟩)
  go_ret
  exact ⟨rfl, hb'⟩
end Go.Proofs.Ytamijjpnklbgnaa

/-
  circuit.operands, circuit.Right and its closures, walked.
-/
namespace Go.Proofs.Ytamijjpnklbgnaa
open Go.RowKit
set_option linter.unusedSimpArgs false
set_option linter.unusedVariables false

set_option maxHeartbeats 400000 in
theorem operands_any (op : Int) (w : World) :
    Calls Try.prog 49 #[.int .i64 op] w fun e w' => e = .returned (.int .i64 (operandsF op)) ∧ w = w' := by
  go_enter Try.func49, Try.ntmps49
  go_wp2
  all_goals go_ret
  all_goals (refine ⟨?_, rfl⟩; simp_all [operandsF])

set_option maxHeartbeats 400000 in
theorem wire_any (x k n inputs i : Int) (pn pc pi : Nat) (w : World)
    (hn : w.cell? ⟨pn, 0, none⟩ = some (.int .i64 n)) (hc : w.cell? ⟨pc, 0, none⟩ = some (.int .i64 inputs)) (hi : w.cell? ⟨pi, 0, none⟩ = some (.int .i64 i))
    (h0 : 0 ≤ inputs) (h1 : inputs ≤ 1000) (h2 : 0 ≤ i) (h3 : i ≤ 20000) :
    Calls Try.prog 50 #[.int .i64 x, .int .i64 k, .pointer (some ⟨pn, 0, none⟩), .pointer (some ⟨pc, 0, none⟩), .pointer (some ⟨pi, 0, none⟩)] w fun e w' => e = .returned (.bool (wireOk n x k (inputs + i))) ∧ w = w' := by
  go_enter Try.func50, Try.ntmps50
  go_wp2
  all_goals go_ret
  all_goals refine ⟨ret_bool ?_, rfl⟩
  all_goals unfold wireOk
  all_goals (rw [Bool.eq_iff_iff]; simp; omega)

set_option maxHeartbeats 400000 in
theorem outs_any (x inputs : Int) (pc : Nat) (A : Option Addr) (n c : Nat) (w : World)
    (hc : w.cell? ⟨pc, 0, none⟩ = some (.int .i64 inputs)) (hg : w.cell? ⟨pc, 1, none⟩ = some (.slice A n c))
    (h0 : 0 ≤ inputs) (h1 : inputs ≤ 1000) (h3 : n ≤ 20000) :
    Calls Try.prog 52 #[.int .i64 x, .pointer (some ⟨pc, 0, none⟩)] w fun e w' => e = .returned (.bool (!outOk (inputs + n) x)) ∧ w = w' := by
  go_enter Try.func52, Try.ntmps52
  go_wp2
  all_goals go_ret
  all_goals refine ⟨ret_bool ?_, rfl⟩
  all_goals unfold outOk
  all_goals first | (rw [Bool.eq_iff_iff]; simp; omega) | (rw [Bool.eq_iff_iff]; simp; done)

set_option maxHeartbeats 400000 in
theorem right_any (inputs : Int) (GA OA : Option Addr) (gn gc on oc : Nat) (gs : List Gt) (os : List Int) (w : World)
    (hG : Rd w w.heap.size 3 GA gn (gatesCells gs)) (hO : Rd w w.heap.size 1 OA on (ints os)) (hm1 : gn ≤ maxLen) (hm2 : on ≤ maxLen) :
    Calls Try.prog 25 #[.agg #[.int .i64 inputs, .slice GA gn gc, .slice OA on oc]] w fun e w' => e = .returned (.bool (rightC ⟨inputs, gs, os⟩)) ∧ Below w.heap.size w w' := by
  unfold maxLen at hm1 hm2
  have HN : Hid (gs.length = gn) := by have := hG.1; simp [gatesCells_length] at this; show gs.length = gn; omega
  have HM : Hid (os.length = on) := by have := hO.1; simp at this; show os.length = on; omega
  have HG : Hid (Rd w w.heap.size 3 GA gn (gatesCells gs)) := hG
  have HO : Hid (Rd w w.heap.size 1 OA on (ints os)) := hO
  clear hG hO
  by_cases hok : 0 ≤ inputs ∧ inputs ≤ 1000 ∧ gn ≤ 20000 ∧ on ≤ 1000
  · obtain ⟨h0, h1, h2, h3⟩ := hok
    go_enter Try.func25, Try.ntmps25
    go_wp2
    go_loopg [30] gn (fun gg s30 wr => ∃ kk : Nat, kk ≤ gn ∧ gn - kk ≤ gg ∧ s30 = .int .i64 kk ∧ Aside (Below (w.heap.size + 1) (w.alloc (.cells #[.int .i64 inputs, .slice GA gn gc, .slice OA on oc] 25)) wr) ∧ Aside (∀ j, j < kk → gateOk (inputs + j) (gs.getD j default) = true))
    case atStart => exact ⟨0, Nat.zero_le _, by omega, rfl, Below.refl _ _, fun j hj => absurd hj (Nat.not_lt_zero _)⟩
    case round =>
      obtain ⟨kk, hkk, hg, rfl, BW, AA⟩ := hrel
      have hc0 : wr.cell? ⟨w.heap.size, 0, none⟩ = some (.int .i64 inputs) := (BW.out.cell (p := ⟨w.heap.size, 0, none⟩) (by simp)).trans (by simp)
      have hc1 : wr.cell? ⟨w.heap.size, 1, none⟩ = some (.slice GA gn gc) := (BW.out.cell (p := ⟨w.heap.size, 1, none⟩) (by simp)).trans (by simp)
      have hc2 : wr.cell? ⟨w.heap.size, 2, none⟩ = some (.slice OA on oc) := (BW.out.cell (p := ⟨w.heap.size, 2, none⟩) (by simp)).trans (by simp)
      have hsz : w.heap.size < wr.heap.size := by have := BW.out.size; simp at this; omega
      by_cases hlt : kk < gn
      · have hltz : (kk : Int) < (gn : Int) := by omega
        obtain ⟨ad, rfl, hb, hg0, hg1, hg2⟩ := ((HG.out.alloc (Nat.le_refl _) _).below BW.out (by omega)).gate hlt
        generalize hy : gs.getD kk default = g at hg0 hg1 hg2
        have HY : Aside (gs.getD kk default = g) := hy
        clear hy
        go_wp2_with fail
        refine (operands_any _ _).mono ?_
        rintro e w' ⟨rfl, rfl⟩
        have b0 := operandsF_bd g.op
        go_wp2_with fail
        · refine (wire_any g.a 1 (operandsF g.op) inputs kk _ _ _ _ (by go_cell) (by simp (disch := (simp; omega)) only [World.cell?_alloc_lt]; exact hc0) (by go_cell) h0 h1 (by omega) (by omega)).mono ?_
          rintro e w' ⟨rfl, rfl⟩
          go_wp2_with fail
          · refine (wire_any g.b 2 (operandsF g.op) inputs kk _ _ _ _ (by go_cell) (by simp (disch := (simp; omega)) only [World.cell?_alloc_lt]; exact hc0) (by go_cell) h0 h1 (by omega) (by omega)).mono ?_
            rintro e w' ⟨rfl, rfl⟩
            have BB := BW.out
            have B0 := below_box (k := 1) BW.out
            have hA : wireOk (operandsF g.op) g.a 1 (inputs + kk) = true := by assumption
            have hgo : gateOk (inputs + kk) g = wireOk (operandsF g.op) g.b 2 (inputs + kk) := by unfold gateOk; rw [hA, decide_eq_true (by assumption)]; simp
            have HGO : Aside (gateOk (inputs + kk) g = wireOk (operandsF g.op) g.b 2 (inputs + kk)) := hgo
            clear hgo
            cases hB : wireOk (operandsF g.op) g.b 2 (inputs + kk)
            · have h0' : ¬ operandsF g.op < 0 := by omega
              go_wp2
              go_ret
              refine ⟨ret_bool ?_, ?_⟩
              · exact (right_false_gate ⟨inputs, gs, os⟩ kk (by rw [HN.out]; exact hlt) (by rw [HY.out, HGO.out, hB])).symm
              · go_grown
            · have h0' : ¬ operandsF g.op < 0 := by omega
              go_wp2
              go_roundg (gn - (kk + 1))
              case measure => omega
              case rel =>
                refine ⟨kk + 1, by omega, by omega, by go_num, ?_, (show Aside _ from fun j hj => ?_)⟩
                · show Below _ _ _
                  go_grown
                · by_cases e : j = kk
                  · subst e
                    rw [HY.out, HGO.out, hB]
                  · exact AA.out j (by omega)
          · have BB := BW.out
            have B0 := below_box (k := 1) BW.out
            have hA : ¬ wireOk (operandsF g.op) g.a 1 (inputs + kk) = true := by assumption
            go_ret
            refine ⟨ret_bool ?_, ?_⟩
            · exact (right_false_gate ⟨inputs, gs, os⟩ kk (by rw [HN.out]; exact hlt) (by rw [HY.out]; unfold gateOk; simp [hA])).symm
            · go_grown
        · have BB := BW.out
          have B0 := below_box (k := 1) BW.out
          go_ret
          refine ⟨ret_bool ?_, ?_⟩
          · exact (right_false_gate ⟨inputs, gs, os⟩ kk (by rw [HN.out]; exact hlt) (by rw [HY.out]; unfold gateOk; rw [decide_eq_false (by omega)]; rfl)).symm
          · go_grown
      · have hltz : ¬ (kk : Int) < (gn : Int) := by omega
        obtain rfl : kk = gn := by omega
        have BB := BW.out
        have B0 := below_box (k := 1) BW.out
        go_wp2_with fail
        refine (containsFunc_ints OA on oc os _ _ (fun x => !outOk (inputs + kk) x) _ (enters Try.func52 (by kernel_rfl) rfl) (((HO.out.alloc (Nat.le_refl _) _).below BW.out (by omega)).more (by omega)) hm2 ?_).mono ?_
        · intro W x hx hb
          refine (outs_any x inputs w.heap.size GA kk gc W ((hb.cell (by show w.heap.size < _; omega)).trans hc0) ((hb.cell (by show w.heap.size < _; omega)).trans hc1) h0 h1 h2).mono ?_
          rintro e w' ⟨rfl, rfl⟩
          exact ⟨rfl, hb⟩
        · rintro e w' ⟨rfl, hb'⟩
          go_wp2
          go_ret
          refine ⟨ret_bool ?_, B0.trans (hb'.mono (by omega))⟩
          rw [right_true_gates ⟨inputs, gs, os⟩ ⟨h0, h1, by rw [HN.out]; exact h2, by rw [HM.out]; exact h3⟩ (fun j hj => AA.out j (by rw [HN.out] at hj; exact hj)), HN.out]
          simp [List.all_eq_not_any_not]
  · have h' : ¬ (((0 ≤ inputs ∧ inputs ≤ 1000) ∧ (gn : Int) ≤ 20000) ∧ (on : Int) ≤ 1000) := by omega
    have HK : Aside (rightC ⟨inputs, gs, os⟩ = false) := by
      show _ = _
      unfold rightC
      rw [decide_eq_false (by simp only [HN.out, HM.out]; exact hok)]
      rfl
    clear hok
    go_enter Try.func25, Try.ntmps25
    go_wp2
    all_goals go_ret
    all_goals (rw [HK.out]; exact ⟨rfl, by go_grown⟩)
end Go.Proofs.Ytamijjpnklbgnaa
