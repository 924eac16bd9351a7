/-
 A part.
-/
import Derived.Test.YtiemhbogbaamlaaYE2
import Derived.Test.YtiemhbogbaamlaaYE3
namespace Go.Proofs.Ytiemhbogbaamlaa
open Go.RowKit
set_option linter.unusedSimpArgs false
set_option linter.unusedVariables false
structure Wk where
 gates : List Gt
 to : List Int
def operandsO (op : Int) : Int := if op = 0 ∨ op = 1 then 0 else if op = 2 then 1 else 2
theorem operandsO_bd (op : Int) : 0 ≤ operandsO op ∧ operandsO op ≤ 2 := by unfold operandsO; split <;> (try split) <;> omega
def toAt (to : List Int) (w : Int) : Int := to.getD w.toNat 0
def moveG (to : List Int) (g : Gt) : Gt := ⟨g.op, if 1 ≤ operandsO g.op then toAt to g.a else g.a, if operandsO g.op = 2 then toAt to g.b else g.b⟩
def startW (n : Int) : Wk := ⟨[], (List.range n.toNat).map Int.ofNat⟩
def addW (n : Int) (s : Wk) (p : Gt × Int) : Wk := ⟨s.gates ++ [p.1], s.to ++ [if p.2 < 0 then n + s.gates.length else p.2]⟩
def doneW (c : Circ) (s : Wk) : Circ := ⟨c.inputs, s.gates, c.outs.map (toAt s.to)⟩
def isW (n : Int) (gs : List Gt) (w op : Int) : Bool := decide (n ≤ w) && decide ((gs.getD (w - n).toNat default).op = op)
def argW (n : Int) (gs : List Gt) (w : Int) : Int := (gs.getD (w - n).toNat default).a
def negW (n : Int) (gs : List Gt) (x y : Int) : Bool := isW n gs x 2 && decide (argW n gs x = y)
def oppW (n : Int) (gs : List Gt) (a b : Int) : Bool := negW n gs a b || negW n gs b a
def notF (n : Int) (gs : List Gt) (a : Int) : Gt × Int :=
 if isW n gs a 0 = true then (⟨1, 0, 0⟩, -1) else if isW n gs a 1 = true then (⟨0, 0, 0⟩, -1) else if isW n gs a 2 = true then (⟨2, a, 0⟩, argW n gs a) else (⟨2, a, 0⟩, -1)
def eitherF (n : Int) (gs : List Gt) (g : Gt) (ab ne : Int) : Gt × Int :=
 if (isW n gs g.a ab || isW n gs g.b ab) = true then (⟨ab, 0, 0⟩, -1) else if isW n gs g.a ne = true then (g, g.b) else if (isW n gs g.b ne || decide (g.a = g.b)) = true then (g, g.a)
 else if oppW n gs g.a g.b = true then (⟨ab, 0, 0⟩, -1) else (g, -1)
def xorF (n : Int) (gs : List Gt) (g : Gt) : Gt × Int :=
 if isW n gs g.a 0 = true then (g, g.b) else if isW n gs g.b 0 = true then (g, g.a) else if g.a = g.b then (⟨0, 0, 0⟩, -1) else if oppW n gs g.a g.b = true then (⟨1, 0, 0⟩, -1)
 else if isW n gs g.a 1 = true then notF n gs g.b else if isW n gs g.b 1 = true then notF n gs g.a else (g, -1)
def foldG (n : Int) (gs : List Gt) (g : Gt) : Gt × Int :=
 if g.op = 2 then notF n gs g.a else if g.op = 3 then eitherF n gs g 0 1 else if g.op = 4 then eitherF n gs g 1 0 else if g.op = 5 then xorF n gs g else (g, -1)
def gateAt (c : Circ) (k : Nat) : Gt := c.gates.getD k default
def foldTo (c : Circ) : Nat → Wk
 | 0 => startW c.inputs
 | k + 1 => addW c.inputs (foldTo c k) (foldG c.inputs (foldTo c k).gates (moveG (foldTo c k).to (gateAt c k)))
def foldC (c : Circ) : Circ := if rightC c = true then doneW c (foldTo c c.gates.length) else noCirc
def swapG (g : Gt) : Gt := if operandsO g.op = 2 ∧ g.b < g.a then ⟨g.op, g.b, g.a⟩ else g
def knownW (n : Int) (gs : List Gt) (g : Gt) : Int := match gs.findIdx? (fun x => gtEq x g) with | some k => n + (k : Int) | none => -1
def shareG (n : Int) (s : Wk) (g : Gt) : Gt × Int := (swapG (moveG s.to g), knownW n s.gates (swapG (moveG s.to g)))
def shareTo (c : Circ) : Nat → Wk
 | 0 => startW c.inputs
 | k + 1 => addW c.inputs (shareTo c k) (shareG c.inputs (shareTo c k) (gateAt c k))
def shareC (c : Circ) : Circ := if rightC c = true then doneW c (shareTo c c.gates.length) else noCirc
def setT (l : List Bool) (w : Int) : List Bool := l.set w.toNat true
def needAt (nd : List Bool) (w : Int) : Bool := nd.getD w.toNat false
def needG (n : Int) (nd : List Bool) (i : Nat) (g : Gt) : List Bool :=
 if needAt nd (n + (i : Int)) = true then (if operandsO g.op = 2 then setT (setT nd g.a) g.b else if operandsO g.op = 1 then setT nd g.a else nd) else nd
def needOuts (c : Circ) : Nat → List Bool
 | 0 => List.replicate (c.inputs + c.gates.length).toNat false
 | k + 1 => setT (needOuts c k) (c.outs.getD k 0)
def needTo (c : Circ) : Nat → List Bool
 | 0 => needOuts c c.outs.length
 | j + 1 => needG c.inputs (needTo c j) (c.gates.length - 1 - j) (gateAt c (c.gates.length - 1 - j))
def needC (c : Circ) : List Bool := needTo c c.gates.length
def trimTo (c : Circ) : Nat → Wk
 | 0 => startW c.inputs
 | k + 1 => if needAt (needC c) (c.inputs + (k : Int)) = true then addW c.inputs (trimTo c k) (moveG (trimTo c k).to (gateAt c k), -1) else ⟨(trimTo c k).gates, (trimTo c k).to ++ [0]⟩
def trimC (c : Circ) : Circ := if rightC c = true then doneW c (trimTo c c.gates.length) else noCirc
def oneC (c : Circ) : Circ := trimC (shareC (foldC c))
def gateWt (g : Gt) : Nat := if operandsO g.op = 0 then 1 else if operandsO g.op = 1 then 2 else if g.a ≤ g.b then 3 else 4
def measC (c : Circ) : Nat := (c.gates.map gateWt).sum
def iterC : Nat → Circ → Circ
 | 0, c => c
 | k + 1, c => if sameC (oneC c) c = true then c else iterC k (oneC c)
def allC (c : Circ) : Circ := if rightC c = true then iterC (measC c) c else noCirc
theorem addW_len (n : Int) (s : Wk) (p : Gt × Int) : (addW n s p).gates.length = s.gates.length + 1 ∧ (addW n s p).to.length = s.to.length + 1 := ⟨by simp [addW], by simp [addW]⟩
theorem startW_len (n : Int) : (startW n).gates.length = 0 ∧ (startW n).to.length = n.toNat := ⟨rfl, by simp [startW]⟩
theorem foldTo_len (c : Circ) (k : Nat) : (foldTo c k).gates.length = k ∧ (foldTo c k).to.length = c.inputs.toNat + k := by
 induction k with
 | zero => exact startW_len _
 | succ k ih => have := addW_len c.inputs (foldTo c k) (foldG c.inputs (foldTo c k).gates (moveG (foldTo c k).to (gateAt c k))); rw [foldTo]; omega
theorem shareTo_len (c : Circ) (k : Nat) : (shareTo c k).gates.length = k ∧ (shareTo c k).to.length = c.inputs.toNat + k := by
 induction k with
 | zero => exact startW_len _
 | succ k ih => have := addW_len c.inputs (shareTo c k) (shareG c.inputs (shareTo c k) (gateAt c k)); rw [shareTo]; omega
theorem trimTo_len (c : Circ) (k : Nat) : (trimTo c k).gates.length ≤ k ∧ (trimTo c k).to.length = c.inputs.toNat + k := by
 induction k with
 | zero => exact ⟨Nat.le_of_eq (startW_len _).1, (startW_len _).2⟩
 | succ k ih =>
  rw [trimTo]
  split
  ·have := addW_len c.inputs (trimTo c k) (moveG (trimTo c k).to (gateAt c k), -1); omega
  ·exact ⟨by show (trimTo c k).gates.length ≤ _; omega, by simp; omega⟩
theorem needG_len (n : Int) (nd : List Bool) (i : Nat) (g : Gt) : (needG n nd i g).length = nd.length := by
 unfold needG setT
 split
 ·split
  ·simp
  ·split <;> simp
 ·rfl
theorem needOuts_len (c : Circ) (k : Nat) : (needOuts c k).length = (c.inputs + c.gates.length).toNat := by
 induction k with
 | zero => simp [needOuts]
 | succ k ih => simp [needOuts, setT, ih]
theorem needTo_len (c : Circ) (j : Nat) : (needTo c j).length = (c.inputs + c.gates.length).toNat := by
 induction j with
 | zero => exact needOuts_len _ _
 | succ j ih => rw [needTo, needG_len, ih]
end Go.Proofs.Ytiemhbogbaamlaa

/-
 A part.
-/
namespace Go.Proofs.Ytiemhbogbaamlaa
open Go.RowKit
set_option linter.unusedSimpArgs false
set_option linter.unusedVariables false
theorem gateOk_mk {lim : Int} {g : Gt} (ho : g.op = 0 ∨ g.op = 1 ∨ g.op = 2 ∨ g.op = 3 ∨ g.op = 4 ∨ g.op = 5) (ha : 2 ≤ g.op → 0 ≤ g.a ∧ g.a < lim) (hb : 3 ≤ g.op → 0 ≤ g.b ∧ g.b < lim) (ha0 : g.op < 2 → g.a = 0) (hb0 : g.op < 3 → g.b = 0) : gateOk lim g = true := by
 have hop : operandsF g.op = if g.op < 2 then 0 else if g.op < 3 then 1 else 2 := by
  rcases ho with e | e | e | e | e | e <;> rw [e] <;> rfl
 simp only [gateOk, wireOk, Bool.and_eq_true, decide_eq_true_eq]
 rw [hop]
 refine ⟨⟨?_, ?_⟩, ?_⟩
 ·split <;> (try split) <;> omega
 ·split
  ·rename_i h; have := ha0 h; omega
  ·rename_i h; have := ha (by omega); split <;> omega
 ·split
  ·rename_i h; have := hb0 (by omega); omega
  ·split
   ·rename_i h; have := hb0 (by omega); omega
   ·rename_i h; have := hb (by omega); omega
theorem operandsO_of {op : Int} (ho : op = 0 ∨ op = 1 ∨ op = 2 ∨ op = 3 ∨ op = 4 ∨ op = 5) : operandsO op = if op < 2 then 0 else if op < 3 then 1 else 2 := by
 rcases ho with e | e | e | e | e | e <;> rw [e] <;> rfl
def GsOk (n : Int) (gs : List Gt) : Prop := ∀ i, i < gs.length → gateOk (n + (i : Int)) (gs.getD i default) = true
theorem GsOk.snoc {n : Int} {gs : List Gt} {g : Gt} (h : GsOk n gs) (hg : gateOk (n + (gs.length : Int)) g = true) : GsOk n (gs ++ [g]) := by
 intro i hi
 rw [List.length_append, List.length_singleton] at hi
 rcases Nat.lt_or_ge i gs.length with h1 | h1
 ·rw [List.getD_eq_getElem?_getD, List.getElem?_append_left h1, ← List.getD_eq_getElem?_getD]; exact h i h1
 ·obtain rfl : i = gs.length := by omega
  rw [List.getD_eq_getElem?_getD, List.getElem?_append_right (Nat.le_refl _), Nat.sub_self]; exact hg
theorem snocZ_lt {α : Type} (l : List α) (x d : α) {i : Nat} (h : i < l.length) : (l ++ [x]).getD i d = l.getD i d := by
 rw [List.getD_eq_getElem?_getD, List.getElem?_append_left h, ← List.getD_eq_getElem?_getD]
theorem snocZ_eq {α : Type} (l : List α) (x d : α) : (l ++ [x]).getD l.length d = x := by
 rw [List.getD_eq_getElem?_getD, List.getElem?_append_right (Nat.le_refl _), Nat.sub_self]; rfl
theorem isW_gate {n : Int} {gs : List Gt} {w op : Int} (h : isW n gs w op = true) (hw : w < n + (gs.length : Int)) : ∃ j : Nat, w = n + (j : Int) ∧ j < gs.length ∧ (gs.getD j default).op = op ∧ argW n gs w = (gs.getD j default).a := by
 unfold isW at h
 rw [Bool.and_eq_true, decide_eq_true_iff, decide_eq_true_iff] at h
 exact ⟨(w - n).toNat, by omega, by omega, h.2, rfl⟩
theorem argW_ok {n : Int} {gs : List Gt} (hs : GsOk n gs) {w : Int} (h : isW n gs w 2 = true) (hw : w < n + (gs.length : Int)) : 0 ≤ argW n gs w ∧ argW n gs w < w := by
 obtain ⟨j, rfl, hj, ho, ha⟩ := isW_gate h hw
 have := (gateOk_parts (hs j hj)).2.1 (by omega)
 rw [ha]; omega
theorem const_ok {lim : Int} (o : Int) (ho : o = 0 ∨ o = 1) : gateOk lim ⟨o, 0, 0⟩ = true := by
 refine gateOk_mk (ho.elim .inl (fun h => .inr (.inl h))) (fun h => ?_) (fun h => ?_) (fun _ => rfl) (fun _ => rfl)
 ·have h : 2 ≤ o := h
  omega
 ·have h : 3 ≤ o := h
  omega
theorem nott_ok {lim a : Int} (ha : 0 ≤ a ∧ a < lim) : gateOk lim ⟨2, a, 0⟩ = true := by
 refine gateOk_mk (.inr (.inr (.inl rfl))) (fun _ => ha) (fun h => ?_) (fun h => ?_) (fun _ => rfl)
 ·have h : (3 : Int) ≤ 2 := h
  omega
 ·have h : (2 : Int) < 2 := h
  omega
theorem notF_ok {n : Int} {gs : List Gt} (hs : GsOk n gs) {a : Int} (ha : 0 ≤ a ∧ a < n + (gs.length : Int)) : gateOk (n + (gs.length : Int)) (notF n gs a).1 = true ∧ -1 ≤ (notF n gs a).2 ∧ (notF n gs a).2 < n + (gs.length : Int) := by
 have hm : (-1 : Int) < n + (gs.length : Int) := by omega
 have h1 : (-1 : Int) ≤ -1 := by omega
 unfold notF
 split
 ·exact ⟨const_ok 1 (.inr rfl), h1, hm⟩
 ·split
  ·exact ⟨const_ok 0 (.inl rfl), h1, hm⟩
  ·split
   ·rename_i h
    have := argW_ok hs h ha.2
    exact ⟨nott_ok ha, by show -1 ≤ argW n gs a; omega, by show argW n gs a < _; omega⟩
   ·exact ⟨nott_ok ha, h1, hm⟩
theorem foldG_ok {n : Int} {gs : List Gt} (hs : GsOk n gs) {g : Gt} (hn : 0 ≤ n) (hg : gateOk (n + (gs.length : Int)) g = true) : gateOk (n + (gs.length : Int)) (foldG n gs g).1 = true ∧ -1 ≤ (foldG n gs g).2 ∧ (foldG n gs g).2 < n + (gs.length : Int) := by
 obtain ⟨ho, ha, hb, ha0, hb0⟩ := gateOk_parts hg
 have hc := fun o ho => const_ok (lim := n + (gs.length : Int)) o ho
 have hd : (-1 : Int) ≤ -1 := by omega
 have hm : (-1 : Int) < n + (gs.length : Int) := by omega
 have heither : ∀ ab ne : Int, (ab = 0 ∨ ab = 1) → 3 ≤ g.op → gateOk (n + (gs.length : Int)) (eitherF n gs g ab ne).1 = true ∧ -1 ≤ (eitherF n gs g ab ne).2 ∧ (eitherF n gs g ab ne).2 < n + (gs.length : Int) := fun ab ne hab h3 => by
  have h1 := ha (by omega)
  have h2 := hb h3
  unfold eitherF
  split
  ·exact ⟨hc ab hab, hd, hm⟩
  ·split
   ·exact ⟨hg, by show -1 ≤ g.b; omega, h2.2⟩
   ·split
    ·exact ⟨hg, by show -1 ≤ g.a; omega, h1.2⟩
    ·split
     ·exact ⟨hc ab hab, hd, hm⟩
     ·exact ⟨hg, hd, hm⟩
 unfold foldG
 split
 ·rename_i h
  exact notF_ok hs (ha (by omega))
 ·split
  ·exact heither 0 1 (.inl rfl) (by omega)
  ·split
   ·exact heither 1 0 (.inr rfl) (by omega)
   ·split
    ·have h1 := ha (by omega)
     have h2 := hb (by omega)
     unfold xorF
     split
     ·exact ⟨hg, by show -1 ≤ g.b; omega, h2.2⟩
     ·split
      ·exact ⟨hg, by show -1 ≤ g.a; omega, h1.2⟩
      ·split
       ·exact ⟨hc 0 (.inl rfl), hd, hm⟩
       ·split
        ·exact ⟨hc 1 (.inr rfl), hd, hm⟩
        ·split
         ·exact notF_ok hs h2
         ·split
          ·exact notF_ok hs h1
          ·exact ⟨hg, hd, hm⟩
    ·exact ⟨hg, hd, hm⟩
structure WkOk (n : Int) (P : Nat → Prop) (s : Wk) : Prop where
 gok : GsOk n s.gates
 tok : ∀ w, w < s.to.length → P w → 0 ≤ s.to.getD w 0 ∧ s.to.getD w 0 < n + (s.gates.length : Int)
theorem startOk {n : Int} (hn : 0 ≤ n) (P : Nat → Prop) : WkOk n P (startW n) :=
 ⟨fun i hi => absurd hi (Nat.not_lt_zero _), fun w hw _ => by
  have hw' : w < n.toNat := by simpa [startW] using hw
  have e : (startW n).to.getD w 0 = (w : Int) := by simp [startW, List.getD_eq_getElem?_getD, List.getElem?_map, List.getElem?_range hw']
  rw [e]
  show 0 ≤ (w : Int) ∧ (w : Int) < n + ((0 : Nat) : Int)
  omega⟩
theorem moveG_ok {n lim : Int} {P : Nat → Prop} {s : Wk} (h : WkOk n P s) {g : Gt} (hg : gateOk lim g = true) (hl : lim ≤ (s.to.length : Int)) (hPa : 2 ≤ g.op → P g.a.toNat) (hPb : 3 ≤ g.op → P g.b.toNat) : gateOk (n + (s.gates.length : Int)) (moveG s.to g) = true := by
 obtain ⟨ho, ha, hb, ha0, hb0⟩ := gateOk_parts hg
 have hop := operandsO_of ho
 refine gateOk_mk ho (fun h2 => ?_) (fun h3 => ?_) (fun h2 => ?_) (fun h3 => ?_)
 ·have h2 : 2 ≤ g.op := h2
  have := ha h2
  show 0 ≤ (if 1 ≤ operandsO g.op then toAt s.to g.a else g.a) ∧ _
  have e : (moveG s.to g).a = toAt s.to g.a := by show (if _ then _ else _) = _; rw [if_pos (by rw [hop, if_neg (by omega)]; split <;> omega)]
  rw [e]
  have e2 : (if 1 ≤ operandsO g.op then toAt s.to g.a else g.a) = toAt s.to g.a := e
  rw [e2]
  exact h.tok _ (by omega) (hPa h2)
 ·have h3 : 3 ≤ g.op := h3
  have := hb h3
  have e : (moveG s.to g).b = toAt s.to g.b := by show (if _ then _ else _) = _; rw [if_pos (by rw [hop, if_neg (by omega), if_neg (by omega)])]
  rw [e]
  exact h.tok _ (by omega) (hPb h3)
 ·have h2 : g.op < 2 := h2
  have e : (moveG s.to g).a = g.a := by show (if _ then _ else _) = _; rw [if_neg (by rw [hop, if_pos h2]; omega)]
  rw [e]; exact ha0 h2
 ·have h3 : g.op < 3 := h3
  have e : (moveG s.to g).b = g.b := by show (if _ then _ else _) = _; rw [if_neg (by rw [hop]; split <;> (try split) <;> omega)]
  rw [e]; exact hb0 h3
theorem WkOk.add {n : Int} {P Q : Nat → Prop} {s : Wk} (h : WkOk n P s) {p : Gt × Int} (hg : gateOk (n + (s.gates.length : Int)) p.1 = true) (hp : -1 ≤ p.2 ∧ p.2 < n + (s.gates.length : Int)) (hn : 0 ≤ n) (hQ : ∀ w, w < s.to.length → Q w → P w) : WkOk n Q (addW n s p) := by
 refine ⟨h.gok.snoc hg, fun w hw hq => ?_⟩
 have e1 : ((addW n s p).gates.length : Int) = (s.gates.length : Int) + 1 := by rw [(addW_len n s p).1]; omega
 rw [e1]
 rw [(addW_len n s p).2] at hw
 rcases Nat.lt_or_ge w s.to.length with h1 | h1
 ·rw [show (addW n s p).to.getD w 0 = s.to.getD w 0 from snocZ_lt _ _ _ h1]
  have := h.tok w h1 (hQ w h1 hq)
  omega
 ·obtain rfl : w = s.to.length := by omega
  rw [show (addW n s p).to.getD s.to.length 0 = _ from snocZ_eq _ _ _]
  split <;> omega
theorem gateAt_ok {c : Circ} (h : rightC c = true) {k : Nat} (hk : k < c.gates.length) : gateOk (c.inputs + (k : Int)) (gateAt c k) = true := (rightC_parts h).2.1 k hk
theorem foldTo_ok {c : Circ} (h : rightC c = true) (k : Nat) (hk : k ≤ c.gates.length) : WkOk c.inputs (fun _ => True) (foldTo c k) := by
 obtain ⟨⟨h0, h1, _⟩, _⟩ := rightC_parts h
 induction k with
 | zero => exact startOk h0 _
 | succ k ih =>
  have hs := ih (by omega)
  obtain ⟨l1, l2⟩ := foldTo_len c k
  have hm := moveG_ok hs (gateAt_ok h (show k < c.gates.length by omega)) (by omega) (fun _ => trivial) (fun _ => trivial)
  obtain ⟨f1, f2, f3⟩ := foldG_ok hs.gok h0 hm
  rw [foldTo]
  exact hs.add f1 ⟨f2, f3⟩ h0 (fun _ _ _ => trivial)
theorem done_ok {c : Circ} {P : Nat → Prop} {s : Wk} (h : rightC c = true) (hs : WkOk c.inputs P s) (hl : (s.to.length : Int) = c.inputs + (c.gates.length : Int)) (hg : s.gates.length ≤ c.gates.length) (hP : ∀ k, k < c.outs.length → P (c.outs.getD k 0).toNat) : rightC (doneW c s) = true := by
 obtain ⟨⟨h0, h1, h2, h3⟩, hg2, ho⟩ := rightC_parts h
 refine (right_true_gates (doneW c s) ⟨h0, h1, by show s.gates.length ≤ _; omega, by show (c.outs.map _).length ≤ _; simpa using h3⟩ (fun k hk => hs.gok k hk)).trans ?_
 refine all_true_at _ _ (fun k hk => ?_)
 have hk' : k < c.outs.length := by simpa [doneW] using hk
 have e : (doneW c s).outs.getD k 0 = toAt s.to (c.outs.getD k 0) := by
  simp [doneW, List.getD_eq_getElem?_getD, List.getElem?_map, List.getElem?_eq_getElem hk']
 have hb := outOk_at ho hk'
 rw [e]
 have := hs.tok (c.outs.getD k 0).toNat (by omega) (hP k hk')
 exact decide_eq_true this
theorem fold_right {c : Circ} (h : rightC c = true) : rightC (foldC c) = true := by
 rw [foldC, if_pos h]
 obtain ⟨⟨h0, h1, _⟩, _⟩ := rightC_parts h
 obtain ⟨l1, l2⟩ := foldTo_len c c.gates.length
 exact done_ok h (foldTo_ok h _ (Nat.le_refl _)) (by omega) (by omega) (fun _ _ => trivial)
theorem swapG_ok {lim : Int} {g : Gt} (hg : gateOk lim g = true) : gateOk lim (swapG g) = true := by
 unfold swapG
 split
 ·rename_i h
  obtain ⟨ho, ha, hb, ha0, hb0⟩ := gateOk_parts hg
  have hop := operandsO_of ho
  have h3 : 3 ≤ g.op := by
   have := h.1
   rw [hop] at this
   split at this <;> (try split at this) <;> omega
  exact gateOk_mk ho (fun _ => hb h3) (fun _ => ha (by omega)) (fun h => by have h : g.op < 2 := h; omega) (fun h => by have h : g.op < 3 := h; omega)
 ·exact hg
theorem knownW_bd (n : Int) (gs : List Gt) (g : Gt) (hn : 0 ≤ n) : -1 ≤ knownW n gs g ∧ knownW n gs g < n + (gs.length : Int) := by
 unfold knownW
 split
 ·rename_i k hk
  have := (List.findIdx?_eq_some_iff_getElem.1 hk).1
  omega
 ·omega
theorem shareTo_ok {c : Circ} (h : rightC c = true) (k : Nat) (hk : k ≤ c.gates.length) : WkOk c.inputs (fun _ => True) (shareTo c k) := by
 obtain ⟨⟨h0, h1, _⟩, _⟩ := rightC_parts h
 induction k with
 | zero => exact startOk h0 _
 | succ k ih =>
  have hs := ih (by omega)
  obtain ⟨l1, l2⟩ := shareTo_len c k
  have hm := moveG_ok hs (gateAt_ok h (show k < c.gates.length by omega)) (by omega) (fun _ => trivial) (fun _ => trivial)
  rw [shareTo]
  exact hs.add (swapG_ok hm) (knownW_bd _ _ _ h0) h0 (fun _ _ _ => trivial)
theorem share_right {c : Circ} (h : rightC c = true) : rightC (shareC c) = true := by
 rw [shareC, if_pos h]
 obtain ⟨⟨h0, h1, _⟩, _⟩ := rightC_parts h
 obtain ⟨l1, l2⟩ := shareTo_len c c.gates.length
 exact done_ok h (shareTo_ok h _ (Nat.le_refl _)) (by omega) (by omega) (fun _ _ => trivial)
end Go.Proofs.Ytiemhbogbaamlaa

/-
 A part.
-/
namespace Go.Proofs.Ytiemhbogbaamlaa
open Go.RowKit
set_option linter.unusedSimpArgs false
set_option linter.unusedVariables false
theorem evalB_congr {op : Int} (ho : op = 0 ∨ op = 1 ∨ op = 2 ∨ op = 3 ∨ op = 4 ∨ op = 5) {x x' y y' : Bool} (hx : 2 ≤ op → x = x') (hy : 3 ≤ op → y = y') : evalB op x y = evalB op x' y' := by
 rcases ho with rfl | rfl | rfl | rfl | rfl | rfl
 ·rfl
 ·rfl
 ·rw [hx (by omega)]; rfl
 ·rw [hx (by omega), hy (by omega)]
 ·rw [hx (by omega), hy (by omega)]
 ·rw [hx (by omega), hy (by omega)]
theorem V_at {N : Nat} {vs : List Bool} (hv : vs.length = N) {gs : List Gt} {j : Nat} (hj : j < gs.length) (hg : gateOk ((N : Int) + (j : Int)) (gs.getD j default) = true) :
 V vs gs ((N : Int) + (j : Int)) = evalB (gs.getD j default).op (V vs gs (gs.getD j default).a) (V vs gs (gs.getD j default).b) := by
 have ht := take_snoc_getD gs j hj
 have hl : (gs.take j).length = j := by rw [List.length_take]; omega
 have he : Ext (gs.take j ++ [gs.getD j default]) gs := ⟨gs.drop (j + 1), by rw [← ht, List.take_append_drop]⟩
 have he0 : Ext (gs.take j) gs := ⟨gs.drop j, by rw [List.take_append_drop]⟩
 have hw : okW N (gs.take j ++ [gs.getD j default]) ((N : Int) + (j : Int)) := by
  unfold okW; rw [List.length_append, hl, List.length_singleton]; omega
 rw [V_ext hv he hw]
 have e1 : (N : Int) + (j : Int) = wireF N (gs.take j) := by unfold wireF; rw [hl]
 rw [e1, V_new _ _ hv]
 obtain ⟨ho, ha, hb, _, _⟩ := gateOk_parts hg
 refine evalB_congr ho (fun h => ?_) (fun h => ?_)
 ·exact (V_ext hv he0 (by have := ha h; unfold okW; rw [hl]; omega)).symm
 ·exact (V_ext hv he0 (by have := hb h; unfold okW; rw [hl]; omega)).symm
theorem moveG_op (to : List Int) (g : Gt) : (moveG to g).op = g.op := rfl
theorem moveG_a {to : List Int} {g : Gt} (ho : g.op = 0 ∨ g.op = 1 ∨ g.op = 2 ∨ g.op = 3 ∨ g.op = 4 ∨ g.op = 5) (h : 2 ≤ g.op) : (moveG to g).a = toAt to g.a := by
 show (if _ then _ else _) = _
 rw [if_pos]
 rw [operandsO_of ho, if_neg (by omega)]; split <;> omega
theorem moveG_b {to : List Int} {g : Gt} (ho : g.op = 0 ∨ g.op = 1 ∨ g.op = 2 ∨ g.op = 3 ∨ g.op = 4 ∨ g.op = 5) (h : 3 ≤ g.op) : (moveG to g).b = toAt to g.b := by
 show (if _ then _ else _) = _
 rw [if_pos]
 rw [operandsO_of ho, if_neg (by omega), if_neg (by omega)]
theorem moveG_a0 {to : List Int} {g : Gt} (ho : g.op = 0 ∨ g.op = 1 ∨ g.op = 2 ∨ g.op = 3 ∨ g.op = 4 ∨ g.op = 5) (h : g.op < 2) : (moveG to g).a = g.a := by
 show (if _ then _ else _) = _
 rw [if_neg]
 rw [operandsO_of ho, if_pos h]; omega
theorem moveG_b0 {to : List Int} {g : Gt} (ho : g.op = 0 ∨ g.op = 1 ∨ g.op = 2 ∨ g.op = 3 ∨ g.op = 4 ∨ g.op = 5) (h : g.op < 3) : (moveG to g).b = g.b := by
 show (if _ then _ else _) = _
 rw [if_neg]
 rw [operandsO_of ho]; split <;> omega
section
variable {N : Nat} {vs : List Bool} {gs : List Gt}
theorem isW_V (hv : vs.length = N) (hs : GsOk N gs) {x op : Int} (h : isW N gs x op = true) (hx : x < (N : Int) + (gs.length : Int)) : ∃ y z : Bool, V vs gs x = evalB op y z ∧ (2 ≤ op → y = V vs gs (argW N gs x)) := by
 obtain ⟨j, rfl, hj, ho, ha⟩ := isW_gate h hx
 refine ⟨_, _, (V_at hv hj (hs j hj)).trans (by rw [ho]), fun _ => by rw [ha]⟩
theorem isW_0 (hv : vs.length = N) (hs : GsOk N gs) {x : Int} (h : isW N gs x 0 = true) (hx : x < (N : Int) + (gs.length : Int)) : V vs gs x = false := by
 obtain ⟨y, z, e, _⟩ := isW_V hv hs h hx
 exact e
theorem isW_1 (hv : vs.length = N) (hs : GsOk N gs) {x : Int} (h : isW N gs x 1 = true) (hx : x < (N : Int) + (gs.length : Int)) : V vs gs x = true := by
 obtain ⟨y, z, e, _⟩ := isW_V hv hs h hx
 exact e
theorem isW_2 (hv : vs.length = N) (hs : GsOk N gs) {x : Int} (h : isW N gs x 2 = true) (hx : x < (N : Int) + (gs.length : Int)) : V vs gs x = !V vs gs (argW N gs x) := by
 obtain ⟨y, z, e, e2⟩ := isW_V hv hs h hx
 rw [e, e2 (by omega)]; rfl
theorem oppW_V (hv : vs.length = N) (hs : GsOk N gs) {x y : Int} (h : oppW N gs x y = true) (hx : x < (N : Int) + (gs.length : Int)) (hy : y < (N : Int) + (gs.length : Int)) : V vs gs x = !V vs gs y := by
 unfold oppW negW at h
 rw [Bool.or_eq_true, Bool.and_eq_true, Bool.and_eq_true, decide_eq_true_iff, decide_eq_true_iff] at h
 rcases h with ⟨h1, h2⟩ | ⟨h1, h2⟩
 ·rw [isW_2 hv hs h1 hx, h2]
 ·rw [isW_2 hv hs h1 hy, h2, Bool.not_not]
def FVal (vs : List Bool) (gs : List Gt) (p : Gt × Int) (v : Bool) : Prop := if p.2 < 0 then evalB p.1.op (V vs gs p.1.a) (V vs gs p.1.b) = v else V vs gs p.2 = v
theorem FVal.gate {g : Gt} {v : Bool} (h : evalB g.op (V vs gs g.a) (V vs gs g.b) = v) : FVal vs gs (g, -1) v := by unfold FVal; rw [if_pos (by show (-1 : Int) < 0; decide)]; exact h
theorem FVal.congr {p : Gt × Int} {v v' : Bool} (h : FVal vs gs p v) (e : v = v') : FVal vs gs p v' := e ▸ h
theorem FVal.wire {g : Gt} {z : Int} {v : Bool} (hz : 0 ≤ z) (h : V vs gs z = v) : FVal vs gs (g, z) v := by unfold FVal; rw [if_neg (by show ¬ z < 0; omega)]; exact h
theorem notF_val (hv : vs.length = N) (hs : GsOk N gs) {a : Int} (ha : 0 ≤ a ∧ a < (N : Int) + (gs.length : Int)) : FVal vs gs (notF N gs a) (!V vs gs a) := by
 unfold notF
 split
 ·rename_i h
  rw [isW_0 hv hs h ha.2]; exact .gate rfl
 ·split
  ·rename_i h
   rw [isW_1 hv hs h ha.2]; exact .gate rfl
  ·split
   ·rename_i h
    have := argW_ok hs h ha.2
    rw [isW_2 hv hs h ha.2, Bool.not_not]; exact .wire this.1 rfl
   ·exact .gate rfl
theorem foldG_val (hv : vs.length = N) (hs : GsOk N gs) {g : Gt} (hg : gateOk ((N : Int) + (gs.length : Int)) g = true) : FVal vs gs (foldG N gs g) (evalB g.op (V vs gs g.a) (V vs gs g.b)) := by
 obtain ⟨ho, ha, hb, _, _⟩ := gateOk_parts hg
 obtain ⟨op, x, y⟩ := g
 dsimp only at ho ha hb ⊢
 unfold foldG
 dsimp only
 split
 ·rename_i h; subst h
  exact notF_val hv hs (ha (by omega))
 ·split
  ·rename_i _ h; subst h
   have hx := ha (by omega)
   have hy := hb (by omega)
   unfold eitherF
   dsimp only
   split
   ·rename_i h
    rw [Bool.or_eq_true] at h
    rcases h with h | h
    ·rw [isW_0 hv hs h hx.2]; exact .gate rfl
    ·rw [isW_0 hv hs h hy.2]; refine .gate ?_; show false = (_ && false); rw [Bool.and_false]
   ·split
    ·rename_i h
     rw [isW_1 hv hs h hx.2]; exact .wire hy.1 rfl
    ·split
     ·rename_i h
      rw [Bool.or_eq_true, decide_eq_true_iff] at h
      rcases h with h | h
      ·rw [isW_1 hv hs h hy.2]; refine .wire hx.1 ?_; show _ = (_ && true); rw [Bool.and_true]
      ·subst h; refine .wire hx.1 ?_; show _ = (_ && _); rw [Bool.and_self]
     ·split
      ·rename_i h
       rw [oppW_V hv hs h hx.2 hy.2]; refine .gate ?_; show false = (_ && _); rw [Bool.not_and_self]
      ·exact .gate rfl
  ·split
   ·rename_i _ _ h; subst h
    have hx := ha (by omega)
    have hy := hb (by omega)
    unfold eitherF
    dsimp only
    split
    ·rename_i h
     rw [Bool.or_eq_true] at h
     rcases h with h | h
     ·rw [isW_1 hv hs h hx.2]; exact .gate rfl
     ·rw [isW_1 hv hs h hy.2]; refine .gate ?_; show true = (_ || true); rw [Bool.or_true]
    ·split
     ·rename_i h
      rw [isW_0 hv hs h hx.2]; exact .wire hy.1 rfl
     ·split
      ·rename_i h
       rw [Bool.or_eq_true, decide_eq_true_iff] at h
       rcases h with h | h
       ·rw [isW_0 hv hs h hy.2]; refine .wire hx.1 ?_; show _ = (_ || false); rw [Bool.or_false]
       ·subst h; refine .wire hx.1 ?_; show _ = (_ || _); rw [Bool.or_self]
      ·split
       ·rename_i h
        rw [oppW_V hv hs h hx.2 hy.2]; refine .gate ?_; show true = (_ || _); rw [Bool.not_or_self]
       ·exact .gate rfl
   ·split
    ·rename_i _ _ _ h; subst h
     have hx := ha (by omega)
     have hy := hb (by omega)
     unfold xorF
     dsimp only
     split
     ·rename_i h
      rw [isW_0 hv hs h hx.2]; refine .wire hy.1 ?_; show _ = (false != _); rw [Bool.false_bne]
     ·split
      ·rename_i h
       rw [isW_0 hv hs h hy.2]; refine .wire hx.1 ?_; show _ = (_ != false); rw [Bool.bne_false]
      ·split
       ·rename_i h
        subst h; refine .gate ?_; show false = (_ != _); rw [bne_self_eq_false]
       ·split
        ·rename_i h
         rw [oppW_V hv hs h hx.2 hy.2]; refine .gate ?_; show true = (_ != _); cases V vs gs y <;> rfl
        ·split
         ·rename_i h
          have e : evalB 5 (V vs gs x) (V vs gs y) = !V vs gs y := by rw [isW_1 hv hs h hx.2]; show (true != _) = _; cases V vs gs y <;> rfl
          rw [e]; exact notF_val hv hs hy
         ·split
          ·rename_i h
           have e : evalB 5 (V vs gs x) (V vs gs y) = !V vs gs x := by rw [isW_1 hv hs h hy.2]; show (_ != true) = _; cases V vs gs x <;> rfl
           rw [e]; exact notF_val hv hs hx
          ·exact .gate rfl
    ·exact .gate rfl
end
def SemOk (vs : List Bool) (P : Nat → Prop) (s : Wk) (gs : List Gt) : Prop := ∀ w, w < s.to.length → P w → V vs s.gates (s.to.getD w 0) = V vs gs (w : Int)
section
variable {N : Nat} {vs : List Bool} {gs : List Gt} {P : Nat → Prop} {s : Wk}
theorem move_val (hsem : SemOk vs P s gs) {lim : Int} {g : Gt} (hg : gateOk lim g = true) (hl : lim ≤ (s.to.length : Int)) (hPa : 2 ≤ g.op → P g.a.toNat) (hPb : 3 ≤ g.op → P g.b.toNat) :
 evalB (moveG s.to g).op (V vs s.gates (moveG s.to g).a) (V vs s.gates (moveG s.to g).b) = evalB g.op (V vs gs g.a) (V vs gs g.b) := by
 obtain ⟨ho, ha, hb, _, _⟩ := gateOk_parts hg
 rw [moveG_op]
 refine evalB_congr ho (fun h => ?_) (fun h => ?_)
 ·have := ha h
  rw [moveG_a ho h]
  refine (hsem g.a.toNat (by omega) (hPa h)).trans ?_
  rw [Int.toNat_of_nonneg this.1]
 ·have := hb h
  rw [moveG_b ho h]
  refine (hsem g.b.toNat (by omega) (hPb h)).trans ?_
  rw [Int.toNat_of_nonneg this.1]
theorem SemOk.add (hv : vs.length = N) (hsem : SemOk vs P s gs) (hok : WkOk N P s) (hl : s.to.length = N + gs.length) {p : Gt × Int} {g : Gt} (hp : -1 ≤ p.2 ∧ p.2 < (N : Int) + (s.gates.length : Int)) (h : FVal vs s.gates p (evalB g.op (V vs gs g.a) (V vs gs g.b))) : SemOk vs P (addW N s p) (gs ++ [g]) := by
 intro w hw hP
 rw [(addW_len _ s p).2] at hw
 have hx : Ext s.gates (addW N s p).gates := Ext.snoc _ _
 rcases Nat.lt_or_ge w s.to.length with h1 | h1
 ·rw [show (addW N s p).to.getD w 0 = s.to.getD w 0 from snocZ_lt _ _ _ h1]
  have hb := hok.tok w h1 hP
  rw [V_ext hv hx (by unfold okW; omega), V_ext hv (Ext.snoc gs g) (by unfold okW; omega)]
  exact hsem w h1 hP
 ·obtain rfl : w = s.to.length := by omega
  rw [show (addW N s p).to.getD s.to.length 0 = _ from snocZ_eq _ _ _]
  have e1 : ((s.to.length : Nat) : Int) = wireF N gs := by unfold wireF; omega
  rw [e1, V_new gs g hv]
  unfold FVal at h
  split at h
  ·rename_i hz
   rw [if_pos hz]
   exact (V_new s.gates p.1 hv).trans h
  ·rename_i hz
   rw [if_neg hz, V_ext hv hx (by unfold okW; omega)]
   exact h
end
theorem V_start {N : Nat} {vs : List Bool} (hv : vs.length = N) (P : Nat → Prop) : SemOk vs P (startW N) [] := by
 intro w hw _
 have hw' : w < N := by simpa [startW] using hw
 rw [show (startW N).to.getD w 0 = (w : Int) by simp [startW, List.getD_eq_getElem?_getD, List.getElem?_map, List.getElem?_range hw']]
 rfl
theorem done_sem {c : Circ} {s : Wk} {vs : List Bool} {P : Nat → Prop} (hr : rightC c = true) (hsem : SemOk vs P s c.gates) (hl : (s.to.length : Int) = c.inputs + (c.gates.length : Int)) (hP : ∀ k, k < c.outs.length → P (c.outs.getD k 0).toNat) : outsG evalB false (doneW c s) vs = outsG evalB false c vs := by
 show (c.outs.map (toAt s.to)).map (fun o => V vs s.gates o) = c.outs.map (fun o => V vs c.gates o)
 rw [List.map_map]
 apply List.map_congr_left
 intro o ho
 obtain ⟨k, hk, rfl⟩ := List.getElem_of_mem ho
 have hb := outOk_at (rightC_parts hr).2.2 hk
 have h3 := hP k hk
 have e : c.outs.getD k 0 = c.outs[k] := by rw [List.getD_eq_getElem?_getD, List.getElem?_eq_getElem hk]; rfl
 rw [e] at hb h3
 show V vs s.gates (s.to.getD (c.outs[k]).toNat 0) = _
 rw [hsem _ (by omega) h3, Int.toNat_of_nonneg hb.1]
theorem fold_sem {c : Circ} (h : rightC c = true) {vs : List Bool} (hv : (vs.length : Int) = c.inputs) : outsG evalB false (foldC c) vs = outsG evalB false c vs := by
 obtain ⟨⟨h0, h1, _⟩, _⟩ := rightC_parts h
 obtain ⟨N, hN⟩ : ∃ N : Nat, c.inputs = (N : Int) := ⟨c.inputs.toNat, by omega⟩
 have hvN : vs.length = N := by omega
 have key : ∀ k, k ≤ c.gates.length → SemOk vs (fun _ => True) (foldTo c k) (c.gates.take k) := fun k hk => by
  induction k with
  | zero => rw [foldTo, hN]; exact V_start hvN _
  | succ k ih =>
   have hs := foldTo_ok h k (by omega)
   obtain ⟨l1, l2⟩ := foldTo_len c k
   have hg := gateAt_ok h (show k < c.gates.length by omega)
   have hm := moveG_ok hs hg (by omega) (fun _ => trivial) (fun _ => trivial)
   obtain ⟨f1, f2, f3⟩ := foldG_ok hs.gok h0 hm
   rw [take_snoc_getD c.gates k (by omega), foldTo]
   rw [hN] at hs hm f2 f3 ⊢
   refine (ih (by omega)).add hvN hs (by rw [l2, List.length_take]; omega) ⟨f2, f3⟩ ?_
   exact (foldG_val hvN hs.gok hm).congr (move_val (ih (by omega)) hg (by omega) (fun _ => trivial) (fun _ => trivial))
 rw [foldC, if_pos h]
 have := key c.gates.length (Nat.le_refl _)
 rw [List.take_length] at this
 obtain ⟨l1, l2⟩ := foldTo_len c c.gates.length
 exact done_sem h this (by omega) (fun _ _ => trivial)
theorem evalB_swap {op : Int} (ho : op = 0 ∨ op = 1 ∨ op = 2 ∨ op = 3 ∨ op = 4 ∨ op = 5) (h : 3 ≤ op) (x y : Bool) : evalB op x y = evalB op y x := by
 rcases ho with rfl | rfl | rfl | rfl | rfl | rfl
 ·omega
 ·omega
 ·omega
 ·show (x && y) = (y && x); rw [Bool.and_comm]
 ·show (x || y) = (y || x); rw [Bool.or_comm]
 ·show (x != y) = (y != x); rw [bne_comm]
theorem swapG_val {lim : Int} {g : Gt} (hg : gateOk lim g = true) (f : Int → Bool) : evalB (swapG g).op (f (swapG g).a) (f (swapG g).b) = evalB g.op (f g.a) (f g.b) := by
 obtain ⟨ho, _⟩ := gateOk_parts hg
 unfold swapG
 split
 ·rename_i h
  have h2 := h.1
  rw [operandsO_of ho] at h2
  exact evalB_swap ho (by split at h2 <;> (try split at h2) <;> omega) _ _
 ·rfl
theorem knownW_val {N : Nat} {vs : List Bool} (hv : vs.length = N) {gs : List Gt} (hs : GsOk N gs) {g : Gt} : FVal vs gs (g, knownW N gs g) (evalB g.op (V vs gs g.a) (V vs gs g.b)) := by
 unfold knownW
 split
 ·rename_i k hk
  obtain ⟨hlt, he, _⟩ := List.findIdx?_eq_some_iff_getElem.1 hk
  have hg : gs.getD k default = g := by rw [List.getD_eq_getElem?_getD, List.getElem?_eq_getElem hlt]; exact (gtEq_iff _ _).1 he
  refine .wire (by omega) ?_
  rw [V_at hv hlt (hs k hlt), hg]
 ·exact .gate rfl
theorem share_sem {c : Circ} (h : rightC c = true) {vs : List Bool} (hv : (vs.length : Int) = c.inputs) : outsG evalB false (shareC c) vs = outsG evalB false c vs := by
 obtain ⟨⟨h0, h1, _⟩, _⟩ := rightC_parts h
 obtain ⟨N, hN⟩ : ∃ N : Nat, c.inputs = (N : Int) := ⟨c.inputs.toNat, by omega⟩
 have hvN : vs.length = N := by omega
 have key : ∀ k, k ≤ c.gates.length → SemOk vs (fun _ => True) (shareTo c k) (c.gates.take k) := fun k hk => by
  induction k with
  | zero => rw [shareTo, hN]; exact V_start hvN _
  | succ k ih =>
   have hs := shareTo_ok h k (by omega)
   obtain ⟨l1, l2⟩ := shareTo_len c k
   have hg := gateAt_ok h (show k < c.gates.length by omega)
   have hm := moveG_ok hs hg (by omega) (fun _ => trivial) (fun _ => trivial)
   have hk := knownW_bd c.inputs (shareTo c k).gates (swapG (moveG (shareTo c k).to (gateAt c k))) h0
   rw [take_snoc_getD c.gates k (by omega), shareTo]
   rw [hN] at hs hm hk ⊢
   refine (ih (by omega)).add hvN hs (by rw [l2, List.length_take]; omega) hk ?_
   exact (knownW_val hvN hs.gok).congr ((swapG_val hm (V vs (shareTo c k).gates)).trans (move_val (ih (by omega)) hg (by omega) (fun _ => trivial) (fun _ => trivial)))
 rw [shareC, if_pos h]
 have := key c.gates.length (Nat.le_refl _)
 rw [List.take_length] at this
 obtain ⟨l1, l2⟩ := shareTo_len c c.gates.length
 exact done_sem h this (by omega) (fun _ _ => trivial)
end Go.Proofs.Ytiemhbogbaamlaa
