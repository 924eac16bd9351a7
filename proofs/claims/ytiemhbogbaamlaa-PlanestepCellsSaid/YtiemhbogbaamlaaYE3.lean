/-
 A part.
-/
import Derived.Test.YtiemhbogbaamlaaYE2
namespace Go.Proofs.Ytiemhbogbaamlaa
open Go.RowKit
set_option linter.unusedSimpArgs false
set_option linter.unusedVariables false
def bitsF (s : Int) : Nat := if s = 2 then 1 else if s = 3 ∨ s = 4 then 2 else if 5 ≤ s ∧ s ≤ 8 then 3 else 0
theorem bitsF_bd (s : Int) : bitsF s ≤ 3 := by unfold bitsF; split <;> (try split) <;> (try split) <;> omega
theorem bitsF_pos {s : Int} (h : 2 ≤ s ∧ s ≤ 8) : 1 ≤ bitsF s := by unfold bitsF; split <;> (try split) <;> (try split) <;> omega
theorem bitsF_pow {s : Int} (h : 2 ≤ s ∧ s ≤ 8) : s ≤ 2 ^ bitsF s := by
 have : s = 2 ∨ s = 3 ∨ s = 4 ∨ s = 5 ∨ s = 6 ∨ s = 7 ∨ s = 8 := by omega
 rcases this with rfl | rfl | rfl | rfl | rfl | rfl | rfl <;> decide
def bitI (n : Int) (k : Nat) : Bool := n / 2 ^ k % 2 == 1
def valB : List Bool → Int
 | [] => 0
 | b :: r => (if b then 1 else 0) + 2 * valB r
def stateF (l : List Bool) : Int := if 8 < l.length then 0 else valB l
theorem valB_bd (l : List Bool) : 0 ≤ valB l ∧ valB l < 2 ^ l.length := by
 induction l with
 | nil => simp [valB]
 | cons x l ih =>
  simp only [valB, List.length_cons, Int.pow_succ]
  cases x <;> simp <;> omega
theorem valB_inj (l m : List Bool) (hl : l.length = m.length) (h : valB l = valB m) : l = m := by
 induction l generalizing m with
 | nil => cases m with
  | nil => rfl
  | cons _ _ => simp at hl
 | cons x l ih =>
  cases m with
  | nil => simp at hl
  | cons y m =>
   simp only [valB] at h
   have e : x = y ∧ valB l = valB m := by
    cases x <;> cases y <;> simp at h ⊢ <;> omega
   rw [e.1, ih m (by simpa using hl) e.2]
def bitsOf (b : Nat) (v : Int) : List Bool := (List.range b).map (bitI v)
theorem bitsOf_length (b : Nat) (v : Int) : (bitsOf b v).length = b := by simp [bitsOf]
theorem valB_bits (b : Nat) (v : Int) (h0 : 0 ≤ v) (h1 : v < 2 ^ b) : valB (bitsOf b v) = v := by
 induction b generalizing v with
 | zero => simp [bitsOf, valB] at *; omega
 | succ b ih =>
  rw [Int.pow_succ] at h1
  have := ih (v / 2) (by omega) (by omega)
  have e : bitsOf (b + 1) v = bitI v 0 :: bitsOf b (v / 2) := by
   unfold bitsOf
   rw [List.range_succ_eq_map, List.map_cons, List.map_map]
   congr 1
   apply List.map_congr_left
   intro k _
   simp only [Function.comp, bitI]
   rw [show (2 : Int) ^ (k + 1) = 2 * 2 ^ k by rw [Int.pow_succ]; omega, Int.ediv_ediv_of_nonneg (by omega)]
  rw [e, valB, this]
  simp only [bitI, Int.pow_zero, Int.ediv_one]
  split <;> simp_all <;> omega
def inputsB (t : Tre) (ins : List Int) : List Bool := ins.flatMap (bitsOf (bitsF t.states))
def wireF (N : Nat) (gs : List Gt) : Int := (N : Int) + gs.length
def gateS (N : Nat) (op : Int) (p : List Gt × Int) (w : Int) : List Gt × Int := (p.1 ++ [⟨op, p.2, w⟩], wireF N p.1)
def allS (N : Nat) (op : Int) (gs : List Gt) (ws : List Int) : List Gt × Int := ws.tail.foldl (gateS N op) (gs, ws.getD 0 0)
theorem allS_one (N : Nat) (op : Int) (gs : List Gt) (ws : List Int) : allS N op gs (ws.take 1) = (gs, ws.getD 0 0) := by
 cases ws <;> simp [allS]
theorem allS_take (N : Nat) (op : Int) (gs : List Gt) (ws : List Int) (k : Nat) (h0 : 1 ≤ k) (hk : k < ws.length) :
 allS N op gs (ws.take (k + 1)) = gateS N op (allS N op gs (ws.take k)) (ws.getD k 0) := by
 cases ws with
 | nil => simp at hk
 | cons w ws =>
  obtain ⟨k, rfl⟩ : ∃ j, k = j + 1 := ⟨k - 1, by omega⟩
  have hk' : k < ws.length := by simpa using hk
  simp only [allS, List.take_succ_cons, List.tail_cons, List.getD_cons_zero, List.getD_cons_succ]
  rw [List.take_succ_eq_append_getElem hk', List.foldl_append]
  simp [List.getD_eq_getElem?_getD, List.getElem?_eq_getElem hk']
theorem allS_all (N : Nat) (op : Int) (gs : List Gt) (ws : List Int) : allS N op gs (ws.take ws.length) = allS N op gs ws := by rw [List.take_length]
def litF (N j : Nat) (one : Bool) : Int := if one then j else N + j
def litsF (N b i : Nat) (s : Nat) : List Int := (List.range b).map (fun k => litF N (i * b + k) (bitI s k))
theorem litsF_length (N b i s : Nat) : (litsF N b i s).length = b := by simp [litsF]
theorem litsF_get (N b i s k : Nat) (h : k < b) : (litsF N b i s).getD k 0 = litF N (i * b + k) (bitI s k) := by
 simp [litsF, List.getD_eq_getElem?_getD, List.getElem?_map, List.getElem?_range h]
def testS (N b : Nat) (gs : List Gt) (i s : Nat) : List Gt × Int := allS N 3 gs (litsF N b i s)
def scan {α : Type} (f : List Gt → List α → Nat → List Gt × α) (gs : List Gt) : Nat → List Gt × List α
 | 0 => (gs, [])
 | k + 1 => ((f (scan f gs k).1 (scan f gs k).2 k).1, (scan f gs k).2 ++ [(f (scan f gs k).1 (scan f gs k).2 k).2])
section
variable {α : Type} (f : List Gt → List α → Nat → List Gt × α) (gs : List Gt)
theorem scan_succ (k : Nat) : scan f gs (k + 1) = ((f (scan f gs k).1 (scan f gs k).2 k).1, (scan f gs k).2 ++ [(f (scan f gs k).1 (scan f gs k).2 k).2]) := rfl
theorem scan_length (k : Nat) : (scan f gs k).2.length = k := by
 induction k with
 | zero => rfl
 | succ k ih => rw [scan_succ]; simp [ih]
theorem scan_ind (P : List Gt → List α → Nat → Prop) (h0 : P gs [] 0) (K : Nat) (hs : ∀ k g acc, k < K → acc.length = k → P g acc k → P (f g acc k).1 (acc ++ [(f g acc k).2]) (k + 1)) : P (scan f gs K).1 (scan f gs K).2 K := by
 have : ∀ k, k ≤ K → P (scan f gs k).1 (scan f gs k).2 k := fun k hk => by
  induction k with
  | zero => exact h0
  | succ k ih => rw [scan_succ]; exact hs k _ _ (by omega) (scan_length f gs k) (ih (by omega))
 exact this K (Nat.le_refl _)
end
def testRow (N b S : Nat) (gs : List Gt) (i : Nat) : List Gt × List Int := scan (fun g _ s => testS N b g i s) gs S
def testRows (N b S : Nat) (gs : List Gt) (n : Nat) : List Gt × List (List Int) := scan (fun g _ i => testRow N b S g i) gs n
def termStep (N : Nat) (up : Bool) (tests : List Int) (res : List (List Int)) (next : List Int) (k : Nat) (p : List Gt × List Int) (s : Nat) : List Gt × List Int :=
 if up = true then (p.1 ++ [⟨3, tests.getD s 0, (res.getD (next.getD s 0).toNat []).getD k 0⟩], p.2 ++ [wireF N p.1])
 else if bitI (next.getD s 0) k = true then (p.1, p.2 ++ [tests.getD s 0]) else p
def termsS (N : Nat) (up : Bool) (tests : List Int) (res : List (List Int)) (next : List Int) (gs : List Gt) (k S : Nat) : List Gt × List Int :=
 (List.range S).foldl (termStep N up tests res next k) (gs, [])
theorem termsS_succ (N : Nat) (up : Bool) (tests : List Int) (res : List (List Int)) (next : List Int) (gs : List Gt) (k S : Nat) :
 termsS N up tests res next gs k (S + 1) = termStep N up tests res next k (termsS N up tests res next gs k S) S := by
 simp [termsS, List.range_succ, List.foldl_append]
def orS (N : Nat) (p : List Gt × List Int) : List Gt × Int := if p.2.length = 0 then (p.1 ++ [⟨0, 0, 0⟩], wireF N p.1) else allS N 4 p.1 p.2
def resS (N : Nat) (up : Bool) (tests : List Int) (res : List (List Int)) (next : List Int) (S : Nat) (gs : List Gt) (k : Nat) : List Gt × Int := orS N (termsS N up tests res next gs k S)
def upN (x : Nd) : Bool := decide (1 < x.level)
def nodeS (t : Tre) (N b S : Nat) (tests : List (List Int)) (gs : List Gt) (res : List (List Int)) (i : Nat) : List Gt × List Int :=
 scan (fun g _ k => resS N (upN (t.nodes.getD i default)) (tests.getD ((t.hood.length : Int) - (t.nodes.getD i default).level).toNat []) res (t.nodes.getD i default).next S g k) gs b
def nodesS (t : Tre) (N b S : Nat) (tests : List (List Int)) (gs : List Gt) (m : Nat) : List Gt × List (List Int) := scan (fun g res i => nodeS t N b S tests g res i) gs m
def notsG (N : Nat) : List Gt := (List.range N).map (fun (j : Nat) => (⟨2, (j : Int), 0⟩ : Gt))
theorem notsG_succ (k : Nat) : notsG (k + 1) = notsG k ++ [⟨2, (k : Int), 0⟩] := by simp [notsG, List.range_succ]
theorem notsG_length (k : Nat) : (notsG k).length = k := by simp [notsG]
def lowN (t : Tre) : Nat := t.hood.length * bitsF t.states
def lowT (t : Tre) : List Gt × List (List Int) := testRows (lowN t) (bitsF t.states) t.states.toNat (notsG (lowN t)) t.hood.length
def lowM (t : Tre) (m : Nat) : List Gt × List (List Int) := nodesS t (lowN t) (bitsF t.states) t.states.toNat (lowT t).2 (lowT t).1 m
def lowErr (t : Tre) : Int := if rightT t = true then 0 else 11
def lowR (t : Tre) : Circ := if rightT t = true then ⟨lowN t, (lowM t t.nodes.length).1, (lowM t t.nodes.length).2.getD (t.nodes.length - 1) []⟩ else noCirc
end Go.Proofs.Ytiemhbogbaamlaa

/-
 A part.
-/
namespace Go.Proofs.Ytiemhbogbaamlaa
open Go.RowKit
set_option linter.unusedSimpArgs false
set_option linter.unusedVariables false
def okW (N : Nat) (gs : List Gt) (w : Int) : Prop := 0 ≤ w ∧ w < (N : Int) + gs.length
def okG (N : Nat) (gs : List Gt) : Prop := ∀ i, i < gs.length → gateOk ((N : Int) + i) (gs.getD i default) = true
def Ext (gs gs' : List Gt) : Prop := ∃ more, gs' = gs ++ more
theorem Ext.refl (gs : List Gt) : Ext gs gs := ⟨[], by simp⟩
theorem Ext.trans {a b c : List Gt} (h1 : Ext a b) (h2 : Ext b c) : Ext a c := by
 obtain ⟨x, rfl⟩ := h1
 obtain ⟨y, rfl⟩ := h2
 exact ⟨x ++ y, by simp⟩
theorem Ext.snoc (a : List Gt) (g : Gt) : Ext a (a ++ [g]) := ⟨[g], rfl⟩
theorem Ext.len {a b : List Gt} (h : Ext a b) : a.length ≤ b.length := by
 obtain ⟨x, rfl⟩ := h
 simp
theorem okW.ext {N : Nat} {a b : List Gt} {w : Int} (h : okW N a w) (he : Ext a b) : okW N b w := by
 have := he.len
 unfold okW at *; omega
theorem okW_wire {N : Nat} (gs : List Gt) (g : Gt) : okW N (gs ++ [g]) (wireF N gs) := by
 unfold okW wireF; simp only [List.length_append, List.length_cons, List.length_nil]; omega
theorem getD_snoc_lt {α : Type} (l : List α) (x : α) (d : α) (k : Nat) (h : k < l.length) : (l ++ [x]).getD k d = l.getD k d := by
 rw [List.getD_eq_getElem?_getD, List.getElem?_append_left h, List.getD_eq_getElem?_getD]
theorem getD_snoc_eq {α : Type} (l : List α) (x : α) (d : α) : (l ++ [x]).getD l.length d = x := by
 rw [List.getD_eq_getElem?_getD, List.getElem?_append_right (Nat.le_refl _)]; simp
theorem okG_snoc {N : Nat} {gs : List Gt} {g : Gt} (h : okG N gs) (hg : gateOk ((N : Int) + gs.length) g = true) : okG N (gs ++ [g]) := by
 intro i hi
 simp only [List.length_append, List.length_cons, List.length_nil] at hi
 by_cases hlt : i < gs.length
 ·rw [getD_snoc_lt _ _ _ _ hlt]; exact h i hlt
 ·obtain rfl : i = gs.length := by omega
  rw [getD_snoc_eq]; exact hg
def vals (vs : List Bool) (gs : List Gt) : List Bool := runG evalB false gs vs
def V (vs : List Bool) (gs : List Gt) (w : Int) : Bool := (vals vs gs).getD w.toNat false
theorem runG_keep {α : Type} (f : Int → α → α → α) (d : α) (more : List Gt) (ys : List α) (k : Nat) (h : k < ys.length) : (runG f d more ys).getD k d = ys.getD k d := by
 induction more generalizing ys with
 | nil => rfl
 | cons g l ih =>
  have := ih (ys ++ [f g.op (ys.getD g.a.toNat d) (ys.getD g.b.toNat d)]) (by simp; omega)
  simp only [runG, List.foldl_cons] at *
  rw [this, getD_snoc_lt _ _ _ _ h]
theorem V_ext {N : Nat} {vs : List Bool} {a b : List Gt} {w : Int} (hv : vs.length = N) (he : Ext a b) (h : okW N a w) : V vs b w = V vs a w := by
 obtain ⟨x, rfl⟩ := he
 unfold V vals
 rw [show runG evalB false (a ++ x) vs = runG evalB false x (runG evalB false a vs) by simp [runG, List.foldl_append]]
 apply runG_keep
 rw [runG_length]; unfold okW at h; omega
theorem V_new {N : Nat} {vs : List Bool} (gs : List Gt) (g : Gt) (hv : vs.length = N) : V vs (gs ++ [g]) (wireF N gs) = evalB g.op (V vs gs g.a) (V vs gs g.b) := by
 unfold V vals
 rw [runG_snoc]
 have : (wireF N gs).toNat = (runG evalB false gs vs).length := by rw [runG_length, hv]; unfold wireF; omega
 rw [this, getD_snoc_eq]
theorem gateOk_two {N : Nat} {gs : List Gt} {op a b : Int} (ho : op = 3 ∨ op = 4) (ha : okW N gs a) (hb : okW N gs b) : gateOk ((N : Int) + gs.length) ⟨op, a, b⟩ = true := by
 unfold okW at ha hb
 rcases ho with rfl | rfl <;> simp [gateOk, wireOk, operandsF] <;> omega
def opB (op : Int) (l : List Bool) : Bool := if op = 3 then l.all id else l.any id
theorem opB_cons (op : Int) (ho : op = 3 ∨ op = 4) (x : Bool) (l : List Bool) : opB op (x :: l) = if l = [] then x else evalB op x (opB op l) := by
 rcases ho with rfl | rfl
 ·cases l <;> simp [opB, evalB]
 ·cases l <;> simp [opB, evalB]
theorem opB_merge (op : Int) (ho : op = 3 ∨ op = 4) (x y : Bool) (l : List Bool) : opB op (evalB op x y :: l) = opB op (x :: y :: l) := by
 rcases ho with rfl | rfl <;> simp [opB, evalB, Bool.and_assoc, Bool.or_assoc]
structure Good (N : Nat) (vs : List Bool) (gs : List Gt) (p : List Gt × Int) (val : Bool) : Prop where
 ext : Ext gs p.1
 ok : okG N p.1
 wok : okW N p.1 p.2
 v : V vs p.1 p.2 = val
theorem fold_good {N : Nat} {vs : List Bool} (hv : vs.length = N) (op : Int) (ho : op = 3 ∨ op = 4) (ws : List Int) (gs : List Gt) (w : Int) (hg : okG N gs) (hw : okW N gs w) (hws : ∀ x ∈ ws, okW N gs x) :
 Good N vs gs (ws.foldl (gateS N op) (gs, w)) (opB op (V vs gs w :: ws.map (V vs gs))) := by
 induction ws generalizing gs w with
 | nil =>
  refine ⟨Ext.refl _, hg, hw, ?_⟩
  rw [opB_cons op ho]
  rfl
 | cons x ws ih =>
  have hx := hws x (by simp)
  have e : Ext gs (gs ++ [⟨op, w, x⟩]) := Ext.snoc _ _
  have g2 := ih (gs ++ [⟨op, w, x⟩]) (wireF N gs) (okG_snoc hg (gateOk_two ho hw hx)) (okW_wire _ _) (fun y hy => (hws y (by simp [hy])).ext e)
  refine ⟨e.trans g2.ext, g2.ok, g2.wok, ?_⟩
  show V vs (ws.foldl (gateS N op) (gateS N op (gs, w) x)).1 (ws.foldl (gateS N op) (gateS N op (gs, w) x)).2 = _
  refine g2.v.trans ?_
  rw [V_new _ _ hv]
  simp only [List.map_cons]
  rw [← opB_merge op ho]
  congr 2
  apply List.map_congr_left
  intro y hy
  exact V_ext hv e (hws y (by simp [hy]))
theorem fold_len (N : Nat) (op : Int) (ws : List Int) (gs : List Gt) (w : Int) : (ws.foldl (gateS N op) (gs, w)).1.length = gs.length + ws.length := by
 induction ws generalizing gs w with
 | nil => simp
 | cons x ws ih => simp only [List.foldl_cons, gateS]; rw [ih]; simp; omega
theorem allS_good {N : Nat} {vs : List Bool} (hv : vs.length = N) (op : Int) (ho : op = 3 ∨ op = 4) (ws : List Int) (gs : List Gt) (h0 : 0 < ws.length) (hg : okG N gs) (hws : ∀ x ∈ ws, okW N gs x) :
 Good N vs gs (allS N op gs ws) (opB op (ws.map (V vs gs))) := by
 cases ws with
 | nil => simp at h0
 | cons w ws => exact fold_good hv op ho ws gs w hg (hws w (by simp)) (fun x hx => hws x (by simp [hx]))
theorem allS_len (N : Nat) (op : Int) (gs : List Gt) (ws : List Int) : (allS N op gs ws).1.length = gs.length + (ws.length - 1) := by
 unfold allS; rw [fold_len]; simp
theorem notsG_get (N i : Nat) (h : i < N) : (notsG N).getD i default = ⟨2, (i : Int), 0⟩ := by
 simp [notsG, List.getD_eq_getElem?_getD, List.getElem?_map, List.getElem?_range h]
theorem nots_ok (N : Nat) : okG N (notsG N) := by
 intro i hi
 rw [notsG_length] at hi
 rw [notsG_get N i hi]
 simp [gateOk, wireOk, operandsF]; omega
theorem nots_upto (N k : Nat) (h : k ≤ N) {vs : List Bool} (hv : vs.length = N) (j : Nat) (hj : j < k) : V vs (notsG k) ((N : Int) + j) = !vs.getD j false := by
 induction k with
 | zero => omega
 | succ k ih =>
  rw [notsG_succ]
  by_cases e : j = k
  ·subst e
   have := V_new (N := N) (vs := vs) (notsG j) ⟨2, (j : Int), 0⟩ hv
   rw [wireF, notsG_length] at this
   rw [this]
   simp only [evalB]
   have hin : V vs (notsG j) (j : Int) = vs.getD j false := by
    unfold V vals
    rw [Int.toNat_natCast]
    exact runG_keep _ _ _ _ _ (by omega)
   simp [hin]
  ·rw [V_ext hv (Ext.snoc _ _) (show okW N (notsG k) _ by unfold okW; rw [notsG_length]; omega)]
   exact ih (by omega) (by omega)
theorem input_val {vs : List Bool} (gs : List Gt) (j : Nat) (hj : j < vs.length) : V vs gs (j : Int) = vs.getD j false := by
 unfold V vals
 rw [Int.toNat_natCast]
 exact runG_keep _ _ _ _ _ hj
theorem lit_good {N : Nat} {vs : List Bool} (hv : vs.length = N) {gs : List Gt} (he : Ext (notsG N) gs) (j : Nat) (hj : j < N) (one : Bool) : okW N gs (litF N j one) ∧ V vs gs (litF N j one) = (vs.getD j false == one) := by
 have hl := he.len
 rw [notsG_length] at hl
 cases one
 ·refine ⟨?_, ?_⟩
  ·show okW N gs ((N : Int) + j)
   unfold okW; omega
  ·show V vs gs ((N : Int) + j) = _
   rw [V_ext hv he (show okW N (notsG N) _ by unfold okW; rw [notsG_length]; omega), nots_upto N N (Nat.le_refl _) hv j hj]
   cases vs.getD j false <;> rfl
 ·refine ⟨?_, ?_⟩
  ·show okW N gs (j : Int)
   unfold okW; omega
  ·show V vs gs (j : Int) = _
   rw [input_val gs j (by omega)]
   cases vs.getD j false <;> rfl
def atS (vs : List Bool) (b i s : Nat) : Bool := (List.range b).all (fun k => vs.getD (i * b + k) false == bitI s k)
theorem test_good {N b n i s : Nat} {vs : List Bool} (hv : vs.length = N) (hN : N = n * b) (hb : 0 < b) (hi : i < n) {gs : List Gt} (he : Ext (notsG N) gs) (hg : okG N gs) : Good N vs gs (testS N b gs i s) (atS vs b i s) := by
 have hlt : ∀ k, k < b → i * b + k < N := fun k hk => by
  have : (i + 1) * b ≤ n * b := Nat.mul_le_mul_right b hi
  rw [Nat.add_mul] at this; omega
 have h := allS_good (N := N) hv 3 (.inl rfl) (litsF N b i s) gs (by rw [litsF_length]; exact hb) hg (fun x hx => by
  simp only [litsF, List.mem_map, List.mem_range] at hx
  obtain ⟨k, hk, rfl⟩ := hx
  exact (lit_good hv he _ (hlt k hk) _).1)
 have e : opB 3 ((litsF N b i s).map (V vs gs)) = atS vs b i s := by
  simp only [opB, if_true, litsF, List.map_map, atS, List.all_map]
  rw [Bool.eq_iff_iff, List.all_eq_true, List.all_eq_true]
  refine forall_congr' fun k => forall_congr' fun hk => ?_
  rw [List.mem_range] at hk
  simp only [Function.comp, id]
  rw [(lit_good hv he _ (hlt k hk) _).2]
 rw [← e]
 exact h
theorem getD_snoc_row {α : Type} (acc : List α) (x d : α) (k s : Nat) (hl : acc.length = k) (hs : s < k + 1) : (acc ++ [x]).getD s d = if s = k then x else acc.getD s d := by
 by_cases e : s = k
 ·subst e; subst hl; rw [if_pos rfl, getD_snoc_eq]
 ·rw [if_neg e, getD_snoc_lt _ _ _ _ (by omega)]
structure Rows1 (N : Nat) (vs : List Bool) (gs0 gs : List Gt) (acc : List Int) (k : Nat) (T : Nat → Bool) : Prop where
 ext : Ext gs0 gs
 ok : okG N gs
 at_ : ∀ s, s < k → okW N gs (acc.getD s 0) ∧ V vs gs (acc.getD s 0) = T s
theorem Rows1.next {N : Nat} {vs : List Bool} (hv : vs.length = N) {gs0 gs : List Gt} {acc : List Int} {k : Nat} {T : Nat → Bool} (h : Rows1 N vs gs0 gs acc k T) (hl : acc.length = k) {p : List Gt × Int} (hp : Good N vs gs p (T k)) : Rows1 N vs gs0 p.1 (acc ++ [p.2]) (k + 1) T := by
 refine ⟨h.ext.trans hp.ext, hp.ok, fun s hs => ?_⟩
 rw [getD_snoc_row acc p.2 0 k s hl hs]
 by_cases e : s = k
 ·subst e; rw [if_pos rfl]; exact ⟨hp.wok, hp.v⟩
 ·rw [if_neg e]
  obtain ⟨h1, h2⟩ := h.at_ s (by omega)
  exact ⟨h1.ext hp.ext, (V_ext hv hp.ext h1).trans h2⟩
theorem testRow_good {N b n S i : Nat} {vs : List Bool} (hv : vs.length = N) (hN : N = n * b) (hb : 0 < b) (hi : i < n) {gs : List Gt} (he : Ext (notsG N) gs) (hg : okG N gs) :
 Rows1 N vs gs (testRow N b S gs i).1 (testRow N b S gs i).2 S (atS vs b i) :=
 scan_ind (fun g _ s => testS N b g i s) gs (fun g acc k => Rows1 N vs gs g acc k (atS vs b i)) ⟨Ext.refl _, hg, fun s hs => absurd hs (by omega)⟩ S
  (fun k g acc hk hl h => h.next hv hl (test_good hv hN hb hi (he.trans h.ext) h.ok))
structure Rows2 (N : Nat) (vs : List Bool) (gs0 gs : List Gt) (acc : List (List Int)) (k S : Nat) (T : Nat → Nat → Bool) : Prop where
 ext : Ext gs0 gs
 ok : okG N gs
 at_ : ∀ i, i < k → ∀ s, s < S → okW N gs ((acc.getD i []).getD s 0) ∧ V vs gs ((acc.getD i []).getD s 0) = T i s
theorem Rows2.next {N : Nat} {vs : List Bool} (hv : vs.length = N) {gs0 gs : List Gt} {acc : List (List Int)} {k S : Nat} {T : Nat → Nat → Bool} (h : Rows2 N vs gs0 gs acc k S T) (hl : acc.length = k) {p : List Gt × List Int} (hp : Rows1 N vs gs p.1 p.2 S (T k)) : Rows2 N vs gs0 p.1 (acc ++ [p.2]) (k + 1) S T := by
 refine ⟨h.ext.trans hp.ext, hp.ok, fun i hi s hs => ?_⟩
 rw [getD_snoc_row acc p.2 [] k i hl hi]
 by_cases e : i = k
 ·subst e; rw [if_pos rfl]; exact hp.at_ s hs
 ·rw [if_neg e]
  obtain ⟨h1, h2⟩ := h.at_ i (by omega) s hs
  exact ⟨h1.ext hp.ext, (V_ext hv hp.ext h1).trans h2⟩
theorem testRows_good {N b n S : Nat} {vs : List Bool} (hv : vs.length = N) (hN : N = n * b) (hb : 0 < b) {gs : List Gt} (he : Ext (notsG N) gs) (hg : okG N gs) :
 Rows2 N vs gs (testRows N b S gs n).1 (testRows N b S gs n).2 n S (atS vs b) :=
 scan_ind (fun g _ i => testRow N b S g i) gs (fun g acc k => Rows2 N vs gs g acc k S (atS vs b)) ⟨Ext.refl _, hg, fun s hs => absurd hs (by omega)⟩ n
  (fun k g acc hk hl h => h.next hv hl (testRow_good hv hN hb hk (he.trans h.ext) h.ok))
structure Terms (N : Nat) (vs : List Bool) (gs : List Gt) (p : List Gt × List Int) (val : Bool) : Prop where
 ext : Ext gs p.1
 ok : okG N p.1
 wok : ∀ x ∈ p.2, okW N p.1 x
 v : p.2.any (V vs p.1) = val
theorem termsS_good {N : Nat} {vs : List Bool} (hv : vs.length = N) (up : Bool) (tests : List Int) (res : List (List Int)) (next : List Int) (gs : List Gt) (k S : Nat) (T R : Nat → Bool) (hg : okG N gs)
 (ht : ∀ s, s < S → okW N gs (tests.getD s 0) ∧ V vs gs (tests.getD s 0) = T s)
 (hr : ∀ s, s < S → up = true → okW N gs ((res.getD (next.getD s 0).toNat []).getD k 0) ∧ V vs gs ((res.getD (next.getD s 0).toNat []).getD k 0) = R s)
 (hd : ∀ s, s < S → up = false → bitI (next.getD s 0) k = R s) :
 Terms N vs gs (termsS N up tests res next gs k S) ((List.range S).any (fun s => T s && R s)) := by
 have key : ∀ m, m ≤ S → Terms N vs gs (termsS N up tests res next gs k m) ((List.range m).any (fun s => T s && R s)) := fun m hm => by
  induction m with
  | zero => exact ⟨Ext.refl _, hg, by simp [termsS], by simp [termsS]⟩
  | succ m ih =>
   have h := ih (by omega)
   rw [termsS_succ]
   obtain ⟨t1, t2⟩ := ht m (by omega)
   rw [List.range_succ, List.any_append]
   simp only [List.any_cons, List.any_nil, Bool.or_false]
   unfold termStep
   cases up
   ·simp only [if_neg (Bool.false_ne_true)]
    have hd' := hd m (by omega) rfl
    cases hb : bitI (next.getD m 0) k
    ·rw [if_neg Bool.false_ne_true]
     refine ⟨h.ext, h.ok, h.wok, ?_⟩
     rw [h.v, ← hd', hb]; simp
    ·rw [if_pos rfl]
     refine ⟨h.ext, h.ok, fun x hx => ?_, ?_⟩
     ·simp only [List.mem_append, List.mem_singleton] at hx
      rcases hx with hx | rfl
      ·exact h.wok x hx
      ·exact t1.ext h.ext
     ·rw [List.any_append, h.v]
      simp only [List.any_cons, List.any_nil, Bool.or_false]
      rw [V_ext hv h.ext t1, t2, ← hd', hb]; simp
   ·simp only [if_true]
    obtain ⟨r1, r2⟩ := hr m (by omega) rfl
    have e := Ext.snoc (termsS N true tests res next gs k m).1 ⟨3, tests.getD m 0, (res.getD (next.getD m 0).toNat []).getD k 0⟩
    refine ⟨h.ext.trans e, okG_snoc h.ok (gateOk_two (.inl rfl) (t1.ext h.ext) (r1.ext h.ext)), fun x hx => ?_, ?_⟩
    ·simp only [List.mem_append, List.mem_singleton] at hx
     rcases hx with hx | rfl
     ·exact (h.wok x hx).ext e
     ·exact okW_wire _ _
    ·rw [List.any_append]
     simp only [List.any_cons, List.any_nil, Bool.or_false]
     rw [V_new _ _ hv]
     dsimp only
     rw [V_ext hv h.ext t1, t2, V_ext hv h.ext r1, r2, ← h.v]
     congr 1
     rw [Bool.eq_iff_iff, List.any_eq_true, List.any_eq_true]
     refine exists_congr fun x => and_congr_right fun hx => ?_
     rw [V_ext hv e (h.wok x hx)]
 exact key S (Nat.le_refl _)
theorem termsS_len (N : Nat) (up : Bool) (tests : List Int) (res : List (List Int)) (next : List Int) (gs : List Gt) (k S : Nat) :
 (termsS N up tests res next gs k S).1.length ≤ gs.length + S ∧ (termsS N up tests res next gs k S).2.length ≤ S := by
 induction S with
 | zero => simp [termsS]
 | succ S ih =>
  rw [termsS_succ]; unfold termStep
  split
  ·simp; omega
  ·split
   ·simp; omega
   ·omega
theorem res_good {N : Nat} {vs : List Bool} (hv : vs.length = N) (up : Bool) (tests : List Int) (res : List (List Int)) (next : List Int) (gs : List Gt) (k S : Nat) (T R : Nat → Bool) (hg : okG N gs)
 (ht : ∀ s, s < S → okW N gs (tests.getD s 0) ∧ V vs gs (tests.getD s 0) = T s)
 (hr : ∀ s, s < S → up = true → okW N gs ((res.getD (next.getD s 0).toNat []).getD k 0) ∧ V vs gs ((res.getD (next.getD s 0).toNat []).getD k 0) = R s)
 (hd : ∀ s, s < S → up = false → bitI (next.getD s 0) k = R s) :
 Good N vs gs (resS N up tests res next S gs k) ((List.range S).any (fun s => T s && R s)) := by
 have h := termsS_good hv up tests res next gs k S T R hg ht hr hd
 unfold resS orS
 split
 ·rename_i h0
  have e := Ext.snoc (termsS N up tests res next gs k S).1 ⟨0, 0, 0⟩
  refine ⟨h.ext.trans e, okG_snoc h.ok (by simp [gateOk, wireOk, operandsF]), okW_wire _ _, ?_⟩
  rw [V_new _ _ hv, ← h.v, List.eq_nil_of_length_eq_zero h0]
  rfl
 ·rename_i h0
  have g := allS_good hv 4 (.inr rfl) (termsS N up tests res next gs k S).2 (termsS N up tests res next gs k S).1 (by omega) h.ok h.wok
  refine ⟨h.ext.trans g.ext, g.ok, g.wok, ?_⟩
  rw [g.v, ← h.v]
  simp only [opB]
  rw [if_neg (by decide), List.any_map]
  rfl
theorem resS_len (N : Nat) (up : Bool) (tests : List Int) (res : List (List Int)) (next : List Int) (gs : List Gt) (k S : Nat) (hS : 1 ≤ S) : (resS N up tests res next S gs k).1.length ≤ gs.length + 2 * S := by
 obtain ⟨h1, h2⟩ := termsS_len N up tests res next gs k S
 unfold resS orS
 split
 ·simp only [List.length_append, List.length_cons, List.length_nil]; omega
 ·rw [allS_len]; omega
end Go.Proofs.Ytiemhbogbaamlaa

/-
 A part.
-/
namespace Go.Proofs.Ytiemhbogbaamlaa
open Go.RowKit
set_option linter.unusedSimpArgs false
set_option linter.unusedVariables false
def stF (vs : List Bool) (b i : Nat) : Int := valB ((vs.drop (i * b)).take b)
def stsF (vs : List Bool) (b n : Nat) : List Int := (List.range n).map (stF vs b)
theorem stsF_length (vs : List Bool) (b n : Nat) : (stsF vs b n).length = n := by simp [stsF]
theorem stsF_drop (vs : List Bool) (b n i : Nat) (h : i < n) : (stsF vs b n).drop i = stF vs b i :: (stsF vs b n).drop (i + 1) := by
 rw [List.drop_eq_getElem_cons (by rw [stsF_length]; exact h)]
 simp [stsF]
theorem bitsOf_get (b : Nat) (v : Int) (k : Nat) (h : k < b) : (bitsOf b v).getD k false = bitI v k := by
 simp [bitsOf, List.getD_eq_getElem?_getD, List.getElem?_map, List.getElem?_range h]
theorem part_length {vs : List Bool} {n b i : Nat} (hv : vs.length = n * b) (hi : i < n) : ((vs.drop (i * b)).take b).length = b := by
 have : (i + 1) * b ≤ n * b := Nat.mul_le_mul_right b hi
 rw [Nat.add_mul] at this
 simp; omega
theorem part_get {vs : List Bool} {b i k : Nat} (hk : k < b) : ((vs.drop (i * b)).take b).getD k false = vs.getD (i * b + k) false := by
 simp [List.getD_eq_getElem?_getD, List.getElem?_take, hk]
theorem bl_ext {xs ys : List Bool} (hl : xs.length = ys.length) (h : ∀ k, k < xs.length → xs.getD k false = ys.getD k false) : xs = ys := by
 apply List.ext_getElem hl
 intro k h1 h2
 have := h k h1
 simpa [List.getD_eq_getElem?_getD, List.getElem?_eq_getElem h1, List.getElem?_eq_getElem h2] using this
theorem atS_eq {vs : List Bool} {n b i s : Nat} (hv : vs.length = n * b) (hi : i < n) (hs : (s : Int) < 2 ^ b) : atS vs b i s = (stF vs b i == (s : Int)) := by
 rw [Bool.eq_iff_iff]
 simp only [atS, List.all_eq_true, List.mem_range, beq_iff_eq]
 constructor
 ·intro h
  have e : (vs.drop (i * b)).take b = bitsOf b s := bl_ext (by rw [part_length hv hi, bitsOf_length]) (fun k hk => by
   rw [part_length hv hi] at hk
   rw [part_get hk, bitsOf_get b s k hk, h k hk])
  unfold stF; rw [e, valB_bits b s (by omega) hs]
 ·intro h k hk
  have e : bitsOf b s = (vs.drop (i * b)).take b := by
   apply valB_inj
   ·rw [part_length hv hi, bitsOf_length]
   ·rw [valB_bits b s (by omega) hs]; exact h.symm
  rw [← part_get hk, ← e, bitsOf_get b s k hk]
theorem stF_bd (vs : List Bool) (b i : Nat) : 0 ≤ stF vs b i := (valB_bd _).1
theorem any_pick (S : Nat) (st : Int) (h0 : 0 ≤ st) (f : Nat → Bool) : (List.range S).any (fun s => (st == (s : Int)) && f s) = (decide (st < (S : Int)) && f st.toNat) := by
 rw [Bool.eq_iff_iff]
 simp only [List.any_eq_true, List.mem_range, Bool.and_eq_true, beq_iff_eq, decide_eq_true_eq]
 constructor
 ·rintro ⟨s, hs, rfl, hf⟩
  exact ⟨by omega, by simpa using hf⟩
 ·rintro ⟨h1, h2⟩
  exact ⟨st.toNat, by omega, by omega, h2⟩
def okSts (S : Int) (l : List Int) : Bool := l.all (fun s => decide (s < S))
def tailOf (t : Tre) (vs : List Bool) (lev : Int) : List Int := (stsF vs (bitsF t.states) t.hood.length).drop ((t.hood.length : Int) - lev).toNat
def valN (t : Tre) (vs : List Bool) (i k : Nat) : Bool := okSts t.states (tailOf t vs (t.nodes.getD i default).level) && bitI (walkT t i (tailOf t vs (t.nodes.getD i default).level)) k
def nextR (t : Tre) (vs : List Bool) (x : Nd) (k s : Nat) : Bool := if upN x = true then valN t vs (x.next.getD s 0).toNat k else bitI (x.next.getD s 0) k
theorem any_congr_range (S : Nat) (f g : Nat → Bool) (h : ∀ s, s < S → f s = g s) : (List.range S).any f = (List.range S).any g := by
 rw [Bool.eq_iff_iff, List.any_eq_true, List.any_eq_true]
 refine exists_congr fun s => and_congr_right fun hs => ?_
 rw [h s (List.mem_range.1 hs)]
theorem node_step {t : Tre} (hr : rightT t = true) {vs : List Bool} (hv : vs.length = lowN t) (i k : Nat) (hi : i < t.nodes.length) :
 (List.range t.states.toNat).any (fun s => atS vs (bitsF t.states) ((t.hood.length : Int) - (t.nodes.getD i default).level).toNat s && nextR t vs (t.nodes.getD i default) k s) = valN t vs i k := by
 obtain ⟨_, ⟨hs, _⟩, hn⟩ := rightT_parts hr
 obtain ⟨⟨l1, l2, l3⟩, hlink⟩ := nodeOk_parts (hn i hi)
 have hw : ∀ s : Int, walkT t i [s] = (t.nodes.getD i default).next.getD s.toNat 0 := fun s => by simp [walkT, stepT]
 have hw2 : ∀ (s : Int) (l : List Int), walkT t i (s :: l) = walkT t ((t.nodes.getD i default).next.getD s.toNat 0) l := fun s l => by simp [walkT, stepT]
 unfold valN tailOf
 generalize hx : t.nodes.getD i default = x at l1 l2 l3 hlink hw hw2 ⊢
 have hp : ((t.hood.length : Int) - x.level).toNat < t.hood.length := by omega
 generalize hpos : ((t.hood.length : Int) - x.level).toNat = pos at hp ⊢
 rw [stsF_drop _ _ _ _ hp]
 have h0 := stF_bd vs (bitsF t.states) pos
 have hpw := bitsF_pow hs
 rw [any_congr_range t.states.toNat _ (fun s => (stF vs (bitsF t.states) pos == (s : Int)) && nextR t vs x k s) (fun s hs' => by rw [atS_eq hv hp (by omega)]), any_pick _ _ h0, hw2]
 simp only [okSts, List.all_cons]
 rw [Int.toNat_of_nonneg (by omega)]
 generalize hst : stF vs (bitsF t.states) pos = st at h0
 cases hd : decide (st < t.states)
 ·simp
 ·rw [decide_eq_true_eq] at hd
  simp only [Bool.true_and]
  have hlk := hlink st.toNat (by omega)
  simp only [linkOk, decide_eq_true_eq] at hlk
  obtain ⟨k1, k2, k3⟩ := hlk
  unfold nextR
  by_cases hup : 1 < x.level
  ·rw [if_pos (by simpa [upN] using hup)]
   obtain ⟨k4, k5⟩ := k3 hup
   unfold valN tailOf
   rw [k5, show ((t.hood.length : Int) - (x.level - 1)).toNat = pos + 1 by omega, Int.toNat_of_nonneg k1]
   rfl
  ·rw [if_neg (by simpa [upN] using hup)]
   have : pos + 1 = t.hood.length := by omega
   rw [this, List.drop_of_length_le (by rw [stsF_length]; exact Nat.le_refl _)]
   simp [walkT]
theorem nodeS_good {t : Tre} (hr : rightT t = true) {vs : List Bool} (hv : vs.length = lowN t) {gs0 g0 g : List Gt} {acc : List (List Int)} {tests : List (List Int)} {i : Nat} (hi : i < t.nodes.length)
 (ht : Rows2 (lowN t) vs gs0 g0 tests t.hood.length t.states.toNat (atS vs (bitsF t.states))) (h : Rows2 (lowN t) vs g0 g acc i (bitsF t.states) (valN t vs)) :
 Rows1 (lowN t) vs g (nodeS t (lowN t) (bitsF t.states) t.states.toNat tests g acc i).1 (nodeS t (lowN t) (bitsF t.states) t.states.toNat tests g acc i).2 (bitsF t.states) (valN t vs i) := by
 obtain ⟨_, ⟨hs, _⟩, hn⟩ := rightT_parts hr
 obtain ⟨⟨l1, l2, l3⟩, hlink⟩ := nodeOk_parts (hn i hi)
 refine scan_ind _ g (fun g' row k => Rows1 (lowN t) vs g g' row k (valN t vs i)) ⟨Ext.refl _, h.ok, fun s hs => absurd hs (by omega)⟩ (bitsF t.states) (fun k g' row hk hl hh => hh.next hv hl ?_)
 rw [← node_step hr hv i k hi]
 refine res_good hv _ _ _ _ g' k _ _ _ hh.ok (fun s hs' => ?_) (fun s hs' hup => ?_) (fun s hs' hup => ?_)
 ·obtain ⟨t1, t2⟩ := ht.at_ ((t.hood.length : Int) - (t.nodes.getD i default).level).toNat (by omega) s hs'
  exact ⟨t1.ext (h.ext.trans hh.ext), (V_ext hv (h.ext.trans hh.ext) t1).trans t2⟩
 ·have hlk := hlink s (by omega)
  simp only [linkOk, decide_eq_true_eq] at hlk
  have hlt := (hlk.2.2 (by simpa [upN] using hup)).1
  obtain ⟨t1, t2⟩ := h.at_ ((t.nodes.getD i default).next.getD s 0).toNat (by omega) k hk
  refine ⟨t1.ext hh.ext, (V_ext hv hh.ext t1).trans ?_⟩
  rw [t2, nextR, if_pos hup]
 ·rw [nextR, if_neg (by rw [hup]; simp)]
theorem lowT_good {t : Tre} (hr : rightT t = true) {vs : List Bool} (hv : vs.length = lowN t) : Rows2 (lowN t) vs (notsG (lowN t)) (lowT t).1 (lowT t).2 t.hood.length t.states.toNat (atS vs (bitsF t.states)) := by
 obtain ⟨_, ⟨hs, _⟩, hn⟩ := rightT_parts hr
 exact testRows_good hv rfl (bitsF_pos hs) (Ext.refl _) (nots_ok _)
theorem lowM_good {t : Tre} (hr : rightT t = true) {vs : List Bool} (hv : vs.length = lowN t) (m : Nat) (hm : m ≤ t.nodes.length) : Rows2 (lowN t) vs (lowT t).1 (lowM t m).1 (lowM t m).2 m (bitsF t.states) (valN t vs) :=
 scan_ind (fun g res i => nodeS t (lowN t) (bitsF t.states) t.states.toNat (lowT t).2 g res i) (lowT t).1 (fun g acc k => Rows2 (lowN t) vs (lowT t).1 g acc k (bitsF t.states) (valN t vs)) ⟨Ext.refl _, (lowT_good hr hv).ok, fun s hs => absurd hs (by omega)⟩ m
  (fun k g acc hk hl h => h.next hv hl (nodeS_good hr hv (by omega) (lowT_good hr hv) h))
theorem scan_bd {α : Type} (f : List Gt → List α → Nat → List Gt × α) (gs : List Gt) (K c : Nat) (h : ∀ k g acc, k < K → acc.length = k → (f g acc k).1.length ≤ g.length + c) : (scan f gs K).1.length ≤ gs.length + c * K :=
 scan_ind f gs (fun g _ k => g.length ≤ gs.length + c * k) (by simp) K (fun k g acc hk hl hh => by
  have := h k g acc hk hl
  rw [Nat.mul_add]; omega)
theorem scan_all {α : Type} (f : List Gt → List α → Nat → List Gt × α) (gs : List Gt) (K : Nat) (Q : α → Prop) (h : ∀ k g acc, k < K → Q (f g acc k).2) : ∀ x ∈ (scan f gs K).2, Q x :=
 scan_ind f gs (fun _ acc _ => ∀ x ∈ acc, Q x) (by simp) K (fun k g acc hk hl hh x hx => by
  simp only [List.mem_append, List.mem_singleton] at hx
  rcases hx with hx | rfl
  ·exact hh x hx
  ·exact h k g acc hk)
theorem lowT_len {t : Tre} (hr : rightT t = true) : (lowT t).1.length ≤ 475 ∧ lowN t ≤ 75 := by
 obtain ⟨hh, ⟨hs, _⟩, hn⟩ := rightT_parts hr
 have h25 : t.hood.length ≤ 25 := by
  simp only [hoodOk, Bool.and_eq_true, decide_eq_true_eq] at hh
  omega
 have hb := bitsF_bd t.states
 have hN : lowN t ≤ 75 := by
  have := Nat.mul_le_mul h25 hb
  unfold lowN; omega
 refine ⟨?_, hN⟩
 have h1 := scan_bd (fun g _ i => testRow (lowN t) (bitsF t.states) t.states.toNat g i) (notsG (lowN t)) t.hood.length 16 (fun k g acc hk hl => by
  have h2 := scan_bd (fun g _ s => testS (lowN t) (bitsF t.states) g k s) g t.states.toNat 2 (fun s g acc hk hl => by
   simp only [testS]
   rw [allS_len, litsF_length]; omega)
  unfold testRow
  omega)
 rw [notsG_length] at h1
 unfold lowT testRows
 omega
theorem nodeS_len {t : Tre} (hs : 2 ≤ t.states ∧ t.states ≤ 8) (N : Nat) (tests : List (List Int)) (g : List Gt) (acc : List (List Int)) (i : Nat) : (nodeS t N (bitsF t.states) t.states.toNat tests g acc i).1.length ≤ g.length + 48 := by
 have hb := bitsF_bd t.states
 have := scan_bd (fun g _ k => resS N (upN (t.nodes.getD i default)) (tests.getD ((t.hood.length : Int) - (t.nodes.getD i default).level).toNat []) acc (t.nodes.getD i default).next t.states.toNat g k) g (bitsF t.states) 16 (fun k g acc' hk hl => by
  have := resS_len N (upN (t.nodes.getD i default)) (tests.getD ((t.hood.length : Int) - (t.nodes.getD i default).level).toNat []) acc (t.nodes.getD i default).next g k t.states.toNat (by omega)
  omega)
 unfold nodeS
 omega
theorem lowM_len {t : Tre} (hr : rightT t = true) (m : Nat) : (lowM t m).1.length ≤ 475 + 48 * m := by
 obtain ⟨hh, ⟨hs, _⟩, hn⟩ := rightT_parts hr
 have h1 := (lowT_len hr).1
 have := scan_bd (fun g res i => nodeS t (lowN t) (bitsF t.states) t.states.toNat (lowT t).2 g res i) (lowT t).1 m 48 (fun k g acc hk hl => nodeS_len hs _ _ g acc k)
 unfold lowM nodesS
 omega
theorem lowM_row {t : Tre} (m i : Nat) (hi : i < m) : ((lowM t m).2.getD i []).length = bitsF t.states := by
 have hl : (lowM t m).2.length = m := by unfold lowM nodesS; exact scan_length _ _ _
 have := scan_all (fun g res i => nodeS t (lowN t) (bitsF t.states) t.states.toNat (lowT t).2 g res i) (lowT t).1 m (fun r => r.length = bitsF t.states) (fun k g acc hk => by unfold nodeS; exact scan_length _ _ _)
 have hi' : i < (lowM t m).2.length := by omega
 have this : ∀ x ∈ (lowM t m).2, x.length = bitsF t.states := this
 rw [List.getD_eq_getElem?_getD, List.getElem?_eq_getElem hi']
 exact this _ (List.getElem_mem hi')
theorem lowT_row {t : Tre} (i : Nat) (hi : i < t.hood.length) : ((lowT t).2.getD i []).length = t.states.toNat := by
 have hl : (lowT t).2.length = t.hood.length := by unfold lowT testRows; exact scan_length _ _ _
 have := scan_all (fun g _ i => testRow (lowN t) (bitsF t.states) t.states.toNat g i) (notsG (lowN t)) t.hood.length (fun r => r.length = t.states.toNat) (fun k g acc hk => by unfold testRow; exact scan_length _ _ _)
 have hi' : i < (lowT t).2.length := by omega
 have this : ∀ x ∈ (lowT t).2, x.length = t.states.toNat := this
 rw [List.getD_eq_getElem?_getD, List.getElem?_eq_getElem hi']
 exact this _ (List.getElem_mem hi')
theorem right_mk (N : Nat) (gs : List Gt) (os : List Int) (h1 : N ≤ 1000) (h2 : gs.length ≤ 20000) (h3 : os.length ≤ 1000) (hg : okG N gs) (ho : ∀ k, k < os.length → okW N gs (os.getD k 0)) : rightC ⟨(N : Int), gs, os⟩ = true := by
 have e := right_true_gates ⟨(N : Int), gs, os⟩ ⟨by dsimp only; omega, by dsimp only; omega, h2, h3⟩ hg
 rw [e]
 apply all_true_at
 intro k hk
 have := ho k hk
 unfold okW at this
 exact decide_eq_true this
theorem lowR_right {t : Tre} (hr : rightT t = true) (hm : t.nodes.length ≤ 400) : rightC (lowR t) = true := by
 obtain ⟨hh, ⟨hs, hn1, _⟩, hn⟩ := rightT_parts hr
 have h1 := lowM_len hr t.nodes.length
 have h2 := (lowT_len hr).2
 have hg := lowM_good hr (vs := List.replicate (lowN t) false) (List.length_replicate ..) t.nodes.length (Nat.le_refl _)
 have hrow := lowM_row (t := t) t.nodes.length (t.nodes.length - 1) (by omega)
 have hb := bitsF_bd t.states
 rw [lowR, if_pos hr]
 exact right_mk _ _ _ (by omega) (by omega) (by omega) hg.ok (fun k hk => (hg.at_ (t.nodes.length - 1) (by omega) k (by omega)).1)
def statesOf (t : Tre) (vs : List Bool) : List Int := stsF vs (bitsF t.states) t.hood.length
def outsV (t : Tre) (vs : List Bool) : List Bool := (List.range (bitsF t.states)).map (fun k => okSts t.states (statesOf t vs) && bitI (valueT t (statesOf t vs)) k)
theorem lowR_outs {t : Tre} (hr : rightT t = true) {vs : List Bool} (hv : vs.length = lowN t) : outsG evalB false (lowR t) vs = outsV t vs := by
 obtain ⟨hh, ⟨hs, hn1, _, hroot⟩, hn⟩ := rightT_parts hr
 have hg := lowM_good hr hv t.nodes.length (Nat.le_refl _)
 have hrow := lowM_row (t := t) t.nodes.length (t.nodes.length - 1) (by omega)
 rw [lowR, if_pos hr]
 unfold outsG outsV
 dsimp only
 apply bl_ext
 ·rw [List.length_map, List.length_map, List.length_range, hrow]
 ·intro k hk
  rw [List.length_map, hrow] at hk
  have h2 := (hg.at_ (t.nodes.length - 1) (by omega) k hk).2
  have e1 : ∀ (l : List Int), l.length = bitsF t.states → (l.map (fun o => (runG evalB false (lowM t t.nodes.length).1 vs).getD o.toNat false)).getD k false = V vs (lowM t t.nodes.length).1 (l.getD k 0) := fun l hl => by
   have : k < l.length := by omega
   simp [List.getD_eq_getElem?_getD, List.getElem?_map, List.getElem?_eq_getElem this, V, vals]
  rw [e1 _ hrow, h2]
  simp only [List.getD_eq_getElem?_getD, List.getElem?_map, List.getElem?_range hk, Option.map_some, Option.getD_some]
  simp only [valN, tailOf]
  rw [hroot, Int.sub_self]
  simp only [Int.toNat_zero, List.drop_zero]
  unfold valueT statesOf
  rw [show ((t.nodes.length : Int) - 1) = ((t.nodes.length - 1 : Nat) : Int) by omega]
theorem flat_part (b : Nat) (ins : List Int) (i : Nat) (hi : i < ins.length) : ((ins.flatMap (bitsOf b)).drop (i * b)).take b = bitsOf b (ins.getD i 0) := by
 induction ins generalizing i with
 | nil => simp at hi
 | cons x l ih =>
  cases i with
  | zero =>
   simp only [List.flatMap_cons, Nat.zero_mul, List.drop_zero, List.getD_cons_zero]
   rw [List.take_left' (bitsOf_length b x)]
  | succ i =>
   have := ih i (by simpa using hi)
   simp only [List.flatMap_cons, List.getD_cons_succ]
   rw [← this, show (i + 1) * b = b + i * b by rw [Nat.add_mul]; omega, ← List.drop_drop, List.drop_left' (bitsOf_length b x)]
theorem flat_len (b : Nat) (ins : List Int) : (ins.flatMap (bitsOf b)).length = ins.length * b := by
 induction ins with
 | nil => simp
 | cons x l ih => simp only [List.flatMap_cons, List.length_append, List.length_cons, ih, bitsOf_length, Nat.add_mul]; omega
theorem evalErr_parts {t : Tre} {ins : List Int} (h : evalErr t ins = 0) : rightT t = true ∧ ins.length = t.hood.length ∧ ins.all (stateIn t) = true := by
 unfold evalErr at h
 split at h
 ·split at h
  ·split at h
   ·exact ⟨by assumption, by assumption, by assumption⟩
   ·omega
  ·omega
 ·omega
theorem inputs_len {t : Tre} {ins : List Int} (h : evalErr t ins = 0) : (inputsB t ins).length = lowN t := by
 obtain ⟨_, h2, _⟩ := evalErr_parts h
 unfold inputsB lowN
 rw [flat_len, h2]
theorem statesOf_inputs {t : Tre} {ins : List Int} (h : evalErr t ins = 0) : statesOf t (inputsB t ins) = ins := by
 obtain ⟨h1, h2, h3⟩ := evalErr_parts h
 obtain ⟨_, ⟨hs, _⟩, _⟩ := rightT_parts h1
 have hp := bitsF_pow hs
 apply List.ext_getElem
 ·simp [statesOf, stsF, h2]
 ·intro i hi1 hi2
  have h4 := stateIn_at h3 hi2
  have e : ins.getD i 0 = ins[i] := by rw [List.getD_eq_getElem?_getD, List.getElem?_eq_getElem hi2]; rfl
  simp only [statesOf, stsF, List.getElem_map, List.getElem_range, stF, inputsB]
  rw [flat_part _ _ _ hi2, valB_bits _ _ h4.1 (by omega), e]
theorem low_same {t : Tre} {ins : List Int} (h : evalErr t ins = 0) : outsG evalB false (lowR t) (inputsB t ins) = bitsOf (bitsF t.states) (valueT t ins) ∧ stateF (outsG evalB false (lowR t) (inputsB t ins)) = valueT t ins := by
 obtain ⟨h1, h2, h3⟩ := evalErr_parts h
 obtain ⟨hh, ⟨hs, _⟩, _⟩ := rightT_parts h1
 have hp := bitsF_pow hs
 have h0 : 1 ≤ t.hood.length := by
  simp only [hoodOk, Bool.and_eq_true, decide_eq_true_eq] at hh
  omega
 have hv := (walkT_at h1 ins h2 (fun j hj => stateIn_at h3 hj) ins.length (Nat.le_refl _)).2 rfl (by omega)
 rw [List.take_length] at hv
 have hok : okSts t.states ins = true := by
  unfold okSts
  rw [List.all_eq_true] at *
  intro x hx
  have := h3 x hx
  simp only [stateIn, decide_eq_true_eq] at this
  simpa using this.2
 have e : outsG evalB false (lowR t) (inputsB t ins) = bitsOf (bitsF t.states) (valueT t ins) := by
  rw [lowR_outs h1 (inputs_len h)]
  unfold outsV
  rw [statesOf_inputs h, hok]
  simp [bitsOf]
 refine ⟨e, ?_⟩
 rw [e, stateF, if_neg (by rw [bitsOf_length]; have := bitsF_bd t.states; omega)]
 exact valB_bits _ _ hv.1 (by unfold valueT; omega)
end Go.Proofs.Ytiemhbogbaamlaa
