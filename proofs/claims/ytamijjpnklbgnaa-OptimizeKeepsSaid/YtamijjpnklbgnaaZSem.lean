/-
  What the steps that make a circuit smaller keep: the values of the outputs. Plain.
-/
import Derived.Test.YtamijjpnklbgnaaZLaw
import Derived.Test.YtamijjpnklbgnaaLLaw
namespace Go.Proofs.Ytamijjpnklbgnaa
open Go.RowKit
set_option linter.unusedSimpArgs false
set_option linter.unusedVariables false
theorem evalB_congr {op : Int} (ho : op = 0 ∨ op = 1 ∨ op = 2 ∨ op = 3 ∨ op = 4 ∨ op = 5) {x x' y y' : Bool} (hx : 2 ≤ op → x = x') (hy : 3 ≤ op → y = y') : evalB op x y = evalB op x' y' := by
  rcases ho with rfl | rfl | rfl | rfl | rfl | rfl
  · rfl
  · rfl
  · rw [hx (by omega)]; rfl
  · rw [hx (by omega), hy (by omega)]
  · rw [hx (by omega), hy (by omega)]
  · rw [hx (by omega), hy (by omega)]
/-- The value of a gate's wire. -/
theorem V_at {N : Nat} {vs : List Bool} (hv : vs.length = N) {gs : List Gt} {j : Nat} (hj : j < gs.length) (hg : gateOk ((N : Int) + (j : Int)) (gs.getD j default) = true) :
    V vs gs ((N : Int) + (j : Int)) = evalB (gs.getD j default).op (V vs gs (gs.getD j default).a) (V vs gs (gs.getD j default).b) := by
  have ht := take_snoc_getD gs j hj
  have hl : (gs.take j).length = j := by rw [List.length_take]; omega
  have he : Ext (gs.take j ++ [gs.getD j default]) gs := ⟨gs.drop (j + 1), by rw [← ht, List.take_append_drop]⟩
  have he0 : Ext (gs.take j) gs := ⟨gs.drop j, by rw [List.take_append_drop]⟩
  have hw : okW N (gs.take j ++ [gs.getD j default]) ((N : Int) + (j : Int)) := by
    unfold okW; rw [List.length_append, hl, List.length_singleton]; omega
  rw [V_ext hv he hw]
  have e1 : (N : Int) + (j : Int) = wireF N (gs.take j) := by unfold wireF; rw [hl]
  rw [e1, V_new _ _ hv]
  obtain ⟨ho, ha, hb, _, _⟩ := gateOk_parts hg
  refine evalB_congr ho (fun h => ?_) (fun h => ?_)
  · exact (V_ext hv he0 (by have := ha h; unfold okW; rw [hl]; omega)).symm
  · exact (V_ext hv he0 (by have := hb h; unfold okW; rw [hl]; omega)).symm
theorem moveG_op (to : List Int) (g : Gt) : (moveG to g).op = g.op := rfl
theorem moveG_a {to : List Int} {g : Gt} (ho : g.op = 0 ∨ g.op = 1 ∨ g.op = 2 ∨ g.op = 3 ∨ g.op = 4 ∨ g.op = 5) (h : 2 ≤ g.op) : (moveG to g).a = toAt to g.a := by
  show (if _ then _ else _) = _
  rw [if_pos]
  rw [operandsO_of ho, if_neg (by omega)]; split <;> omega
theorem moveG_b {to : List Int} {g : Gt} (ho : g.op = 0 ∨ g.op = 1 ∨ g.op = 2 ∨ g.op = 3 ∨ g.op = 4 ∨ g.op = 5) (h : 3 ≤ g.op) : (moveG to g).b = toAt to g.b := by
  show (if _ then _ else _) = _
  rw [if_pos]
  rw [operandsO_of ho, if_neg (by omega), if_neg (by omega)]
theorem moveG_a0 {to : List Int} {g : Gt} (ho : g.op = 0 ∨ g.op = 1 ∨ g.op = 2 ∨ g.op = 3 ∨ g.op = 4 ∨ g.op = 5) (h : g.op < 2) : (moveG to g).a = g.a := by
  show (if _ then _ else _) = _
  rw [if_neg]
  rw [operandsO_of ho, if_pos h]; omega
theorem moveG_b0 {to : List Int} {g : Gt} (ho : g.op = 0 ∨ g.op = 1 ∨ g.op = 2 ∨ g.op = 3 ∨ g.op = 4 ∨ g.op = 5) (h : g.op < 3) : (moveG to g).b = g.b := by
  show (if _ then _ else _) = _
  rw [if_neg]
  rw [operandsO_of ho]; split <;> omega
section
variable {N : Nat} {vs : List Bool} {gs : List Gt}
theorem isW_V (hv : vs.length = N) (hs : GsOk N gs) {x op : Int} (h : isW N gs x op = true) (hx : x < (N : Int) + (gs.length : Int)) : ∃ y z : Bool, V vs gs x = evalB op y z ∧ (2 ≤ op → y = V vs gs (argW N gs x)) := by
  obtain ⟨j, rfl, hj, ho, ha⟩ := isW_gate h hx
  refine ⟨_, _, (V_at hv hj (hs j hj)).trans (by rw [ho]), fun _ => by rw [ha]⟩
theorem isW_0 (hv : vs.length = N) (hs : GsOk N gs) {x : Int} (h : isW N gs x 0 = true) (hx : x < (N : Int) + (gs.length : Int)) : V vs gs x = false := by
  obtain ⟨y, z, e, _⟩ := isW_V hv hs h hx
  exact e
theorem isW_1 (hv : vs.length = N) (hs : GsOk N gs) {x : Int} (h : isW N gs x 1 = true) (hx : x < (N : Int) + (gs.length : Int)) : V vs gs x = true := by
  obtain ⟨y, z, e, _⟩ := isW_V hv hs h hx
  exact e
theorem isW_2 (hv : vs.length = N) (hs : GsOk N gs) {x : Int} (h : isW N gs x 2 = true) (hx : x < (N : Int) + (gs.length : Int)) : V vs gs x = !V vs gs (argW N gs x) := by
  obtain ⟨y, z, e, e2⟩ := isW_V hv hs h hx
  rw [e, e2 (by omega)]; rfl
theorem oppW_V (hv : vs.length = N) (hs : GsOk N gs) {x y : Int} (h : oppW N gs x y = true) (hx : x < (N : Int) + (gs.length : Int)) (hy : y < (N : Int) + (gs.length : Int)) : V vs gs x = !V vs gs y := by
  unfold oppW negW at h
  rw [Bool.or_eq_true, Bool.and_eq_true, Bool.and_eq_true, decide_eq_true_iff, decide_eq_true_iff] at h
  rcases h with ⟨h1, h2⟩ | ⟨h1, h2⟩
  · rw [isW_2 hv hs h1 hx, h2]
  · rw [isW_2 hv hs h1 hy, h2, Bool.not_not]
/-- The value of what a gate becomes. -/
def FVal (vs : List Bool) (gs : List Gt) (p : Gt × Int) (v : Bool) : Prop := if p.2 < 0 then evalB p.1.op (V vs gs p.1.a) (V vs gs p.1.b) = v else V vs gs p.2 = v
theorem FVal.gate {g : Gt} {v : Bool} (h : evalB g.op (V vs gs g.a) (V vs gs g.b) = v) : FVal vs gs (g, -1) v := by unfold FVal; rw [if_pos (by show (-1 : Int) < 0; decide)]; exact h
theorem FVal.congr {p : Gt × Int} {v v' : Bool} (h : FVal vs gs p v) (e : v = v') : FVal vs gs p v' := e ▸ h
theorem FVal.wire {g : Gt} {z : Int} {v : Bool} (hz : 0 ≤ z) (h : V vs gs z = v) : FVal vs gs (g, z) v := by unfold FVal; rw [if_neg (by show ¬ z < 0; omega)]; exact h
theorem notF_val (hv : vs.length = N) (hs : GsOk N gs) {a : Int} (ha : 0 ≤ a ∧ a < (N : Int) + (gs.length : Int)) : FVal vs gs (notF N gs a) (!V vs gs a) := by
  unfold notF
  split
  · rename_i h
    rw [isW_0 hv hs h ha.2]; exact .gate rfl
  · split
    · rename_i h
      rw [isW_1 hv hs h ha.2]; exact .gate rfl
    · split
      · rename_i h
        have := argW_ok hs h ha.2
        rw [isW_2 hv hs h ha.2, Bool.not_not]; exact .wire this.1 rfl
      · exact .gate rfl
theorem foldG_val (hv : vs.length = N) (hs : GsOk N gs) {g : Gt} (hg : gateOk ((N : Int) + (gs.length : Int)) g = true) : FVal vs gs (foldG N gs g) (evalB g.op (V vs gs g.a) (V vs gs g.b)) := by
  obtain ⟨ho, ha, hb, _, _⟩ := gateOk_parts hg
  obtain ⟨op, x, y⟩ := g
  dsimp only at ho ha hb ⊢
  unfold foldG
  dsimp only
  split
  · rename_i h; subst h
    exact notF_val hv hs (ha (by omega))
  · split
    · rename_i _ h; subst h
      have hx := ha (by omega)
      have hy := hb (by omega)
      unfold eitherF
      dsimp only
      split
      · rename_i h
        rw [Bool.or_eq_true] at h
        rcases h with h | h
        · rw [isW_0 hv hs h hx.2]; exact .gate rfl
        · rw [isW_0 hv hs h hy.2]; refine .gate ?_; show false = (_ && false); rw [Bool.and_false]
      · split
        · rename_i h
          rw [isW_1 hv hs h hx.2]; exact .wire hy.1 rfl
        · split
          · rename_i h
            rw [Bool.or_eq_true, decide_eq_true_iff] at h
            rcases h with h | h
            · rw [isW_1 hv hs h hy.2]; refine .wire hx.1 ?_; show _ = (_ && true); rw [Bool.and_true]
            · subst h; refine .wire hx.1 ?_; show _ = (_ && _); rw [Bool.and_self]
          · split
            · rename_i h
              rw [oppW_V hv hs h hx.2 hy.2]; refine .gate ?_; show false = (_ && _); rw [Bool.not_and_self]
            · exact .gate rfl
    · split
      · rename_i _ _ h; subst h
        have hx := ha (by omega)
        have hy := hb (by omega)
        unfold eitherF
        dsimp only
        split
        · rename_i h
          rw [Bool.or_eq_true] at h
          rcases h with h | h
          · rw [isW_1 hv hs h hx.2]; exact .gate rfl
          · rw [isW_1 hv hs h hy.2]; refine .gate ?_; show true = (_ || true); rw [Bool.or_true]
        · split
          · rename_i h
            rw [isW_0 hv hs h hx.2]; exact .wire hy.1 rfl
          · split
            · rename_i h
              rw [Bool.or_eq_true, decide_eq_true_iff] at h
              rcases h with h | h
              · rw [isW_0 hv hs h hy.2]; refine .wire hx.1 ?_; show _ = (_ || false); rw [Bool.or_false]
              · subst h; refine .wire hx.1 ?_; show _ = (_ || _); rw [Bool.or_self]
            · split
              · rename_i h
                rw [oppW_V hv hs h hx.2 hy.2]; refine .gate ?_; show true = (_ || _); rw [Bool.not_or_self]
              · exact .gate rfl
      · split
        · rename_i _ _ _ h; subst h
          have hx := ha (by omega)
          have hy := hb (by omega)
          unfold xorF
          dsimp only
          split
          · rename_i h
            rw [isW_0 hv hs h hx.2]; refine .wire hy.1 ?_; show _ = (false != _); rw [Bool.false_bne]
          · split
            · rename_i h
              rw [isW_0 hv hs h hy.2]; refine .wire hx.1 ?_; show _ = (_ != false); rw [Bool.bne_false]
            · split
              · rename_i h
                subst h; refine .gate ?_; show false = (_ != _); rw [bne_self_eq_false]
              · split
                · rename_i h
                  rw [oppW_V hv hs h hx.2 hy.2]; refine .gate ?_; show true = (_ != _); cases V vs gs y <;> rfl
                · split
                  · rename_i h
                    have e : evalB 5 (V vs gs x) (V vs gs y) = !V vs gs y := by rw [isW_1 hv hs h hx.2]; show (true != _) = _; cases V vs gs y <;> rfl
                    rw [e]; exact notF_val hv hs hy
                  · split
                    · rename_i h
                      have e : evalB 5 (V vs gs x) (V vs gs y) = !V vs gs x := by rw [isW_1 hv hs h hy.2]; show (_ != true) = _; cases V vs gs x <;> rfl
                      rw [e]; exact notF_val hv hs hx
                    · exact .gate rfl
        · exact .gate rfl
end
/-- The values of the old wires, where P holds. -/
def SemOk (vs : List Bool) (P : Nat → Prop) (s : Wk) (gs : List Gt) : Prop := ∀ w, w < s.to.length → P w → V vs s.gates (s.to.getD w 0) = V vs gs (w : Int)
section
variable {N : Nat} {vs : List Bool} {gs : List Gt} {P : Nat → Prop} {s : Wk}
theorem move_val (hsem : SemOk vs P s gs) {lim : Int} {g : Gt} (hg : gateOk lim g = true) (hl : lim ≤ (s.to.length : Int)) (hPa : 2 ≤ g.op → P g.a.toNat) (hPb : 3 ≤ g.op → P g.b.toNat) :
    evalB (moveG s.to g).op (V vs s.gates (moveG s.to g).a) (V vs s.gates (moveG s.to g).b) = evalB g.op (V vs gs g.a) (V vs gs g.b) := by
  obtain ⟨ho, ha, hb, _, _⟩ := gateOk_parts hg
  rw [moveG_op]
  refine evalB_congr ho (fun h => ?_) (fun h => ?_)
  · have := ha h
    rw [moveG_a ho h]
    refine (hsem g.a.toNat (by omega) (hPa h)).trans ?_
    rw [Int.toNat_of_nonneg this.1]
  · have := hb h
    rw [moveG_b ho h]
    refine (hsem g.b.toNat (by omega) (hPb h)).trans ?_
    rw [Int.toNat_of_nonneg this.1]
/-- A gate more. -/
theorem SemOk.add (hv : vs.length = N) (hsem : SemOk vs P s gs) (hok : WkOk N P s) (hl : s.to.length = N + gs.length) {p : Gt × Int} {g : Gt} (hp : -1 ≤ p.2 ∧ p.2 < (N : Int) + (s.gates.length : Int)) (h : FVal vs s.gates p (evalB g.op (V vs gs g.a) (V vs gs g.b))) : SemOk vs P (addW N s p) (gs ++ [g]) := by
  intro w hw hP
  rw [(addW_len _ s p).2] at hw
  have hx : Ext s.gates (addW N s p).gates := Ext.snoc _ _
  rcases Nat.lt_or_ge w s.to.length with h1 | h1
  · rw [show (addW N s p).to.getD w 0 = s.to.getD w 0 from snocZ_lt _ _ _ h1]
    have hb := hok.tok w h1 hP
    rw [V_ext hv hx (by unfold okW; omega), V_ext hv (Ext.snoc gs g) (by unfold okW; omega)]
    exact hsem w h1 hP
  · obtain rfl : w = s.to.length := by omega
    rw [show (addW N s p).to.getD s.to.length 0 = _ from snocZ_eq _ _ _]
    have e1 : ((s.to.length : Nat) : Int) = wireF N gs := by unfold wireF; omega
    rw [e1, V_new gs g hv]
    unfold FVal at h
    split at h
    · rename_i hz
      rw [if_pos hz]
      exact (V_new s.gates p.1 hv).trans h
    · rename_i hz
      rw [if_neg hz, V_ext hv hx (by unfold okW; omega)]
      exact h
end
theorem V_start {N : Nat} {vs : List Bool} (hv : vs.length = N) (P : Nat → Prop) : SemOk vs P (startW N) [] := by
  intro w hw _
  have hw' : w < N := by simpa [startW] using hw
  rw [show (startW N).to.getD w 0 = (w : Int) by simp [startW, List.getD_eq_getElem?_getD, List.getElem?_map, List.getElem?_range hw']]
  rfl
theorem done_sem {c : Circ} {s : Wk} {vs : List Bool} {P : Nat → Prop} (hr : rightC c = true) (hsem : SemOk vs P s c.gates) (hl : (s.to.length : Int) = c.inputs + (c.gates.length : Int)) (hP : ∀ k, k < c.outs.length → P (c.outs.getD k 0).toNat) : outsG evalB false (doneW c s) vs = outsG evalB false c vs := by
  show (c.outs.map (toAt s.to)).map (fun o => V vs s.gates o) = c.outs.map (fun o => V vs c.gates o)
  rw [List.map_map]
  apply List.map_congr_left
  intro o ho
  obtain ⟨k, hk, rfl⟩ := List.getElem_of_mem ho
  have hb := outOk_at (rightC_parts hr).2.2 hk
  have h3 := hP k hk
  have e : c.outs.getD k 0 = c.outs[k] := by rw [List.getD_eq_getElem?_getD, List.getElem?_eq_getElem hk]; rfl
  rw [e] at hb h3
  show V vs s.gates (s.to.getD (c.outs[k]).toNat 0) = _
  rw [hsem _ (by omega) h3, Int.toNat_of_nonneg hb.1]
theorem fold_sem {c : Circ} (h : rightC c = true) {vs : List Bool} (hv : (vs.length : Int) = c.inputs) : outsG evalB false (foldC c) vs = outsG evalB false c vs := by
  obtain ⟨⟨h0, h1, _⟩, _⟩ := rightC_parts h
  obtain ⟨N, hN⟩ : ∃ N : Nat, c.inputs = (N : Int) := ⟨c.inputs.toNat, by omega⟩
  have hvN : vs.length = N := by omega
  have key : ∀ k, k ≤ c.gates.length → SemOk vs (fun _ => True) (foldTo c k) (c.gates.take k) := fun k hk => by
    induction k with
    | zero => rw [foldTo, hN]; exact V_start hvN _
    | succ k ih =>
      have hs := foldTo_ok h k (by omega)
      obtain ⟨l1, l2⟩ := foldTo_len c k
      have hg := gateAt_ok h (show k < c.gates.length by omega)
      have hm := moveG_ok hs hg (by omega) (fun _ => trivial) (fun _ => trivial)
      obtain ⟨f1, f2, f3⟩ := foldG_ok hs.gok h0 hm
      rw [take_snoc_getD c.gates k (by omega), foldTo]
      rw [hN] at hs hm f2 f3 ⊢
      refine (ih (by omega)).add hvN hs (by rw [l2, List.length_take]; omega) ⟨f2, f3⟩ ?_
      exact (foldG_val hvN hs.gok hm).congr (move_val (ih (by omega)) hg (by omega) (fun _ => trivial) (fun _ => trivial))
  rw [foldC, if_pos h]
  have := key c.gates.length (Nat.le_refl _)
  rw [List.take_length] at this
  obtain ⟨l1, l2⟩ := foldTo_len c c.gates.length
  exact done_sem h this (by omega) (fun _ _ => trivial)
theorem evalB_swap {op : Int} (ho : op = 0 ∨ op = 1 ∨ op = 2 ∨ op = 3 ∨ op = 4 ∨ op = 5) (h : 3 ≤ op) (x y : Bool) : evalB op x y = evalB op y x := by
  rcases ho with rfl | rfl | rfl | rfl | rfl | rfl
  · omega
  · omega
  · omega
  · show (x && y) = (y && x); rw [Bool.and_comm]
  · show (x || y) = (y || x); rw [Bool.or_comm]
  · show (x != y) = (y != x); rw [bne_comm]
theorem swapG_val {lim : Int} {g : Gt} (hg : gateOk lim g = true) (f : Int → Bool) : evalB (swapG g).op (f (swapG g).a) (f (swapG g).b) = evalB g.op (f g.a) (f g.b) := by
  obtain ⟨ho, _⟩ := gateOk_parts hg
  unfold swapG
  split
  · rename_i h
    have h2 := h.1
    rw [operandsO_of ho] at h2
    exact evalB_swap ho (by split at h2 <;> (try split at h2) <;> omega) _ _
  · rfl
theorem knownW_val {N : Nat} {vs : List Bool} (hv : vs.length = N) {gs : List Gt} (hs : GsOk N gs) {g : Gt} : FVal vs gs (g, knownW N gs g) (evalB g.op (V vs gs g.a) (V vs gs g.b)) := by
  unfold knownW
  split
  · rename_i k hk
    obtain ⟨hlt, he, _⟩ := List.findIdx?_eq_some_iff_getElem.1 hk
    have hg : gs.getD k default = g := by rw [List.getD_eq_getElem?_getD, List.getElem?_eq_getElem hlt]; exact (gtEq_iff _ _).1 he
    refine .wire (by omega) ?_
    rw [V_at hv hlt (hs k hlt), hg]
  · exact .gate rfl
theorem share_sem {c : Circ} (h : rightC c = true) {vs : List Bool} (hv : (vs.length : Int) = c.inputs) : outsG evalB false (shareC c) vs = outsG evalB false c vs := by
  obtain ⟨⟨h0, h1, _⟩, _⟩ := rightC_parts h
  obtain ⟨N, hN⟩ : ∃ N : Nat, c.inputs = (N : Int) := ⟨c.inputs.toNat, by omega⟩
  have hvN : vs.length = N := by omega
  have key : ∀ k, k ≤ c.gates.length → SemOk vs (fun _ => True) (shareTo c k) (c.gates.take k) := fun k hk => by
    induction k with
    | zero => rw [shareTo, hN]; exact V_start hvN _
    | succ k ih =>
      have hs := shareTo_ok h k (by omega)
      obtain ⟨l1, l2⟩ := shareTo_len c k
      have hg := gateAt_ok h (show k < c.gates.length by omega)
      have hm := moveG_ok hs hg (by omega) (fun _ => trivial) (fun _ => trivial)
      have hk := knownW_bd c.inputs (shareTo c k).gates (swapG (moveG (shareTo c k).to (gateAt c k))) h0
      rw [take_snoc_getD c.gates k (by omega), shareTo]
      rw [hN] at hs hm hk ⊢
      refine (ih (by omega)).add hvN hs (by rw [l2, List.length_take]; omega) hk ?_
      exact (knownW_val hvN hs.gok).congr ((swapG_val hm (V vs (shareTo c k).gates)).trans (move_val (ih (by omega)) hg (by omega) (fun _ => trivial) (fun _ => trivial)))
  rw [shareC, if_pos h]
  have := key c.gates.length (Nat.le_refl _)
  rw [List.take_length] at this
  obtain ⟨l1, l2⟩ := shareTo_len c c.gates.length
  exact done_sem h this (by omega) (fun _ _ => trivial)
end Go.Proofs.Ytamijjpnklbgnaa
