/-
  The form of what All returns: no constant operands, no equal or opposite ones, no doubled negations. Plain.
-/
import Derived.Test.YtamijjpnklbgnaaZCount
import Derived.Test.YtamijjpnklbgnaaZAwake
import Derived.Test.YtamijjpnklbgnaaZRShare
import Derived.Test.YtamijjpnklbgnaaCOpen
namespace Go.Proofs.Ytamijjpnklbgnaa
open Go.RowKit
set_option linter.unusedSimpArgs false
set_option linter.unusedVariables false
/-- The wire of a constant gate. -/
def constW (c : Circ) (w : Int) : Bool := decide (c.inputs ≤ w) && (decide ((gateAt c (w - c.inputs).toNat).op = 0) || decide ((gateAt c (w - c.inputs).toNat).op = 1))
/-- The operand of the gate GateNot of a wire, or -1. -/
def notW (c : Circ) (w : Int) : Int := if (decide (c.inputs ≤ w) && decide ((gateAt c (w - c.inputs).toNat).op = 2)) = true then (gateAt c (w - c.inputs).toNat).a else -1
section
variable {c : Circ} {i : Nat}
theorem take_gate (hi : i ≤ c.gates.length) {w : Int} (h0 : c.inputs ≤ w) (hw : w < c.inputs + (i : Int)) : (c.gates.take i).getD (w - c.inputs).toNat default = gateAt c (w - c.inputs).toNat := by
  unfold gateAt
  rw [List.getD_eq_getElem?_getD, List.getD_eq_getElem?_getD, List.getElem?_take, if_pos (by omega)]
theorem isW_take (hi : i ≤ c.gates.length) {w op : Int} (hw : w < c.inputs + (i : Int)) : isW c.inputs (c.gates.take i) w op = (decide (c.inputs ≤ w) && decide ((gateAt c (w - c.inputs).toNat).op = op)) := by
  unfold isW
  by_cases h : c.inputs ≤ w
  · rw [take_gate hi h hw]
  · rw [decide_eq_false h, Bool.false_and, Bool.false_and]
theorem argW_take (hi : i ≤ c.gates.length) {w : Int} (h0 : c.inputs ≤ w) (hw : w < c.inputs + (i : Int)) : argW c.inputs (c.gates.take i) w = (gateAt c (w - c.inputs).toNat).a := by
  unfold argW; rw [take_gate hi h0 hw]
theorem constW_of (hi : i ≤ c.gates.length) {w : Int} (hw : w < c.inputs + (i : Int)) (h0 : ¬ isW c.inputs (c.gates.take i) w 0 = true) (h1 : ¬ isW c.inputs (c.gates.take i) w 1 = true) : constW c w = false := by
  rw [isW_take hi hw] at h0 h1
  unfold constW
  cases hd : decide (c.inputs ≤ w) with
  | false => rfl
  | true =>
    rw [hd, Bool.true_and] at h0 h1
    rw [Bool.true_and, Bool.eq_false_iff.2 h0, Bool.eq_false_iff.2 h1]; rfl
theorem notW_eq (hi : i ≤ c.gates.length) {w : Int} (hw : w < c.inputs + (i : Int)) : notW c w = if isW c.inputs (c.gates.take i) w 2 = true then argW c.inputs (c.gates.take i) w else -1 := by
  unfold notW
  rw [← isW_take hi hw]
  split
  · rename_i h
    rw [argW_take hi (by unfold isW at h; simp at h; exact h.1) hw]
  · rfl
theorem opp_of {n : Int} {gs : List Gt} {a b : Int} (h : ¬ oppW n gs a b = true) (ha : 0 ≤ a) (hb : 0 ≤ b) : (if isW n gs a 2 = true then argW n gs a else -1) ≠ b ∧ (if isW n gs b 2 = true then argW n gs b else -1) ≠ a := by
  unfold oppW negW at h
  simp only [Bool.or_eq_true, Bool.and_eq_true, decide_eq_true_eq, not_or, not_and] at h
  constructor
  · split
    · rename_i h1; exact h.1 h1
    · omega
  · split
    · rename_i h1; exact h.2 h1
    · omega
theorem notF_op {n : Int} {gs : List Gt} {a : Int} : (notF n gs a).1.op ≤ 2 := by
  unfold notF
  split
  · exact (by decide : (1 : Int) ≤ 2)
  · split
    · exact (by decide : (0 : Int) ≤ 2)
    · split <;> exact (by decide : (2 : Int) ≤ 2)
theorem form_at (hr : rightC c = true) (hf : FixC c) (hi : i < c.gates.length) :
    (2 ≤ (gateAt c i).op → constW c (gateAt c i).a = false ∧ ((gateAt c i).op = 2 → notW c (gateAt c i).a < 0)) ∧
    (3 ≤ (gateAt c i).op → constW c (gateAt c i).b = false ∧ (gateAt c i).a ≠ (gateAt c i).b ∧ notW c (gateAt c i).a ≠ (gateAt c i).b ∧ notW c (gateAt c i).b ≠ (gateAt c i).a) := by
  have hle : i ≤ c.gates.length := Nat.le_of_lt hi
  obtain ⟨ho, ha, hb, _, _⟩ := gateOk_parts (gateAt_ok hr hi)
  have hF := hf.fold i hi
  have hgs : GsOk c.inputs (c.gates.take i) := fun j hj => by
    rw [List.length_take] at hj
    have e : (c.gates.take i).getD j default = gateAt c j := by
      unfold gateAt
      rw [List.getD_eq_getElem?_getD, List.getD_eq_getElem?_getD, List.getElem?_take, if_pos (by omega)]
    rw [e]; exact gateAt_ok hr (by omega)
  have hlen : ((c.gates.take i).length : Int) = i := by rw [List.length_take]; omega
  generalize hg : gateAt c i = g at *
  have hop2 : g.op = 2 → ¬ isW c.inputs (c.gates.take i) g.a 0 = true ∧ ¬ isW c.inputs (c.gates.take i) g.a 1 = true ∧ ¬ isW c.inputs (c.gates.take i) g.a 2 = true := fun h2 => by
    unfold foldG notF at hF
    rw [if_pos h2] at hF
    have h3 := ha (by omega)
    by_cases c0 : isW c.inputs (c.gates.take i) g.a 0 = true
    · rw [if_pos c0] at hF; have := congrArg (fun p => p.1.op) hF; simp at this; omega
    · rw [if_neg c0] at hF
      by_cases c1 : isW c.inputs (c.gates.take i) g.a 1 = true
      · rw [if_pos c1] at hF; have := congrArg (fun p => p.1.op) hF; simp at this; omega
      · rw [if_neg c1] at hF
        by_cases c2 : isW c.inputs (c.gates.take i) g.a 2 = true
        · rw [if_pos c2] at hF
          have := congrArg (fun p => p.2) hF
          have h4 := argW_ok hgs c2 (by omega)
          simp only at this
          omega
        · exact ⟨c0, c1, c2⟩
  have heither : ∀ ab ne : Int, (ab = 0 ∨ ab = 1) → 3 ≤ g.op → eitherF c.inputs (c.gates.take i) g ab ne = (g, -1) →
      (¬ isW c.inputs (c.gates.take i) g.a ab = true ∧ ¬ isW c.inputs (c.gates.take i) g.b ab = true) ∧ (¬ isW c.inputs (c.gates.take i) g.a ne = true ∧ ¬ isW c.inputs (c.gates.take i) g.b ne = true) ∧ g.a ≠ g.b ∧ ¬ oppW c.inputs (c.gates.take i) g.a g.b = true := fun ab ne hab h3 hE => by
    have h1 := ha (by omega)
    have h2 := hb h3
    unfold eitherF at hE
    by_cases c0 : (isW c.inputs (c.gates.take i) g.a ab || isW c.inputs (c.gates.take i) g.b ab) = true
    · rw [if_pos c0] at hE; have := congrArg (fun p => p.1.op) hE; simp at this; omega
    · rw [if_neg c0] at hE
      by_cases c1 : isW c.inputs (c.gates.take i) g.a ne = true
      · rw [if_pos c1] at hE; have := congrArg (fun p => p.2) hE; simp at this; omega
      · rw [if_neg c1] at hE
        by_cases c2 : (isW c.inputs (c.gates.take i) g.b ne || decide (g.a = g.b)) = true
        · rw [if_pos c2] at hE; have := congrArg (fun p => p.2) hE; simp at this; omega
        · rw [if_neg c2] at hE
          by_cases c3 : oppW c.inputs (c.gates.take i) g.a g.b = true
          · rw [if_pos c3] at hE; have := congrArg (fun p => p.1.op) hE; simp at this; omega
          · simp only [Bool.or_eq_true, decide_eq_true_eq, not_or] at c0 c2
            exact ⟨c0, ⟨c1, c2.1⟩, c2.2, c3⟩
  have hfin : 3 ≤ g.op → (¬ isW c.inputs (c.gates.take i) g.a 0 = true ∧ ¬ isW c.inputs (c.gates.take i) g.b 0 = true) ∧ (¬ isW c.inputs (c.gates.take i) g.a 1 = true ∧ ¬ isW c.inputs (c.gates.take i) g.b 1 = true) ∧ g.a ≠ g.b ∧ ¬ oppW c.inputs (c.gates.take i) g.a g.b = true := fun h3 => by
    have h1 := ha (by omega)
    have h2 := hb h3
    unfold foldG at hF
    rw [if_neg (by omega)] at hF
    by_cases e3 : g.op = 3
    · rw [if_pos e3] at hF; exact heither 0 1 (.inl rfl) h3 hF
    · rw [if_neg e3] at hF
      by_cases e4 : g.op = 4
      · rw [if_pos e4] at hF
        obtain ⟨p, q, r⟩ := heither 1 0 (.inr rfl) h3 hF
        exact ⟨q, p, r⟩
      · rw [if_neg e4, if_pos (by omega)] at hF
        unfold xorF at hF
        by_cases c0 : isW c.inputs (c.gates.take i) g.a 0 = true
        · rw [if_pos c0] at hF; have := congrArg (fun p => p.2) hF; simp at this; omega
        · rw [if_neg c0] at hF
          by_cases c1 : isW c.inputs (c.gates.take i) g.b 0 = true
          · rw [if_pos c1] at hF; have := congrArg (fun p => p.2) hF; simp at this; omega
          · rw [if_neg c1] at hF
            by_cases c2 : g.a = g.b
            · rw [if_pos c2] at hF; have := congrArg (fun p => p.1.op) hF; simp at this; omega
            · rw [if_neg c2] at hF
              by_cases c3 : oppW c.inputs (c.gates.take i) g.a g.b = true
              · rw [if_pos c3] at hF; have := congrArg (fun p => p.1.op) hF; simp at this; omega
              · rw [if_neg c3] at hF
                by_cases c4 : isW c.inputs (c.gates.take i) g.a 1 = true
                · rw [if_pos c4] at hF
                  have := congrArg (fun p => p.1.op) hF
                  have h5 := notF_op (n := c.inputs) (gs := c.gates.take i) (a := g.b)
                  simp only at this
                  omega
                · rw [if_neg c4] at hF
                  by_cases c5 : isW c.inputs (c.gates.take i) g.b 1 = true
                  · rw [if_pos c5] at hF
                    have := congrArg (fun p => p.1.op) hF
                    have h5 := notF_op (n := c.inputs) (gs := c.gates.take i) (a := g.a)
                    simp only at this
                    omega
                  · exact ⟨⟨c0, c1⟩, ⟨c4, c5⟩, c2, c3⟩
  refine ⟨fun h2 => ?_, fun h3 => ?_⟩
  · have h1 := ha h2
    by_cases e : g.op = 2
    · obtain ⟨p, q, r⟩ := hop2 e
      exact ⟨constW_of hle h1.2 p q, fun _ => by rw [notW_eq hle h1.2, if_neg r]; decide⟩
    · obtain ⟨p, q, r⟩ := hfin (by omega)
      exact ⟨constW_of hle h1.2 p.1 q.1, fun h => absurd h e⟩
  · have h1 := ha (by omega)
    have h2 := hb h3
    obtain ⟨p, q, r, s⟩ := hfin h3
    obtain ⟨o1, o2⟩ := opp_of s h1.1 h2.1
    exact ⟨constW_of hle h2.2 p.2 q.2, r, by rw [notW_eq hle h1.2]; exact o1, by rw [notW_eq hle h2.2]; exact o2⟩
/-- The wire of each gate is found needed by the gates behind it. -/
theorem need_early (hr : rightC c = true) {j : Nat} (hj : j < c.gates.length) (hn : ndg c (c.gates.length - 1 - j) = true) : needAt (needTo c j) (c.inputs + ((c.gates.length - 1 - j : Nat) : Int)) = true := by
  obtain ⟨⟨h0, h1, _⟩, hg, ho⟩ := rightC_parts hr
  have key : ∀ d, d + j ≤ c.gates.length → needAt (needTo c (d + j)) (c.inputs + ((c.gates.length - 1 - j : Nat) : Int)) = true → needAt (needTo c j) (c.inputs + ((c.gates.length - 1 - j : Nat) : Int)) = true := fun d => by
    induction d with
    | zero => intro _ h; rw [Nat.zero_add] at h; exact h
    | succ d ih =>
      intro hd h
      refine ih (by omega) ?_
      have e : d + 1 + j = (d + j) + 1 := by omega
      have hk : c.gates.length - 1 - (d + j) < c.gates.length := by omega
      obtain ⟨hop, ha, hb, _, _⟩ := gateOk_parts (gateAt_ok hr hk)
      unfold needAt at h ⊢
      rw [e, needTo, needG_get hop] at h
      rcases h with h | ⟨_, _, ⟨h2, e2⟩ | ⟨h3, e2⟩⟩
      · exact h
      · have := ha h2; omega
      · have := hb h3; omega
  refine key (c.gates.length - j) (by omega) ?_
  have e : c.gates.length - j + j = c.gates.length := by omega
  rw [e]; exact hn
theorem needG_on (hr : rightC c = true) {j : Nat} (hj : j < c.gates.length) (hn : ndg c (c.gates.length - 1 - j) = true) :
    needTo c (j + 1) = if 3 ≤ (gateAt c (c.gates.length - 1 - j)).op then setT (setT (needTo c j) (gateAt c (c.gates.length - 1 - j)).a) (gateAt c (c.gates.length - 1 - j)).b else if 2 ≤ (gateAt c (c.gates.length - 1 - j)).op then setT (needTo c j) (gateAt c (c.gates.length - 1 - j)).a else needTo c j := by
  have hk : c.gates.length - 1 - j < c.gates.length := by omega
  obtain ⟨ho, _⟩ := gateOk_parts (gateAt_ok hr hk)
  have hop := operandsO_of ho
  rw [needTo, needG, if_pos (need_early hr hj hn)]
  generalize gateAt c (c.gates.length - 1 - j) = g at *
  by_cases h3 : 3 ≤ g.op
  · have e : operandsO g.op = 2 := by rw [hop, if_neg (by omega), if_neg (by omega)]
    rw [if_pos e, if_pos h3]
  · rw [if_neg h3]
    by_cases h2 : 2 ≤ g.op
    · have e : operandsO g.op = 1 := by rw [hop, if_neg (by omega), if_pos (by omega)]
      rw [if_neg (by omega), if_pos e, if_pos h2]
    · have e : operandsO g.op = 0 := by rw [hop, if_pos (by omega)]
      rw [if_neg (by omega), if_neg (by omega), if_neg h2]
end
end Go.Proofs.Ytamijjpnklbgnaa

/-
  The laws' constant and not, walked.
-/
namespace Go.Proofs.Ytamijjpnklbgnaa
open Go.RowKit
set_option linter.unusedSimpArgs false
set_option linter.unusedVariables false
set_option maxRecDepth 100000 in
set_option maxHeartbeats 2000000 in
theorem constZ_any (c : Circ) (GA OA : Option Addr) (gn gc on oc : Nat) (x : Int) (w : World) (hG : CAt w c GA OA gn on) (hn : 0 ≤ c.inputs ∧ c.inputs ≤ 1000) (hg : gn ≤ 20000) (hx : x < c.inputs + (gn : Int)) (hx0 : 0 ≤ x) :
    Calls Try.prog 22 #[.agg #[.int .i64 c.inputs, .slice GA gn gc, .slice OA on oc], .int .i64 x] w fun e w' => e = .returned (.bool (constW c x)) ∧ Below w.heap.size w w' := by
  have HG : Hid (CAt w c GA OA gn on) := hG
  clear hG
  by_cases hle : c.inputs ≤ x
  · obtain ⟨j, rfl⟩ : ∃ j : Nat, x = c.inputs + (j : Int) := ⟨(x - c.inputs).toNat, by omega⟩
    have hj : j < gn := by omega
    obtain ⟨ad, rfl, hab, c0, _, _⟩ := HG.out.gates.gate hj
    have HV : Hid (∀ _ : Unit, constW c (c.inputs + (j : Int)) = (decide ((c.gates.getD j default).op = 0) || decide ((c.gates.getD j default).op = 1))) := fun _ => by
      unfold constW gateAt
      rw [decide_eq_true hle, Bool.true_and, show (c.inputs + (j : Int) - c.inputs).toNat = j by omega]
    generalize (c.gates.getD j default).op = z at c0 HV
    have hd : decide (c.inputs ≤ c.inputs + (j : Int)) = true := decide_eq_true hle
    have hi1 : (j : Int) < (gn : Int) := by omega
    have hw3 : c.inputs + (j : Int) - c.inputs = (j : Int) := by omega
    have hw1 : IntKind.i64.wrap (c.inputs + (j : Int) - c.inputs) = (j : Int) := by
      rw [show c.inputs + (j : Int) - c.inputs = (j : Int) by omega]
      exact IntWalk.i64_in _ (by omega)
    have HC0 : Hid (∀ W9, Below w.heap.size w W9 → W9.cell? (ad.add (j * 3)) = some (.int .i64 z)) := fun W9 h9 => (h9.cell (by rw [add_block]; exact hab)).trans c0
    have HAB : Hid (∀ W9, Below w.heap.size w W9 → ad.block < W9.heap.size) := fun W9 h9 => Nat.lt_of_lt_of_le hab h9.size
    clear hx hle c0 hab
    by_cases hz : z = 0
    · subst hz
      go_enter Try.func22, Try.ntmps22
      go_upto_region 1 with fail
      have RC : Hid (Row (World.alloc w (.cells #[.int .i64 c.inputs, .slice (some ad) gn gc, .slice OA on oc] 25)) (w.heap.size) 25 [.int .i64 c.inputs, .slice (some ad) gn gc, .slice OA on oc]) := by
        have h0 := Row.new w 25 [.int .i64 c.inputs, .slice (some ad) gn gc, .slice OA on oc]
        try simp only [World.size_alloc] at h0
        exact h0
      have hgr9 : Below w.heap.size w (World.alloc w (.cells #[.int .i64 c.inputs, .slice (some ad) gn gc, .slice OA on oc] 25)) := by go_grown
      have B_w : Hid (Below w.heap.size w (World.alloc w (.cells #[.int .i64 c.inputs, .slice (some ad) gn gc, .slice OA on oc] 25))) := hgr9
      clear hgr9
      revert RC B_w
      generalize (World.alloc w (.cells #[.int .i64 c.inputs, .slice (some ad) gn gc, .slice OA on oc] 25)) = wa
      intro RC B_w
      have c0 := HC0.out wa B_w.out
      have hab := HAB.out wa B_w.out
      have k0 := RC.out.cell 0
      have k1 := RC.out.cell 1
      have k2 := RC.out.cell 2
      have kl := RC.out.lt
      simp only [List.getElem?_cons_zero, List.getElem?_cons_succ] at k0 k1 k2
      go_wp2_with fail
      go_ret

      exact ⟨ret_bool (by rw [HV.out ()]; rfl), B_w.out⟩
    · have e0 : decide (z = 0) = false := decide_eq_false hz
      have e1 : (z == 0) = false := by simpa using hz
      have HV2 : Hid (∀ _ : Unit, constW c (c.inputs + (j : Int)) = decide (z = 1)) := fun _ => by rw [HV.out (), e0, Bool.false_or]
      clear hz HV
      go_enter Try.func22, Try.ntmps22
      go_upto_region 1 with fail
      have RC : Hid (Row (World.alloc w (.cells #[.int .i64 c.inputs, .slice (some ad) gn gc, .slice OA on oc] 25)) (w.heap.size) 25 [.int .i64 c.inputs, .slice (some ad) gn gc, .slice OA on oc]) := by
        have h0 := Row.new w 25 [.int .i64 c.inputs, .slice (some ad) gn gc, .slice OA on oc]
        try simp only [World.size_alloc] at h0
        exact h0
      have hgr9 : Below w.heap.size w (World.alloc w (.cells #[.int .i64 c.inputs, .slice (some ad) gn gc, .slice OA on oc] 25)) := by go_grown
      have B_w : Hid (Below w.heap.size w (World.alloc w (.cells #[.int .i64 c.inputs, .slice (some ad) gn gc, .slice OA on oc] 25))) := hgr9
      clear hgr9
      revert RC B_w
      generalize (World.alloc w (.cells #[.int .i64 c.inputs, .slice (some ad) gn gc, .slice OA on oc] 25)) = wa
      intro RC B_w
      have c0 := HC0.out wa B_w.out
      have hab := HAB.out wa B_w.out
      have k0 := RC.out.cell 0
      have k1 := RC.out.cell 1
      have k2 := RC.out.cell 2
      have kl := RC.out.lt
      simp only [List.getElem?_cons_zero, List.getElem?_cons_succ] at k0 k1 k2
      go_wp2_with fail
      go_ret

      exact ⟨ret_bool (by first | exact (HV2.out ()).symm | (rw [HV2.out ()]; first | rfl | (simp; done) | (rw [Bool.eq_iff_iff]; simp; omega))), B_w.out⟩
  · have HV : Hid (∀ _ : Unit, constW c x = false) := fun _ => by unfold constW; rw [decide_eq_false hle, Bool.false_and]
    have hd : decide (c.inputs ≤ x) = false := decide_eq_false hle
    clear hx
    go_enter Try.func22, Try.ntmps22
    go_upto_region 1 with fail
    have RC : Hid (Row (World.alloc w (.cells #[.int .i64 c.inputs, .slice GA gn gc, .slice OA on oc] 25)) (w.heap.size) 25 [.int .i64 c.inputs, .slice GA gn gc, .slice OA on oc]) := by
      have h0 := Row.new w 25 [.int .i64 c.inputs, .slice GA gn gc, .slice OA on oc]
      try simp only [World.size_alloc] at h0
      exact h0
    have hgr9 : Below w.heap.size w (World.alloc w (.cells #[.int .i64 c.inputs, .slice GA gn gc, .slice OA on oc] 25)) := by go_grown
    have B_w : Hid (Below w.heap.size w (World.alloc w (.cells #[.int .i64 c.inputs, .slice GA gn gc, .slice OA on oc] 25))) := hgr9
    clear hgr9
    revert RC B_w
    generalize (World.alloc w (.cells #[.int .i64 c.inputs, .slice GA gn gc, .slice OA on oc] 25)) = wa
    intro RC B_w
    have k0 := RC.out.cell 0
    have k1 := RC.out.cell 1
    have k2 := RC.out.cell 2
    have kl := RC.out.lt
    simp only [List.getElem?_cons_zero, List.getElem?_cons_succ] at k0 k1 k2
    go_wp2_with fail
    go_ret

    exact ⟨ret_bool (by rw [HV.out ()]), B_w.out⟩
set_option maxRecDepth 100000 in
set_option maxHeartbeats 2000000 in
theorem notZ_any (c : Circ) (GA OA : Option Addr) (gn gc on oc : Nat) (x : Int) (w : World) (hG : CAt w c GA OA gn on) (hn : 0 ≤ c.inputs ∧ c.inputs ≤ 1000) (hg : gn ≤ 20000) (hx : x < c.inputs + (gn : Int)) (hx0 : 0 ≤ x) :
    Calls Try.prog 23 #[.agg #[.int .i64 c.inputs, .slice GA gn gc, .slice OA on oc], .int .i64 x] w fun e w' => e = .returned (.int .i64 (notW c x)) ∧ Below w.heap.size w w' := by
  have HG : Hid (CAt w c GA OA gn on) := hG
  clear hG
  by_cases hle : c.inputs ≤ x
  · obtain ⟨j, rfl⟩ : ∃ j : Nat, x = c.inputs + (j : Int) := ⟨(x - c.inputs).toNat, by omega⟩
    have hj : j < gn := by omega
    obtain ⟨ad, rfl, hab, c0, c1, _⟩ := HG.out.gates.gate hj
    have HV : Hid (∀ _ : Unit, notW c (c.inputs + (j : Int)) = if (c.gates.getD j default).op = 2 then (c.gates.getD j default).a else -1) := fun _ => by
      unfold notW gateAt
      rw [decide_eq_true hle, Bool.true_and, show (c.inputs + (j : Int) - c.inputs).toNat = j by omega]
      simp only [decide_eq_true_eq]
    generalize (c.gates.getD j default).op = z at c0 HV
    generalize (c.gates.getD j default).a = y at c1 HV
    have hd : decide (c.inputs ≤ c.inputs + (j : Int)) = true := decide_eq_true hle
    have hi1 : (j : Int) < (gn : Int) := by omega
    have hw3 : c.inputs + (j : Int) - c.inputs = (j : Int) := by omega
    have hw1 : IntKind.i64.wrap (c.inputs + (j : Int) - c.inputs) = (j : Int) := by
      rw [show c.inputs + (j : Int) - c.inputs = (j : Int) by omega]
      exact IntWalk.i64_in _ (by omega)
    have HC0 : Hid (∀ W9, Below w.heap.size w W9 → W9.cell? (ad.add (j * 3)) = some (.int .i64 z)) := fun W9 h9 => (h9.cell (by rw [add_block]; exact hab)).trans c0
    have HC1 : Hid (∀ W9, Below w.heap.size w W9 → W9.cell? ⟨(ad.add (j * 3)).block, (ad.add (j * 3)).off + 1, none⟩ = some (.int .i64 y)) := fun W9 h9 => (h9.cell (by show (ad.add (j * 3)).block < _; rw [add_block]; exact hab)).trans c1
    have HAB : Hid (∀ W9, Below w.heap.size w W9 → ad.block < W9.heap.size) := fun W9 h9 => Nat.lt_of_lt_of_le hab h9.size
    clear hx hle c0 c1 hab
    by_cases hz : z = 2
    · subst hz
      have HV2 : Hid (∀ _ : Unit, notW c (c.inputs + (j : Int)) = y) := fun _ => by rw [HV.out (), if_pos rfl]
      go_enter Try.func23, Try.ntmps23
      go_upto_region 1 with fail
      have RC : Hid (Row (World.alloc w (.cells #[.int .i64 c.inputs, .slice (some ad) gn gc, .slice OA on oc] 25)) (w.heap.size) 25 [.int .i64 c.inputs, .slice (some ad) gn gc, .slice OA on oc]) := by
        have h0 := Row.new w 25 [.int .i64 c.inputs, .slice (some ad) gn gc, .slice OA on oc]
        try simp only [World.size_alloc] at h0
        exact h0
      have hgr9 : Below w.heap.size w (World.alloc w (.cells #[.int .i64 c.inputs, .slice (some ad) gn gc, .slice OA on oc] 25)) := by go_grown
      have B_w : Hid (Below w.heap.size w (World.alloc w (.cells #[.int .i64 c.inputs, .slice (some ad) gn gc, .slice OA on oc] 25))) := hgr9
      clear hgr9
      revert RC B_w
      generalize (World.alloc w (.cells #[.int .i64 c.inputs, .slice (some ad) gn gc, .slice OA on oc] 25)) = wa
      intro RC B_w
      have c0 := HC0.out wa B_w.out
      have c1 := HC1.out wa B_w.out
      have hab := HAB.out wa B_w.out
      have k0 := RC.out.cell 0
      have k1 := RC.out.cell 1
      have k2 := RC.out.cell 2
      have kl := RC.out.lt
      simp only [List.getElem?_cons_zero, List.getElem?_cons_succ] at k0 k1 k2
      go_wp2_with fail
      go_ret

      exact ⟨ret_i64 (HV2.out ()).symm, B_w.out⟩
    · have e0 : decide (z = 2) = false := decide_eq_false hz
      have e1 : (z == 2) = false := by simpa using hz
      have HV2 : Hid (∀ _ : Unit, notW c (c.inputs + (j : Int)) = -1) := fun _ => by rw [HV.out (), if_neg hz]
      clear hz HV
      go_enter Try.func23, Try.ntmps23
      go_upto_region 1 with fail
      have RC : Hid (Row (World.alloc w (.cells #[.int .i64 c.inputs, .slice (some ad) gn gc, .slice OA on oc] 25)) (w.heap.size) 25 [.int .i64 c.inputs, .slice (some ad) gn gc, .slice OA on oc]) := by
        have h0 := Row.new w 25 [.int .i64 c.inputs, .slice (some ad) gn gc, .slice OA on oc]
        try simp only [World.size_alloc] at h0
        exact h0
      have hgr9 : Below w.heap.size w (World.alloc w (.cells #[.int .i64 c.inputs, .slice (some ad) gn gc, .slice OA on oc] 25)) := by go_grown
      have B_w : Hid (Below w.heap.size w (World.alloc w (.cells #[.int .i64 c.inputs, .slice (some ad) gn gc, .slice OA on oc] 25))) := hgr9
      clear hgr9
      revert RC B_w
      generalize (World.alloc w (.cells #[.int .i64 c.inputs, .slice (some ad) gn gc, .slice OA on oc] 25)) = wa
      intro RC B_w
      have c0 := HC0.out wa B_w.out
      have c1 := HC1.out wa B_w.out
      have hab := HAB.out wa B_w.out
      have k0 := RC.out.cell 0
      have k1 := RC.out.cell 1
      have k2 := RC.out.cell 2
      have kl := RC.out.lt
      simp only [List.getElem?_cons_zero, List.getElem?_cons_succ] at k0 k1 k2
      go_wp2_with fail
      go_ret

      exact ⟨ret_i64 (HV2.out ()).symm, B_w.out⟩
  · have HV : Hid (∀ _ : Unit, notW c x = -1) := fun _ => by unfold notW; rw [decide_eq_false hle, Bool.false_and, if_neg (by decide)]
    have hd : decide (c.inputs ≤ x) = false := decide_eq_false hle
    clear hx
    go_enter Try.func23, Try.ntmps23
    go_upto_region 1 with fail
    have RC : Hid (Row (World.alloc w (.cells #[.int .i64 c.inputs, .slice GA gn gc, .slice OA on oc] 25)) (w.heap.size) 25 [.int .i64 c.inputs, .slice GA gn gc, .slice OA on oc]) := by
      have h0 := Row.new w 25 [.int .i64 c.inputs, .slice GA gn gc, .slice OA on oc]
      try simp only [World.size_alloc] at h0
      exact h0
    have hgr9 : Below w.heap.size w (World.alloc w (.cells #[.int .i64 c.inputs, .slice GA gn gc, .slice OA on oc] 25)) := by go_grown
    have B_w : Hid (Below w.heap.size w (World.alloc w (.cells #[.int .i64 c.inputs, .slice GA gn gc, .slice OA on oc] 25))) := hgr9
    clear hgr9
    revert RC B_w
    generalize (World.alloc w (.cells #[.int .i64 c.inputs, .slice GA gn gc, .slice OA on oc] 25)) = wa
    intro RC B_w
    have k0 := RC.out.cell 0
    have k1 := RC.out.cell 1
    have k2 := RC.out.cell 2
    have kl := RC.out.lt
    simp only [List.getElem?_cons_zero, List.getElem?_cons_succ] at k0 k1 k2
    go_wp2_with fail
    go_ret

    exact ⟨ret_i64 (HV.out ()).symm, B_w.out⟩
end Go.Proofs.Ytamijjpnklbgnaa

/-
  The law: what All returns has no gates that are not needed, equal, or of a form that Fold replaces; walked.
-/
namespace Go.Proofs.Ytamijjpnklbgnaa
open Go.RowKit
set_option linter.unusedSimpArgs false
set_option linter.unusedVariables false
set_option maxRecDepth 100000 in
set_option maxHeartbeats 16000000 in
theorem lawForm_any (c : Circ) (GA OA : Option Addr) (gn gc on oc : Nat) (w : World) (hc : CAt w c GA OA gn on) :
    Calls Try.prog 6 #[.agg #[.int .i64 c.inputs, .slice GA gn gc, .slice OA on oc]] w fun e w' => e = .returned (.bool true) ∧ Below w.heap.size w w' := by
  have HC0 : Hid (CAt w c GA OA gn on) := hc
  have HF1 : gn ≤ maxLen := hc.g63
  have HF2 : on ≤ maxLen := hc.o63
  obtain ⟨qf, hqf⟩ : ∃ q, fewB c gn on = q := ⟨_, rfl⟩
  have HFEW : Hid (∀ _ : Unit, fewB c gn on = qf) := fun _ => hqf
  clear hc hqf
  go_enter Try.func6, Try.ntmps6
  go_upto_region 1 with fail
  have RC : Hid (Row (World.alloc w (.cells #[.int .i64 c.inputs, .slice GA gn gc, .slice OA on oc] 25)) (w.heap.size) 25 [.int .i64 c.inputs, .slice GA gn gc, .slice OA on oc]) := by
    have h0 := Row.new w 25 [.int .i64 c.inputs, .slice GA gn gc, .slice OA on oc]
    try simp only [World.size_alloc] at h0
    exact h0
  have hgr9 : Below w.heap.size w (World.alloc w (.cells #[.int .i64 c.inputs, .slice GA gn gc, .slice OA on oc] 25)) := by go_grown
  have B_w : Hid (Below w.heap.size w (World.alloc w (.cells #[.int .i64 c.inputs, .slice GA gn gc, .slice OA on oc] 25))) := hgr9
  clear hgr9
  revert RC B_w
  generalize (World.alloc w (.cells #[.int .i64 c.inputs, .slice GA gn gc, .slice OA on oc] 25)) = wa
  intro RC B_w
  have kR : Hid (Row wa (w.heap.size) 25 [.int .i64 c.inputs, .slice GA gn gc, .slice OA on oc]) := RC.out
  have k0 := kR.out.cell 0
  have k1 := kR.out.cell 1
  have k2 := kR.out.cell 2
  have kl := kR.out.lt
  simp only [List.getElem?_cons_zero, List.getElem?_cons_succ] at k0 k1 k2
  clear kR
  go_wp2_with fail
  have HC := fewZ_any c GA OA gn gc on oc wa HF1 HF2
  rw [HFEW.out ()] at HC
  refine HC.mono ?_
  clear HC
  rintro e w1 ⟨rfl, hb⟩
  have B_w : Hid (Below w.heap.size w w1) := below_on2 B_w.out hb
  have B_wa : Hid (Below wa.heap.size wa w1) := hb
  clear k0 k1 k2 kl
  clear hb
  cases qf
  · go_wp2_with fail
    refine (awake_any w1).mono ?_
    rintro e y1 ⟨rfl, hb⟩
    have B_w : Hid (Below w.heap.size w y1) := below_on2 B_w.out hb
    have B_wa : Hid (Below wa.heap.size wa y1) := below_on2 B_wa.out hb
    have B_w1 : Hid (Below w1.heap.size w1 y1) := hb
    clear hb
    go_wp2_with fail
    go_ret
    exact ⟨rfl, B_w.out⟩
  have kR : Hid (Row w1 (w.heap.size) 25 [.int .i64 c.inputs, .slice GA gn gc, .slice OA on oc]) := (rowCells RC.out B_wa.out)
  have k0 := kR.out.cell 0
  have k1 := kR.out.cell 1
  have k2 := kR.out.cell 2
  have kl := kR.out.lt
  simp only [List.getElem?_cons_zero, List.getElem?_cons_succ] at k0 k1 k2
  clear kR
  go_wp2_with fail
  obtain ⟨q, hq⟩ : ∃ q, rightC c = q := ⟨_, rfl⟩
  have HQ : Hid (∀ _ : Unit, rightC c = q) := fun _ => hq
  have HC := rRightZ_at c GA OA gn gc on oc w1 (HC0.out.up B_w.out)
  rw [hq] at HC
  clear hq
  refine HC.mono ?_
  clear HC
  rintro e w2 ⟨rfl, hb⟩
  have B_w : Hid (Below w.heap.size w w2) := below_on2 B_w.out hb
  have B_wa : Hid (Below wa.heap.size wa w2) := below_on2 B_wa.out hb
  have B_w1 : Hid (Below w1.heap.size w1 w2) := hb
  clear k0 k1 k2 kl
  clear hb
  cases q
  · go_wp2_with fail
    refine (awake_any w2).mono ?_
    rintro e y1 ⟨rfl, hb⟩
    have B_w : Hid (Below w.heap.size w y1) := below_on2 B_w.out hb
    have B_wa : Hid (Below wa.heap.size wa y1) := below_on2 B_wa.out hb
    have B_w1 : Hid (Below w1.heap.size w1 y1) := below_on2 B_w1.out hb
    have B_w2 : Hid (Below w2.heap.size w2 y1) := hb
    clear hb
    go_wp2_with fail
    go_ret
    exact ⟨rfl, B_w.out⟩
  have HR : Hid (rightC c = true) := HQ.out ()
  clear HQ
  have kR : Hid (Row w2 (w.heap.size) 25 [.int .i64 c.inputs, .slice GA gn gc, .slice OA on oc]) := (rowCells RC.out B_wa.out)
  have k0 := kR.out.cell 0
  have k1 := kR.out.cell 1
  have k2 := kR.out.cell 2
  have kl := kR.out.lt
  simp only [List.getElem?_cons_zero, List.getElem?_cons_succ] at k0 k1 k2
  clear kR
  go_wp2_with fail
  have hio := all_io HR.out
  have hdr := all_right HR.out
  have hfx := all_fix HR.out
  have hol := HC0.out.ol
  have HC := all_any c GA OA gn gc on oc w2 (HC0.out.up B_w.out)
  generalize allC c = d at hio hdr hfx HC
  have HIO : Hid (∀ _ : Unit, d.inputs = c.inputs) := fun _ => hio.1
  have HFX : Hid (FixC d) := hfx
  have HDR : Hid (rightC d = true) := hdr
  refine HC.mono ?_
  clear HC
  rintro e w3 ⟨DA, EA, dn, dc, en, ec, he, hca, -, -, hb⟩
  have he2 : e = .returned (.agg #[.int .i64 d.inputs, .slice DA dn dc, .slice EA en ec]) := he
  subst he2
  obtain rfl : on = en := by have := hca.ol; have := hio.2; omega
  have HD : Hid (CAt w3 d DA EA dn on) := hca
  clear he hca hio hdr hfx hol
  have B_w : Hid (Below w.heap.size w w3) := below_on2 B_w.out hb
  have B_wa : Hid (Below wa.heap.size wa w3) := below_on2 B_wa.out hb
  have B_w1 : Hid (Below w1.heap.size w1 w3) := below_on2 B_w1.out hb
  have B_w2 : Hid (Below w2.heap.size w2 w3) := hb
  clear k0 k1 k2 kl
  clear hb
  have BW3 : Hid (Below w.heap.size w w3) := B_w
  go_upto_region 4 with fail
  have RD : Hid (Row (World.alloc w3 (.cells #[.int .i64 d.inputs, .slice DA dn dc, .slice EA on ec] 25)) (w3.heap.size) 25 [.int .i64 d.inputs, .slice DA dn dc, .slice EA on ec]) := by
    have h0 := Row.new w3 25 [.int .i64 d.inputs, .slice DA dn dc, .slice EA on ec]
    try simp only [World.size_alloc] at h0
    exact h0
  have hgr9 : Below w3.heap.size w3 (World.alloc w3 (.cells #[.int .i64 d.inputs, .slice DA dn dc, .slice EA on ec] 25)) := by go_grown
  have B_w : Hid (Below w.heap.size w (World.alloc w3 (.cells #[.int .i64 d.inputs, .slice DA dn dc, .slice EA on ec] 25))) := below_on2 B_w.out hgr9
  have B_wa : Hid (Below wa.heap.size wa (World.alloc w3 (.cells #[.int .i64 d.inputs, .slice DA dn dc, .slice EA on ec] 25))) := below_on2 B_wa.out hgr9
  have B_w1 : Hid (Below w1.heap.size w1 (World.alloc w3 (.cells #[.int .i64 d.inputs, .slice DA dn dc, .slice EA on ec] 25))) := below_on2 B_w1.out hgr9
  have B_w2 : Hid (Below w2.heap.size w2 (World.alloc w3 (.cells #[.int .i64 d.inputs, .slice DA dn dc, .slice EA on ec] 25))) := below_on2 B_w2.out hgr9
  have B_w3 : Hid (Below w3.heap.size w3 (World.alloc w3 (.cells #[.int .i64 d.inputs, .slice DA dn dc, .slice EA on ec] 25))) := hgr9
  clear hgr9
  revert RD B_w B_wa B_w1 B_w2 B_w3
  generalize (World.alloc w3 (.cells #[.int .i64 d.inputs, .slice DA dn dc, .slice EA on ec] 25)) = w4
  intro RD B_w B_wa B_w1 B_w2 B_w3
  have RCd : Hid (Row w4 w.heap.size 25 [.int .i64 d.inputs, .slice GA gn gc, .slice OA on oc]) := (by show Row _ _ _ _; rw [HIO.out ()]; exact (rowCells RC.out B_wa.out))
  have k0 := RCd.out.cell 0
  have k1 := RCd.out.cell 1
  have k2 := RCd.out.cell 2
  have kl := RCd.out.lt
  simp only [List.getElem?_cons_zero, List.getElem?_cons_succ] at k0 k1 k2
  have eR : Hid (Row w4 (w3.heap.size) 25 [.int .i64 d.inputs, .slice DA dn dc, .slice EA on ec]) := RD.out
  have e0 := eR.out.cell 0
  have e1 := eR.out.cell 1
  have e2 := eR.out.cell 2
  have el := eR.out.lt
  simp only [List.getElem?_cons_zero, List.getElem?_cons_succ] at e0 e1 e2
  clear eR
  go_wp2_with fail
  clear k0 k1 k2 kl RCd
  have HC := rRightZ_at d DA EA dn dc on ec w4 (HD.out.up B_w3.out)
  rw [HDR.out] at HC
  refine HC.mono ?_
  clear HC
  rintro e w5 ⟨rfl, hb⟩
  have B_w : Hid (Below w.heap.size w w5) := below_on2 B_w.out hb
  have B_wa : Hid (Below wa.heap.size wa w5) := below_on2 B_wa.out hb
  have B_w1 : Hid (Below w1.heap.size w1 w5) := below_on2 B_w1.out hb
  have B_w2 : Hid (Below w2.heap.size w2 w5) := below_on2 B_w2.out hb
  have B_w3 : Hid (Below w3.heap.size w3 w5) := below_on2 B_w3.out hb
  have B_w4 : Hid (Below w4.heap.size w4 w5) := hb
  clear e0 e1 e2 el
  clear hb
  have RD5 : Hid (Row w5 w3.heap.size 25 [.int .i64 d.inputs, .slice DA dn dc, .slice EA on ec]) := (rowCells RD.out B_w4.out)
  have hs5 : w3.heap.size < w5.heap.size := RD5.out.lt
  clear RD5
  have HGL : Hid (∀ _ : Unit, d.gates.length = dn) := fun _ => HD.out.gl
  have HOL : Hid (∀ _ : Unit, d.outs.length = on) := fun _ => HD.out.ol
  obtain ⟨⟨hn0, hn1, hg0, ho0⟩, _⟩ := rightC_parts HDR.out
  rw [HGL.out ()] at hg0
  rw [HOL.out ()] at ho0
  obtain ⟨NN, hNN⟩ : ∃ NN : Nat, d.inputs + (dn : Int) = (NN : Int) := ⟨(d.inputs + (dn : Int)).toNat, by omega⟩
  have HNN : Hid (∀ _ : Unit, d.inputs + (dn : Int) = (NN : Int)) := fun _ => hNN
  have hNb : NN ≤ 21000 := by omega
  have hmk := fun W => make_like (P := Try.prog) Try.underlying30 bool_infoZ rfl NN (d.inputs + (dn : Int)) hNN (by omega) (by omega) W
  clear hNN
  have eR : Hid (Row w5 (w3.heap.size) 25 [.int .i64 d.inputs, .slice DA dn dc, .slice EA on ec]) := (rowCells RD.out B_w4.out)
  have e0 := eR.out.cell 0
  have e1 := eR.out.cell 1
  have e2 := eR.out.cell 2
  have el := eR.out.lt
  simp only [List.getElem?_cons_zero, List.getElem?_cons_succ] at e0 e1 e2
  clear eR
  go_upto_region 7 with fail
  clear hmk
  have RN6 : Hid (Row (World.alloc w5 (.cells (likeRow (.bool false) NN) 4)) w5.heap.size 4 (bools (needOuts d 0))) := (by
    show Row _ _ _ _
    have e : needOuts d 0 = List.replicate NN false := by rw [needOuts, HGL.out (), HNN.out ()]; rfl
    rw [e]; exact falseRow w5 NN _)
  have hgr9 : Below w5.heap.size w5 ((World.alloc w5 (.cells (likeRow (.bool false) NN) 4))) := by go_grown
  have B_w : Hid (Below w.heap.size w ((World.alloc w5 (.cells (likeRow (.bool false) NN) 4)))) := below_on2 B_w.out hgr9
  have B_wa : Hid (Below wa.heap.size wa ((World.alloc w5 (.cells (likeRow (.bool false) NN) 4)))) := below_on2 B_wa.out hgr9
  have B_w1 : Hid (Below w1.heap.size w1 ((World.alloc w5 (.cells (likeRow (.bool false) NN) 4)))) := below_on2 B_w1.out hgr9
  have B_w2 : Hid (Below w2.heap.size w2 ((World.alloc w5 (.cells (likeRow (.bool false) NN) 4)))) := below_on2 B_w2.out hgr9
  have B_w3 : Hid (Below w3.heap.size w3 ((World.alloc w5 (.cells (likeRow (.bool false) NN) 4)))) := below_on2 B_w3.out hgr9
  have B_w4 : Hid (Below w4.heap.size w4 ((World.alloc w5 (.cells (likeRow (.bool false) NN) 4)))) := below_on2 B_w4.out hgr9
  have B_w5 : Hid (Below w5.heap.size w5 ((World.alloc w5 (.cells (likeRow (.bool false) NN) 4)))) := hgr9
  clear hgr9
  clear e0 e1 e2 el
  revert RN6 B_w B_wa B_w1 B_w2 B_w3 B_w4 B_w5
  generalize (World.alloc w5 (.cells (likeRow (.bool false) NN) 4)) = w6
  intro RN6 B_w B_wa B_w1 B_w2 B_w3 B_w4 B_w5
  have RD6 : Hid (Row w6 w3.heap.size 25 [.int .i64 d.inputs, .slice DA dn dc, .slice EA on ec]) := (rowCells RD.out B_w4.out)
  have BX6 : Hid (Below w3.heap.size w3 w6) := B_w3
  have HLN : Hid (∀ k, (needOuts d k).length = NN) := fun k => by rw [needOuts_len, HGL.out (), HNN.out ()]; rfl
  have HLT : Hid (∀ k, (needTo d k).length = NN) := fun k => by rw [needTo_len, HGL.out (), HNN.out ()]; rfl
  clear B_w B_wa B_w1 B_w2 B_w3 B_w4 B_w5 RD RC HFEW HIO HR HC0 HF1 HF2
  have e0 := RD6.out.cell 0
  have e1 := RD6.out.cell 1
  have e2 := RD6.out.cell 2
  have el := RD6.out.lt
  simp only [List.getElem?_cons_zero, List.getElem?_cons_succ] at e0 e1 e2
  go_wp2_with fail
  clear e0 e1 e2 el
  go_loopg [6, 50] on (fun gg _ s50 wr => ∃ k : Nat, k ≤ on ∧ on - k ≤ gg ∧ s50 = .int .i64 k ∧ Aside (Below w3.heap.size w3 wr) ∧ Aside (Row wr w3.heap.size 25 [.int .i64 d.inputs, .slice DA dn dc, .slice EA on ec]) ∧ Aside (Row wr w5.heap.size 4 (bools (needOuts d k))))
  case atStart => exact ⟨0, Nat.zero_le _, by omega, rfl, BX6.out, RD6.out, RN6.out⟩
  case round =>
    clear RD6 RN6 BX6
    obtain ⟨k, hk, hgg, rfl, BX, RD, RN⟩ := hrel
    by_cases hlt : k < on
    · have hlz : (k : Int) < (on : Int) := by omega
      have hko : k < d.outs.length := by rw [HOL.out ()]; exact hlt
      have hob := outOk_at (rightC_parts HDR.out).2.2 hko
      rw [HGL.out (), HNN.out ()] at hob
      obtain ⟨ad, rfl, hab, o0⟩ := (HD.out.up BX.out).outs.int hlt
      have HST : Hid (∀ _ : Unit, needOuts d (k + 1) = (needOuts d k).set (d.outs.getD k 0).toNat true) := fun _ => rfl
      generalize d.outs.getD k 0 = z at hob o0 HST
      obtain ⟨p, rfl⟩ : ∃ p : Nat, z = (p : Int) := ⟨z.toNat, by omega⟩
      have hp1 : (p : Int) < (NN : Int) := hob.2
      have hl := HLN.out k
      generalize needOuts d k = l at RN HST hl
      have hcell : wr.cell? ⟨w5.heap.size, p, none⟩ = some (.bool (l.getD p false)) := by rw [RN.out.cell]; exact bools_get l p (by omega)
      have hfr : wr.frozen? ⟨w5.heap.size, p, none⟩ = false := RN.out.frozen p
      have hbz := RN.out.lt
      clear hob hl hko
      go_wp2_with fail
      go_roundg (on - (k + 1))
      case measure => omega
      case rel =>
        exact ⟨k + 1, by omega, by omega, by go_num, BX.out.setCell (p := ⟨w5.heap.size, p, none⟩) (by show w3.heap.size ≤ w5.heap.size; omega) _, RD.out.far (p := ⟨w5.heap.size, p, none⟩) (by show w3.heap.size ≠ w5.heap.size; omega) _, by rw [HST.out (), ← boolsZ_set, Int.toNat_natCast]; exact RN.out.set p _⟩
    · have hlz : ¬ (k : Int) < (on : Int) := by omega
      obtain rfl : on = k := by omega
      have he0 : needTo d 0 = needOuts d on := by rw [needTo, HOL.out ()]
      have RN7 : Hid (Row wr w5.heap.size 4 (bools (needTo d 0))) := (by show Row _ _ _ _; rw [he0]; exact RN.out)
      clear he0
      have RD7 : Hid (Row wr w3.heap.size 25 [.int .i64 d.inputs, .slice DA dn dc, .slice EA on ec]) := RD.out
      have BX7 : Hid (Below w3.heap.size w3 wr) := BX.out
      clear RD BX RN hgg hlz HLN
      revert RN7 RD7 BX7
      generalize wr = w7
      intro RN7 RD7 BX7
      have e0 := RD7.out.cell 0
      have e1 := RD7.out.cell 1
      have e2 := RD7.out.cell 2
      have el := RD7.out.lt
      simp only [List.getElem?_cons_zero, List.getElem?_cons_succ] at e0 e1 e2
      go_wp2_with fail
      clear e0 e1 e2 el
      go_loopg [7, 8, 9] dn (fun gg s7 _ _ wr => ∃ (j : Nat) (z : Int), j ≤ dn ∧ dn - j ≤ gg ∧ s7 = .int .i64 z ∧ z = (dn : Int) - 1 - (j : Int) ∧ Aside (Below w3.heap.size w3 wr) ∧ Aside (Row wr w3.heap.size 25 [.int .i64 d.inputs, .slice DA dn dc, .slice EA on ec]) ∧ Aside (Row wr w5.heap.size 4 (bools (needTo d j))))
      case atStart => exact ⟨0, _, Nat.zero_le _, by omega, rfl, by omega, BX7.out, RD7.out, RN7.out⟩
      case round =>
        clear RD7 BX7 RN7
        obtain ⟨j, z, hj, hgg, rfl, hz, BX, RD, RN⟩ := hrel
        by_cases hlt : j < dn
        · obtain ⟨i, rfl⟩ : ∃ i : Nat, z = (i : Int) := ⟨z.toNat, by omega⟩
          have hij : i + j + 1 = dn := by omega
          clear hz
          have hig : i < dn := by omega
          have hge : (0 : Int) ≤ (i : Int) := by omega
          have hlz : (i : Int) < (dn : Int) := by omega
          have hkc : i < d.gates.length := by rw [HGL.out ()]; exact hig
          obtain ⟨ad, rfl, hab, c0, c1, c2⟩ := (HD.out.up BX.out).gates.gate hig
          have hgo := gateAt_ok HDR.out hkc
          have hie : d.gates.length - 1 - j = i := by rw [HGL.out ()]; omega
          have hjd : j < d.gates.length := by rw [HGL.out ()]; exact hlt
          have hned := HFX.out.need i hkc
          have hST := needG_on HDR.out hjd (by rw [hie]; exact hned)
          have hEA := need_early HDR.out hjd (by rw [hie]; exact hned)
          rw [hie] at hST hEA
          have HST : Hid (∀ _ : Unit, needTo d (j + 1) = if 3 ≤ (gateAt d i).op then setT (setT (needTo d j) (gateAt d i).a) (gateAt d i).b else if 2 ≤ (gateAt d i).op then setT (needTo d j) (gateAt d i).a else needTo d j) := fun _ => hST
          have hform := form_at HDR.out HFX.out hkc
          have HFO : Hid (∀ _ : Unit, (2 ≤ (gateAt d i).op → constW d (gateAt d i).a = false ∧ ((gateAt d i).op = 2 → notW d (gateAt d i).a < 0)) ∧ (3 ≤ (gateAt d i).op → constW d (gateAt d i).b = false ∧ (gateAt d i).a ≠ (gateAt d i).b ∧ notW d (gateAt d i).a ≠ (gateAt d i).b ∧ notW d (gateAt d i).b ≠ (gateAt d i).a)) := fun _ => hform
          have HKN : Hid (∀ k, k < i → gtEq (gateAt d k) (gateAt d i) = false) := fun k hk => by
            cases hq : gtEq (gateAt d k) (gateAt d i) with
            | false => rfl
            | true => exact absurd ((gtEq_iff _ _).1 hq) (HFX.out.known i hkc k hk)
          change wr.cell? _ = some (.int .i64 (gateAt d i).op) at c0
          change wr.cell? _ = some (.int .i64 (gateAt d i).a) at c1
          change wr.cell? _ = some (.int .i64 (gateAt d i).b) at c2
          have hl := HLT.out j
          have hNN2 := HNN.out ()
          clear hST hform hned hie hjd hkc
          generalize gateAt d i = g at c0 c1 c2 hgo HST HFO HKN
          generalize needTo d j = l at RN HST hl hEA
          obtain ⟨op, x, y⟩ := g
          obtain ⟨hop, hha, hhb, -, -⟩ := gateOk_parts hgo
          dsimp only at hop hha hhb c0 c1 c2 HFO HST
          obtain ⟨ni, hni⟩ : ∃ ni : Nat, d.inputs + (i : Int) = (ni : Int) := ⟨(d.inputs + (i : Int)).toNat, by omega⟩
          have hni1 : (ni : Int) < (NN : Int) := by omega
          have hw1 : IntKind.i64.wrap (d.inputs + (i : Int)) = (ni : Int) := by rw [hni]; exact IntWalk.i64_in _ (by omega)
          unfold needAt at hEA
          rw [hni, Int.toNat_natCast] at hEA
          have hcell : wr.cell? ⟨w5.heap.size, ni, none⟩ = some (.bool (l.getD ni false)) := by rw [RN.out.cell]; exact bools_get l ni (by omega)
          rw [hEA] at hcell
          have hbz := RN.out.lt
          have hbw : w5.heap.size < wr.heap.size := RN.out.lt
          have HA : Hid (∀ _ : Unit, 2 ≤ op → 0 ≤ x ∧ x < (NN : Int) ∧ x < d.inputs + (dn : Int)) := fun _ h => by have := hha h; omega
          have HB2 : Hid (∀ _ : Unit, 3 ≤ op → 0 ≤ y ∧ y < (NN : Int) ∧ y < d.inputs + (dn : Int)) := fun _ h => by have := hhb h; omega
          have HLL : Hid (∀ _ : Unit, l.length = NN) := fun _ => hl
          have HOP : Hid (∀ _ : Unit, op = 0 ∨ op = 1 ∨ op = 2 ∨ op = 3 ∨ op = 4 ∨ op = 5) := fun _ => hop
          clear hl hgo hop hha hhb hNN2 hni hEA
          have hs9 := BX.out.size
          have e0 := RD.out.cell 0
          have e1 := RD.out.cell 1
          have e2 := RD.out.cell 2
          have el := RD.out.lt
          simp only [List.getElem?_cons_zero, List.getElem?_cons_succ] at e0 e1 e2
          go_upto_region 16 with fail
          clear e0 e1 e2 el c0 c1 c2
          have RB8 : Hid (Row (World.alloc wr (.cells #[.int .i64 op, .int .i64 x, .int .i64 y] 32)) wr.heap.size 32 [.int .i64 op, .int .i64 x, .int .i64 y]) := Row.new wr 32 [.int .i64 op, .int .i64 x, .int .i64 y]
          have RD8 : Hid (Row (World.alloc wr (.cells #[.int .i64 op, .int .i64 x, .int .i64 y] 32)) w3.heap.size 25 [.int .i64 d.inputs, .slice (some ad) dn dc, .slice EA on ec]) := RD.out.alloc _
          have RN8 : Hid (Row (World.alloc wr (.cells #[.int .i64 op, .int .i64 x, .int .i64 y] 32)) w5.heap.size 4 (bools (l))) := RN.out.alloc _
          have BX8 : Hid (Below w3.heap.size w3 (World.alloc wr (.cells #[.int .i64 op, .int .i64 x, .int .i64 y] 32))) := BX.out.alloc hs9 _
          have hcell : (World.alloc wr (.cells #[.int .i64 op, .int .i64 x, .int .i64 y] 32)).cell? ⟨w5.heap.size, ni, none⟩ = some (.bool true) := (World.cell?_alloc_lt wr _ _ hbz).trans hcell
          have hbz : w5.heap.size < (World.alloc wr (.cells #[.int .i64 op, .int .i64 x, .int .i64 y] 32)).heap.size := RN8.out.lt
          clear RD RN BX
          revert RB8 RD8 RN8 BX8 hcell hbz hs9 hbw
          generalize (World.alloc wr (.cells #[.int .i64 op, .int .i64 x, .int .i64 y] 32)) = w8
          generalize wr.heap.size = bg
          intro hbw hbg RB8 RD8 RN8 BX8 hcell hbz
          have e0 := RD8.out.cell 0
          have e1 := RD8.out.cell 1
          have e2 := RD8.out.cell 2
          have el := RD8.out.lt
          simp only [List.getElem?_cons_zero, List.getElem?_cons_succ] at e0 e1 e2
          go_wp2_with fail
          clear e0 e1 e2 el hcell
          go_loopg [9, 80] i (fun gg _ s80 wr => ∃ k : Nat, k ≤ i ∧ i - k ≤ gg ∧ s80 = .int .i64 k ∧ Aside (Below w3.heap.size w3 wr) ∧ Aside (Row wr w3.heap.size 25 [.int .i64 d.inputs, .slice (some ad) dn dc, .slice EA on ec]) ∧ Aside (Row wr w5.heap.size 4 (bools (l))) ∧ Aside (Row wr bg 32 [.int .i64 op, .int .i64 x, .int .i64 y]))
          case atStart => exact ⟨0, Nat.zero_le _, by omega, rfl, BX8.out, RD8.out, RN8.out, RB8.out⟩
          case round =>
            clear RD8 RN8 BX8 RB8
            obtain ⟨k, hk, hgg2, rfl, BX, RD, RN, RB⟩ := hrel
            by_cases hki : k < i
            · have hkz : (k : Int) < (i : Int) := by omega
              have hkd : (k : Int) < (dn : Int) := by omega
              obtain ⟨ad2, had2, hab2, c0, c1, c2⟩ := (HD.out.up BX.out).gates.gate (show k < dn by omega)
              cases had2
              have hE := gate_eqlZ (d.gates.getD k default) ⟨op, x, y⟩
              have hkn : gtEq (d.gates.getD k default) ⟨op, x, y⟩ = false := HKN.out k hki
              rw [hkn] at hE
              generalize d.gates.getD k default = gt at c0 c1 c2 hE
              clear hkn
              dsimp only at hE
              have e0 := RD.out.cell 0
              have e1 := RD.out.cell 1
              have e2 := RD.out.cell 2
              have el := RD.out.lt
              simp only [List.getElem?_cons_zero, List.getElem?_cons_succ] at e0 e1 e2
              have r0 := RB.out.cell 0
              have r1 := RB.out.cell 1
              have r2 := RB.out.cell 2
              have rl := RB.out.lt
              simp only [List.getElem?_cons_zero, List.getElem?_cons_succ] at r0 r1 r2
              go_wp2_with fail
              go_quiet (fail)
              go_wp2_with fail
              go_roundg (i - (k + 1))
              case measure => omega
              case rel => exact ⟨k + 1, by omega, by omega, by go_num, below_drewN BX.out _, RD.out, RN.out, RB.out⟩
            · have hkz : ¬ (k : Int) < (i : Int) := by omega
              obtain rfl : i = k := by omega
              have BX9 : Hid (Below w3.heap.size w3 wr) := BX.out
              have RD9 : Hid (Row wr w3.heap.size 25 [.int .i64 d.inputs, .slice (some ad) dn dc, .slice EA on ec]) := RD.out
              have RN9 : Hid (Row wr w5.heap.size 4 (bools (l))) := RN.out
              have RB9 : Hid (Row wr bg 32 [.int .i64 op, .int .i64 x, .int .i64 y]) := RB.out
              clear BX RD RN RB hgg2 hkz hk
              revert BX9 RD9 RN9 RB9
              generalize wr = w9
              intro BX9 RD9 RN9 RB9
              have hbg2 : bg < w5.heap.size ∨ w5.heap.size < bg := by omega
              by_cases h01 : op < 2
              · have HS : Hid (∀ _ : Unit, needTo d (j + 1) = l) := fun _ => by rw [HST.out (), if_neg (by omega), if_neg (by omega)]
                have hop0 : op = 0 ∨ op = 1 := by have := HOP.out (); omega
                clear h01
                have r0 := RB9.out.cell 0
                have r1 := RB9.out.cell 1
                have r2 := RB9.out.cell 2
                have rl := RB9.out.lt
                simp only [List.getElem?_cons_zero, List.getElem?_cons_succ] at r0 r1 r2
                rcases hop0 with rfl | rfl
                · skip
                  go_wp2_with fail
                  go_roundg (dn - (j + 1))
                  case measure => omega
                  case rel => exact ⟨j + 1, _, by omega, by omega, rfl, by omega, BX9.out, RD9.out, by rw [HS.out ()]; exact RN9.out⟩
                · skip
                  go_wp2_with fail
                  go_roundg (dn - (j + 1))
                  case measure => omega
                  case rel => exact ⟨j + 1, _, by omega, by omega, rfl, by omega, BX9.out, RD9.out, by rw [HS.out ()]; exact RN9.out⟩
              · have h2 : 2 ≤ op := by omega
                obtain ⟨hx0, hx1, hx2⟩ := HA.out () h2
                obtain ⟨px, rfl⟩ : ∃ px : Nat, x = (px : Int) := ⟨x.toNat, by omega⟩
                clear hx0
                have HXL : Hid (∀ _ : Unit, (px : Int) < d.inputs + (dn : Int)) := fun _ => hx2
                have HCX : Hid (constW d (px : Int) = false) := ((HFO.out ()).1 h2).1
                clear hx2
                by_cases hop2 : op = 2
                · have HS : Hid (∀ _ : Unit, needTo d (j + 1) = l.set px true) := fun _ => by rw [HST.out (), if_neg (by omega), if_pos h2]; unfold setT; rw [Int.toNat_natCast]
                  have HNX : Hid (notW d (px : Int) < 0) := ((HFO.out ()).1 h2).2 hop2
                  subst hop2
                  clear h01 h2 HST HFO HOP
                  have r0 := RB9.out.cell 0
                  have r1 := RB9.out.cell 1
                  have r2 := RB9.out.cell 2
                  have rl := RB9.out.lt
                  simp only [List.getElem?_cons_zero, List.getElem?_cons_succ] at r0 r1 r2
                  have cx : w9.cell? ⟨w5.heap.size, px, none⟩ = some (.bool ((l).getD px false)) := by rw [RN9.out.cell]; exact bools_get _ px (by (try rw [List.length_set]); rw [HLL.out ()]; omega)
                  have cxf : w9.frozen? ⟨w5.heap.size, px, none⟩ = false := RN9.out.frozen px
                  have cxl := RN9.out.lt
                  go_upto_region 26 with fail
                  clear r0 r1 r2 rl cx cxf cxl
                  have BX10 : Hid (Below w3.heap.size w3 (World.setCell w9 ⟨w5.heap.size, px, none⟩ (.bool true))) := BX9.out.setCell (p := ⟨w5.heap.size, px, none⟩) (by show w3.heap.size ≤ w5.heap.size; omega) _
                  have RD10 : Hid (Row (World.setCell w9 ⟨w5.heap.size, px, none⟩ (.bool true)) w3.heap.size 25 [.int .i64 d.inputs, .slice (some ad) dn dc, .slice EA on ec]) := RD9.out.far (p := ⟨w5.heap.size, px, none⟩) (by show w3.heap.size ≠ w5.heap.size; omega) _
                  have RN10 : Hid (Row (World.setCell w9 ⟨w5.heap.size, px, none⟩ (.bool true)) w5.heap.size 4 (bools ((l).set px true))) := (by show Row _ _ _ _; rw [← boolsZ_set]; exact RN9.out.set px _)
                  have RB10 : Hid (Row (World.setCell w9 ⟨w5.heap.size, px, none⟩ (.bool true)) bg 32 [.int .i64 2, .int .i64 (px : Int), .int .i64 y]) := RB9.out.far (p := ⟨w5.heap.size, px, none⟩) (by show bg ≠ w5.heap.size; omega) _
                  clear BX9 RD9 RN9 RB9
                  revert BX10 RD10 RN10 RB10
                  generalize (World.setCell w9 ⟨w5.heap.size, px, none⟩ (.bool true)) = w10
                  intro BX10 RD10 RN10 RB10
                  have r0 := RB10.out.cell 0
                  have r1 := RB10.out.cell 1
                  have r2 := RB10.out.cell 2
                  have rl := RB10.out.lt
                  simp only [List.getElem?_cons_zero, List.getElem?_cons_succ] at r0 r1 r2
                  have e0 := RD10.out.cell 0
                  have e1 := RD10.out.cell 1
                  have e2 := RD10.out.cell 2
                  have el := RD10.out.lt
                  simp only [List.getElem?_cons_zero, List.getElem?_cons_succ] at e0 e1 e2
                  go_wp2_with fail
                  clear r0 r1 r2 rl e0 e1 e2 el
                  have HC := constZ_any d (some ad) EA dn dc on ec (px : Int) w10 (HD.out.up BX10.out) ⟨hn0, hn1⟩ hg0 (HXL.out ()) (Int.natCast_nonneg _)
                  rw [HCX.out] at HC
                  refine HC.mono ?_
                  clear HC
                  rintro e w11 ⟨rfl, hb⟩
                  have BX11 : Hid (Below w3.heap.size w3 w11) := below_on2 BX10.out hb
                  have RD11 : Hid (Row w11 w3.heap.size 25 [.int .i64 d.inputs, .slice (some ad) dn dc, .slice EA on ec]) := rowCells RD10.out hb
                  have RN11 : Hid (Row w11 w5.heap.size 4 (bools (l.set px true))) := rowCells RN10.out hb
                  have RB11 : Hid (Row w11 bg 32 [.int .i64 2, .int .i64 (px : Int), .int .i64 y]) := rowCells RB10.out hb
                  clear hb BX10 RD10 RN10 RB10
                  have r0 := RB11.out.cell 0
                  have r1 := RB11.out.cell 1
                  have r2 := RB11.out.cell 2
                  have rl := RB11.out.lt
                  simp only [List.getElem?_cons_zero, List.getElem?_cons_succ] at r0 r1 r2
                  have e0 := RD11.out.cell 0
                  have e1 := RD11.out.cell 1
                  have e2 := RD11.out.cell 2
                  have el := RD11.out.lt
                  simp only [List.getElem?_cons_zero, List.getElem?_cons_succ] at e0 e1 e2
                  go_wp2_with fail
                  clear r0 r1 r2 rl e0 e1 e2 el
                  have HC := notZ_any d (some ad) EA dn dc on ec (px : Int) w11 (HD.out.up BX11.out) ⟨hn0, hn1⟩ hg0 (HXL.out ()) (Int.natCast_nonneg _)
                  have hnv := HNX.out
                  generalize notW d (px : Int) = nv at HC hnv
                  refine HC.mono ?_
                  clear HC
                  rintro e w12 ⟨rfl, hb⟩
                  have hnv2 : decide ((0 : Int) ≤ nv) = false := decide_eq_false (by omega)
                  clear hnv
                  have BX12 : Hid (Below w3.heap.size w3 w12) := below_on2 BX11.out hb
                  have RD12 : Hid (Row w12 w3.heap.size 25 [.int .i64 d.inputs, .slice (some ad) dn dc, .slice EA on ec]) := rowCells RD11.out hb
                  have RN12 : Hid (Row w12 w5.heap.size 4 (bools (l.set px true))) := rowCells RN11.out hb
                  have RB12 : Hid (Row w12 bg 32 [.int .i64 2, .int .i64 (px : Int), .int .i64 y]) := rowCells RB11.out hb
                  clear hb BX11 RD11 RN11 RB11
                  have r0 := RB12.out.cell 0
                  have r1 := RB12.out.cell 1
                  have r2 := RB12.out.cell 2
                  have rl := RB12.out.lt
                  simp only [List.getElem?_cons_zero, List.getElem?_cons_succ] at r0 r1 r2
                  go_wp2_with fail
                  go_roundg (dn - (j + 1))
                  case measure => omega
                  case rel => exact ⟨j + 1, _, by omega, by omega, rfl, by omega, BX12.out, RD12.out, by rw [HS.out ()]; exact RN12.out⟩
                · have h3 : 3 ≤ op := by omega
                  obtain ⟨hy0, hy1, hy2⟩ := HB2.out () h3
                  obtain ⟨py, rfl⟩ : ∃ py : Nat, y = (py : Int) := ⟨y.toNat, by omega⟩
                  clear hy0
                  have HYL : Hid (∀ _ : Unit, (py : Int) < d.inputs + (dn : Int)) := fun _ => hy2
                  have HS : Hid (∀ _ : Unit, needTo d (j + 1) = (l.set px true).set py true) := fun _ => by rw [HST.out (), if_pos h3]; unfold setT; rw [Int.toNat_natCast, Int.toNat_natCast]
                  obtain ⟨hcy, hne, hnx, hny⟩ := (HFO.out ()).2 h3
                  have HCY : Hid (constW d (py : Int) = false) := hcy
                  have HNE : Hid (¬ (px : Int) = (py : Int)) := hne
                  have HNX : Hid (¬ notW d (px : Int) = (py : Int)) := hnx
                  have HNY : Hid (¬ notW d (py : Int) = (px : Int)) := hny
                  have o0 : (op == 0) = false := by simp; omega
                  have o1 : (op == 1) = false := by simp; omega
                  have o2 : (op == 2) = false := by simp; omega
                  have d0 : decide (op = 0) = false := decide_eq_false (by omega)
                  have d1 : decide (op = 1) = false := decide_eq_false (by omega)
                  have d2 : decide (op = 2) = false := decide_eq_false (by omega)
                  clear hcy hne hnx hny h01 h2 h3 hop2 hy2 HST HFO HOP
                  have r0 := RB9.out.cell 0
                  have r1 := RB9.out.cell 1
                  have r2 := RB9.out.cell 2
                  have rl := RB9.out.lt
                  simp only [List.getElem?_cons_zero, List.getElem?_cons_succ] at r0 r1 r2
                  have cx : w9.cell? ⟨w5.heap.size, px, none⟩ = some (.bool ((l).getD px false)) := by rw [RN9.out.cell]; exact bools_get _ px (by (try rw [List.length_set]); rw [HLL.out ()]; omega)
                  have cxf : w9.frozen? ⟨w5.heap.size, px, none⟩ = false := RN9.out.frozen px
                  have cxl := RN9.out.lt
                  go_upto_region 26 with fail
                  clear r0 r1 r2 rl cx cxf cxl
                  have BX10 : Hid (Below w3.heap.size w3 (World.setCell w9 ⟨w5.heap.size, px, none⟩ (.bool true))) := BX9.out.setCell (p := ⟨w5.heap.size, px, none⟩) (by show w3.heap.size ≤ w5.heap.size; omega) _
                  have RD10 : Hid (Row (World.setCell w9 ⟨w5.heap.size, px, none⟩ (.bool true)) w3.heap.size 25 [.int .i64 d.inputs, .slice (some ad) dn dc, .slice EA on ec]) := RD9.out.far (p := ⟨w5.heap.size, px, none⟩) (by show w3.heap.size ≠ w5.heap.size; omega) _
                  have RN10 : Hid (Row (World.setCell w9 ⟨w5.heap.size, px, none⟩ (.bool true)) w5.heap.size 4 (bools ((l).set px true))) := (by show Row _ _ _ _; rw [← boolsZ_set]; exact RN9.out.set px _)
                  have RB10 : Hid (Row (World.setCell w9 ⟨w5.heap.size, px, none⟩ (.bool true)) bg 32 [.int .i64 op, .int .i64 (px : Int), .int .i64 (py : Int)]) := RB9.out.far (p := ⟨w5.heap.size, px, none⟩) (by show bg ≠ w5.heap.size; omega) _
                  clear BX9 RD9 RN9 RB9
                  revert BX10 RD10 RN10 RB10
                  generalize (World.setCell w9 ⟨w5.heap.size, px, none⟩ (.bool true)) = w10
                  intro BX10 RD10 RN10 RB10
                  have r0 := RB10.out.cell 0
                  have r1 := RB10.out.cell 1
                  have r2 := RB10.out.cell 2
                  have rl := RB10.out.lt
                  simp only [List.getElem?_cons_zero, List.getElem?_cons_succ] at r0 r1 r2
                  have e0 := RD10.out.cell 0
                  have e1 := RD10.out.cell 1
                  have e2 := RD10.out.cell 2
                  have el := RD10.out.lt
                  simp only [List.getElem?_cons_zero, List.getElem?_cons_succ] at e0 e1 e2
                  go_wp2_with fail
                  clear r0 r1 r2 rl e0 e1 e2 el
                  have HC := constZ_any d (some ad) EA dn dc on ec (px : Int) w10 (HD.out.up BX10.out) ⟨hn0, hn1⟩ hg0 (HXL.out ()) (Int.natCast_nonneg _)
                  rw [HCX.out] at HC
                  refine HC.mono ?_
                  clear HC
                  rintro e w11 ⟨rfl, hb⟩
                  have BX11 : Hid (Below w3.heap.size w3 w11) := below_on2 BX10.out hb
                  have RD11 : Hid (Row w11 w3.heap.size 25 [.int .i64 d.inputs, .slice (some ad) dn dc, .slice EA on ec]) := rowCells RD10.out hb
                  have RN11 : Hid (Row w11 w5.heap.size 4 (bools (l.set px true))) := rowCells RN10.out hb
                  have RB11 : Hid (Row w11 bg 32 [.int .i64 op, .int .i64 (px : Int), .int .i64 (py : Int)]) := rowCells RB10.out hb
                  clear hb BX10 RD10 RN10 RB10
                  have r0 := RB11.out.cell 0
                  have r1 := RB11.out.cell 1
                  have r2 := RB11.out.cell 2
                  have rl := RB11.out.lt
                  simp only [List.getElem?_cons_zero, List.getElem?_cons_succ] at r0 r1 r2
                  have cx : w11.cell? ⟨w5.heap.size, py, none⟩ = some (.bool ((l.set px true).getD py false)) := by rw [RN11.out.cell]; exact bools_get _ py (by (try rw [List.length_set]); rw [HLL.out ()]; omega)
                  have cxf : w11.frozen? ⟨w5.heap.size, py, none⟩ = false := RN11.out.frozen py
                  have cxl := RN11.out.lt
                  go_upto_region 30 with fail
                  clear r0 r1 r2 rl cx cxf cxl
                  have BX12 : Hid (Below w3.heap.size w3 (World.setCell w11 ⟨w5.heap.size, py, none⟩ (.bool true))) := BX11.out.setCell (p := ⟨w5.heap.size, py, none⟩) (by show w3.heap.size ≤ w5.heap.size; omega) _
                  have RD12 : Hid (Row (World.setCell w11 ⟨w5.heap.size, py, none⟩ (.bool true)) w3.heap.size 25 [.int .i64 d.inputs, .slice (some ad) dn dc, .slice EA on ec]) := RD11.out.far (p := ⟨w5.heap.size, py, none⟩) (by show w3.heap.size ≠ w5.heap.size; omega) _
                  have RN12 : Hid (Row (World.setCell w11 ⟨w5.heap.size, py, none⟩ (.bool true)) w5.heap.size 4 (bools ((l.set px true).set py true))) := (by show Row _ _ _ _; rw [← boolsZ_set]; exact RN11.out.set py _)
                  have RB12 : Hid (Row (World.setCell w11 ⟨w5.heap.size, py, none⟩ (.bool true)) bg 32 [.int .i64 op, .int .i64 (px : Int), .int .i64 (py : Int)]) := RB11.out.far (p := ⟨w5.heap.size, py, none⟩) (by show bg ≠ w5.heap.size; omega) _
                  clear BX11 RD11 RN11 RB11
                  revert BX12 RD12 RN12 RB12
                  generalize (World.setCell w11 ⟨w5.heap.size, py, none⟩ (.bool true)) = w12
                  intro BX12 RD12 RN12 RB12
                  have HD12 : Hid (CAt w12 d (some ad) EA dn on) := HD.out.up BX12.out
                  have p0 : decide ((px : Int) = (py : Int)) = false := decide_eq_false HNE.out
                  have p1 : ((px : Int) == (py : Int)) = false := by simpa using HNE.out
                  have p2 : decide (px = py) = false := decide_eq_false (fun h => HNE.out (by rw [h]))
                  have p3 : (px == py) = false := by simpa using (fun h => HNE.out (by rw [h]))
                  obtain ⟨nx, hnx⟩ : ∃ nx, notW d (px : Int) = nx := ⟨_, rfl⟩
                  obtain ⟨ny, hny⟩ : ∃ ny, notW d (py : Int) = ny := ⟨_, rfl⟩
                  have q0 : decide (nx = (py : Int)) = false := decide_eq_false (by rw [← hnx]; exact HNX.out)
                  have q1 : (nx == (py : Int)) = false := beq_eq_false_iff_ne.2 (by rw [← hnx]; exact HNX.out)
                  have q2 : decide (ny = (px : Int)) = false := decide_eq_false (by rw [← hny]; exact HNY.out)
                  have q3 : (ny == (px : Int)) = false := beq_eq_false_iff_ne.2 (by rw [← hny]; exact HNY.out)
                  have HQX : Hid (∀ _ : Unit, notW d (px : Int) = nx) := fun _ => hnx
                  have HQY : Hid (∀ _ : Unit, notW d (py : Int) = ny) := fun _ => hny
                  have hu : undef = Value.tuple #[] := rfl
                  clear hnx hny
                  refine wp_region_L (fun w' => Row w' (w3.heap.size) 25 [.int .i64 d.inputs, .slice (some ad) dn dc, .slice EA on ec] ∧ Row w' (bg) 32 [.int .i64 op, .int .i64 (px : Int), .int .i64 (py : Int)]) [] (by kernel_rfl) (by exact ⟨Row.drew RD12.out, Row.drew RB12.out⟩) (fun hHeld => ?_)
                  have B_w12 : Hid (Below w12.heap.size w12 (World.drew w12)) := (Below.refl _ _).drew
                  revert hHeld B_w12
                  generalize World.drew w12 = w12q
                  intro hHeld B_w12
                  refine restL_pure (i := 1) (v := ?vo1) rfl (by kernel_rfl) (by kernel_rfl) (by kernel_rfl) (fun _ _ _ h => h) (Or.inl ⟨by rfl, ?yo1⟩) ?ro1
                  case yo1 => intro w' hSw; clear hSw; go_simp; try (with_reducible rfl)
                  go_simp
                  refine restL_take (i := 0) (v := ?vo2) [] rfl (by kernel_rfl) (by kernel_rfl) (by kernel_rfl) (by kernel_rfl) (fun _ _ _ h => h) (Or.inl ⟨by rfl, ?yo2⟩) hHeld ?ro2
                  case yo2 =>
                    intro w' hSw
                    obtain ⟨s0, s1⟩ := hSw
                    have hT0 : Hid (Row w' (w3.heap.size) 25 [.int .i64 d.inputs, .slice (some ad) dn dc, .slice EA on ec]) := s0
                    have z0_0 := hT0.out.cell 0
                    have z0_1 := hT0.out.cell 1
                    have z0_2 := hT0.out.cell 2
                    have z0_l := hT0.out.lt
                    simp only [List.getElem?_cons_zero, List.getElem?_cons_succ] at z0_0 z0_1 z0_2
                    have hT1 : Hid (Row w' (bg) 32 [.int .i64 op, .int .i64 (px : Int), .int .i64 (py : Int)]) := s1
                    have z1_0 := hT1.out.cell 0
                    have z1_1 := hT1.out.cell 1
                    have z1_2 := hT1.out.cell 2
                    have z1_l := hT1.out.lt
                    simp only [List.getElem?_cons_zero, List.getElem?_cons_succ] at z1_0 z1_1 z1_2
                    clear s0 s1
                    go_simp
                    try (with_reducible rfl)
                  go_simp
                  refine restL_take (i := 2) (v := ?vo3) [] rfl (by kernel_rfl) (by kernel_rfl) (by kernel_rfl) (by kernel_rfl) (fun _ _ _ h => h) (Or.inl ⟨by rfl, ?yo3⟩) hHeld ?ro3
                  case yo3 =>
                    intro w' hSw
                    obtain ⟨s0, s1⟩ := hSw
                    have hT0 : Hid (Row w' (w3.heap.size) 25 [.int .i64 d.inputs, .slice (some ad) dn dc, .slice EA on ec]) := s0
                    have z0_0 := hT0.out.cell 0
                    have z0_1 := hT0.out.cell 1
                    have z0_2 := hT0.out.cell 2
                    have z0_l := hT0.out.lt
                    simp only [List.getElem?_cons_zero, List.getElem?_cons_succ] at z0_0 z0_1 z0_2
                    have hT1 : Hid (Row w' (bg) 32 [.int .i64 op, .int .i64 (px : Int), .int .i64 (py : Int)]) := s1
                    have z1_0 := hT1.out.cell 0
                    have z1_1 := hT1.out.cell 1
                    have z1_2 := hT1.out.cell 2
                    have z1_l := hT1.out.lt
                    simp only [List.getElem?_cons_zero, List.getElem?_cons_succ] at z1_0 z1_1 z1_2
                    clear s0 s1
                    go_simp
                    try (with_reducible rfl)
                  go_simp
                  refine restL_one (i := 3) (by kernel_rfl) rfl (fun K hK => ?_)
                  go_simp
                  go_at_call 22
                  have HC := constZ_any d (some ad) EA dn dc on ec (py : Int) w12q (HD12.out.up B_w12.out) ⟨hn0, hn1⟩ hg0 (HYL.out ()) (Int.natCast_nonneg _)
                  rw [HCY.out] at HC
                  refine HC.mono ?_
                  clear HC
                  rintro e y1 ⟨rfl, hb⟩
                  clear hHeld
                  have B_w12 : Hid (Below w12.heap.size w12 y1) := below_on2 B_w12.out hb
                  have B_w12q : Hid (Below w12q.heap.size w12q y1) := hb
                  clear hb
                  refine hK.out _ _ (fun _ => ?keep) (fun hHeld => ?_)
                  case keep => exact ⟨(rowCells RD12.out B_w12.out), (rowCells RB12.out B_w12.out)⟩
                  have hHeld := hHeld rfl
                  clear hK K
                  try go_simp
                  refine restL_pure (i := 4) (v := ?vo4) rfl (by kernel_rfl) (by kernel_rfl) (by kernel_rfl) (fun _ _ _ h => h) (Or.inl ⟨by rfl, ?yo4⟩) ?ro4
                  case yo4 => intro w' hSw; clear hSw; go_simp; try (with_reducible rfl)
                  go_simp
                  refine restL_pure (i := 5) (v := ?vo5) rfl (by kernel_rfl) (by kernel_rfl) (by kernel_rfl) (fun _ _ _ h => h) (Or.inl ⟨by first | rfl | (go_simp; done), ?yo5⟩) ?ro5
                  case yo5 => intro w' hSw; clear hSw; go_simp; try (with_reducible rfl)
                  go_simp
                  refine restL_pure (i := 7) (v := ?vo6) rfl (by kernel_rfl) (by kernel_rfl) (by kernel_rfl) (fun _ _ _ h => h) (Or.inl ⟨by first | rfl | (go_simp; done), ?yo6⟩) ?ro6
                  case yo6 => intro w' hSw; clear hSw; go_simp; try (with_reducible rfl)
                  go_simp
                  refine restL_take (i := 6) (v := ?vo7) [] rfl (by kernel_rfl) (by kernel_rfl) (by kernel_rfl) (by kernel_rfl) (fun _ _ _ h => h) (Or.inl ⟨by first | rfl | (go_simp; done), ?yo7⟩) hHeld ?ro7
                  case yo7 =>
                    intro w' hSw
                    obtain ⟨s0, s1⟩ := hSw
                    have hT0 : Hid (Row w' (w3.heap.size) 25 [.int .i64 d.inputs, .slice (some ad) dn dc, .slice EA on ec]) := s0
                    have z0_0 := hT0.out.cell 0
                    have z0_1 := hT0.out.cell 1
                    have z0_2 := hT0.out.cell 2
                    have z0_l := hT0.out.lt
                    simp only [List.getElem?_cons_zero, List.getElem?_cons_succ] at z0_0 z0_1 z0_2
                    have hT1 : Hid (Row w' (bg) 32 [.int .i64 op, .int .i64 (px : Int), .int .i64 (py : Int)]) := s1
                    have z1_0 := hT1.out.cell 0
                    have z1_1 := hT1.out.cell 1
                    have z1_2 := hT1.out.cell 2
                    have z1_l := hT1.out.lt
                    simp only [List.getElem?_cons_zero, List.getElem?_cons_succ] at z1_0 z1_1 z1_2
                    clear s0 s1
                    go_simp
                    try (with_reducible rfl)
                  go_simp
                  refine restL_take (i := 8) (v := ?vo8) [] rfl (by kernel_rfl) (by kernel_rfl) (by kernel_rfl) (by kernel_rfl) (fun _ _ _ h => h) (Or.inl ⟨by first | rfl | (go_simp; done), ?yo8⟩) hHeld ?ro8
                  case yo8 =>
                    intro w' hSw
                    obtain ⟨s0, s1⟩ := hSw
                    have hT0 : Hid (Row w' (w3.heap.size) 25 [.int .i64 d.inputs, .slice (some ad) dn dc, .slice EA on ec]) := s0
                    have z0_0 := hT0.out.cell 0
                    have z0_1 := hT0.out.cell 1
                    have z0_2 := hT0.out.cell 2
                    have z0_l := hT0.out.lt
                    simp only [List.getElem?_cons_zero, List.getElem?_cons_succ] at z0_0 z0_1 z0_2
                    have hT1 : Hid (Row w' (bg) 32 [.int .i64 op, .int .i64 (px : Int), .int .i64 (py : Int)]) := s1
                    have z1_0 := hT1.out.cell 0
                    have z1_1 := hT1.out.cell 1
                    have z1_2 := hT1.out.cell 2
                    have z1_l := hT1.out.lt
                    simp only [List.getElem?_cons_zero, List.getElem?_cons_succ] at z1_0 z1_1 z1_2
                    clear s0 s1
                    go_simp
                    try (with_reducible rfl)
                  go_simp
                  refine restL_pure (i := 9) (v := ?vo9) rfl (by kernel_rfl) (by kernel_rfl) (by kernel_rfl) (fun _ _ _ h => h) (Or.inl ⟨by first | rfl | (go_simp; done), ?yo9⟩) ?ro9
                  case yo9 => intro w' hSw; clear hSw; go_simp; try (with_reducible rfl)
                  go_simp
                  refine restL_pure (i := 10) (v := ?vo10) rfl (by kernel_rfl) (by kernel_rfl) (by kernel_rfl) (fun _ _ _ h => h) (Or.inl ⟨by rfl, ?yo10⟩) ?ro10
                  case yo10 => intro w' hSw; clear hSw; go_simp; try (with_reducible rfl)
                  go_simp
                  refine restL_pure (i := 11) (v := ?vo11) rfl (by kernel_rfl) (by kernel_rfl) (by kernel_rfl) (fun _ _ _ h => h) (Or.inl ⟨by rfl, ?yo11⟩) ?ro11
                  case yo11 => intro w' hSw; clear hSw; go_simp; try (with_reducible rfl)
                  go_simp
                  refine restL_pure (i := 13) (v := ?vo12) rfl (by kernel_rfl) (by kernel_rfl) (by kernel_rfl) (fun _ _ _ h => h) (Or.inl ⟨by first | rfl | (go_simp; done), ?yo12⟩) ?ro12
                  case yo12 => intro w' hSw; clear hSw; go_simp; try (with_reducible rfl)
                  go_simp
                  refine restL_pure (i := 16) (v := ?vo13) rfl (by kernel_rfl) (by kernel_rfl) (by kernel_rfl) (fun _ _ _ h => h) (Or.inl ⟨by first | rfl | (go_simp; done), ?yo13⟩) ?ro13
                  case yo13 => intro w' hSw; clear hSw; go_simp; try (with_reducible rfl)
                  go_simp
                  refine restL_take (i := 12) (v := ?vo14) [] rfl (by kernel_rfl) (by kernel_rfl) (by kernel_rfl) (by kernel_rfl) (fun _ _ _ h => h) (Or.inl ⟨by first | rfl | (go_simp; done), ?yo14⟩) hHeld ?ro14
                  case yo14 =>
                    intro w' hSw
                    obtain ⟨s0, s1⟩ := hSw
                    have hT0 : Hid (Row w' (w3.heap.size) 25 [.int .i64 d.inputs, .slice (some ad) dn dc, .slice EA on ec]) := s0
                    have z0_0 := hT0.out.cell 0
                    have z0_1 := hT0.out.cell 1
                    have z0_2 := hT0.out.cell 2
                    have z0_l := hT0.out.lt
                    simp only [List.getElem?_cons_zero, List.getElem?_cons_succ] at z0_0 z0_1 z0_2
                    have hT1 : Hid (Row w' (bg) 32 [.int .i64 op, .int .i64 (px : Int), .int .i64 (py : Int)]) := s1
                    have z1_0 := hT1.out.cell 0
                    have z1_1 := hT1.out.cell 1
                    have z1_2 := hT1.out.cell 2
                    have z1_l := hT1.out.lt
                    simp only [List.getElem?_cons_zero, List.getElem?_cons_succ] at z1_0 z1_1 z1_2
                    clear s0 s1
                    go_simp
                    try (with_reducible rfl)
                  go_simp
                  refine restL_take (i := 14) (v := ?vo15) [] rfl (by kernel_rfl) (by kernel_rfl) (by kernel_rfl) (by kernel_rfl) (fun _ _ _ h => h) (Or.inl ⟨by first | rfl | (go_simp; done), ?yo15⟩) hHeld ?ro15
                  case yo15 =>
                    intro w' hSw
                    obtain ⟨s0, s1⟩ := hSw
                    have hT0 : Hid (Row w' (w3.heap.size) 25 [.int .i64 d.inputs, .slice (some ad) dn dc, .slice EA on ec]) := s0
                    have z0_0 := hT0.out.cell 0
                    have z0_1 := hT0.out.cell 1
                    have z0_2 := hT0.out.cell 2
                    have z0_l := hT0.out.lt
                    simp only [List.getElem?_cons_zero, List.getElem?_cons_succ] at z0_0 z0_1 z0_2
                    have hT1 : Hid (Row w' (bg) 32 [.int .i64 op, .int .i64 (px : Int), .int .i64 (py : Int)]) := s1
                    have z1_0 := hT1.out.cell 0
                    have z1_1 := hT1.out.cell 1
                    have z1_2 := hT1.out.cell 2
                    have z1_l := hT1.out.lt
                    simp only [List.getElem?_cons_zero, List.getElem?_cons_succ] at z1_0 z1_1 z1_2
                    clear s0 s1
                    go_simp
                    try (with_reducible rfl)
                  go_simp
                  refine restL_take (i := 17) (v := ?vo16) [] rfl (by kernel_rfl) (by kernel_rfl) (by kernel_rfl) (by kernel_rfl) (fun _ _ _ h => h) (Or.inl ⟨by first | rfl | (go_simp; done), ?yo16⟩) hHeld ?ro16
                  case yo16 =>
                    intro w' hSw
                    obtain ⟨s0, s1⟩ := hSw
                    have hT0 : Hid (Row w' (w3.heap.size) 25 [.int .i64 d.inputs, .slice (some ad) dn dc, .slice EA on ec]) := s0
                    have z0_0 := hT0.out.cell 0
                    have z0_1 := hT0.out.cell 1
                    have z0_2 := hT0.out.cell 2
                    have z0_l := hT0.out.lt
                    simp only [List.getElem?_cons_zero, List.getElem?_cons_succ] at z0_0 z0_1 z0_2
                    have hT1 : Hid (Row w' (bg) 32 [.int .i64 op, .int .i64 (px : Int), .int .i64 (py : Int)]) := s1
                    have z1_0 := hT1.out.cell 0
                    have z1_1 := hT1.out.cell 1
                    have z1_2 := hT1.out.cell 2
                    have z1_l := hT1.out.lt
                    simp only [List.getElem?_cons_zero, List.getElem?_cons_succ] at z1_0 z1_1 z1_2
                    clear s0 s1
                    go_simp
                    try (with_reducible rfl)
                  go_simp
                  refine restL_one (i := 15) (by kernel_rfl) rfl (fun K hK => ?_)
                  go_simp
                  go_at_call 23
                  have HC := notZ_any d (some ad) EA dn dc on ec (px : Int) y1 (HD12.out.up B_w12.out) ⟨hn0, hn1⟩ hg0 (HXL.out ()) (Int.natCast_nonneg _)
                  rw [HQX.out ()] at HC
                  refine HC.mono ?_
                  clear HC
                  rintro e y2 ⟨rfl, hb⟩
                  clear hHeld
                  have B_w12 : Hid (Below w12.heap.size w12 y2) := below_on2 B_w12.out hb
                  have B_w12q : Hid (Below w12q.heap.size w12q y2) := below_on2 B_w12q.out hb
                  have B_y1 : Hid (Below y1.heap.size y1 y2) := hb
                  clear hb
                  refine hK.out _ _ (fun _ => ?keep) (fun hHeld => ?_)
                  case keep => exact ⟨(rowCells RD12.out B_w12.out), (rowCells RB12.out B_w12.out)⟩
                  have hHeld := hHeld rfl
                  clear hK K
                  try go_simp
                  refine restL_pure (i := 18) (v := ?vo17) rfl (by kernel_rfl) (by kernel_rfl) (by kernel_rfl) (fun _ _ _ h => h) (Or.inl ⟨by first | rfl | (go_simp; done), ?yo17⟩) ?ro17
                  case yo17 => intro w' hSw; clear hSw; go_simp; try (with_reducible rfl)
                  go_simp
                  refine restL_pure (i := 19) (v := ?vo18) rfl (by kernel_rfl) (by kernel_rfl) (by kernel_rfl) (fun _ _ _ h => h) (Or.inl ⟨by rfl, ?yo18⟩) ?ro18
                  case yo18 => intro w' hSw; clear hSw; go_simp; try (with_reducible rfl)
                  go_simp
                  refine restL_pure (i := 20) (v := ?vo19) rfl (by kernel_rfl) (by kernel_rfl) (by kernel_rfl) (fun _ _ _ h => h) (Or.inl ⟨by rfl, ?yo19⟩) ?ro19
                  case yo19 => intro w' hSw; clear hSw; go_simp; try (with_reducible rfl)
                  go_simp
                  refine restL_pure (i := 22) (v := ?vo20) rfl (by kernel_rfl) (by kernel_rfl) (by kernel_rfl) (fun _ _ _ h => h) (Or.inl ⟨by first | rfl | (go_simp; done), ?yo20⟩) ?ro20
                  case yo20 => intro w' hSw; clear hSw; go_simp; try (with_reducible rfl)
                  go_simp
                  refine restL_pure (i := 25) (v := ?vo21) rfl (by kernel_rfl) (by kernel_rfl) (by kernel_rfl) (fun _ _ _ h => h) (Or.inl ⟨by first | rfl | (go_simp; done), ?yo21⟩) ?ro21
                  case yo21 => intro w' hSw; clear hSw; go_simp; try (with_reducible rfl)
                  go_simp
                  refine restL_take (i := 21) (v := ?vo22) [] rfl (by kernel_rfl) (by kernel_rfl) (by kernel_rfl) (by kernel_rfl) (fun _ _ _ h => h) (Or.inl ⟨by first | rfl | (go_simp; done), ?yo22⟩) hHeld ?ro22
                  case yo22 =>
                    intro w' hSw
                    obtain ⟨s0, s1⟩ := hSw
                    have hT0 : Hid (Row w' (w3.heap.size) 25 [.int .i64 d.inputs, .slice (some ad) dn dc, .slice EA on ec]) := s0
                    have z0_0 := hT0.out.cell 0
                    have z0_1 := hT0.out.cell 1
                    have z0_2 := hT0.out.cell 2
                    have z0_l := hT0.out.lt
                    simp only [List.getElem?_cons_zero, List.getElem?_cons_succ] at z0_0 z0_1 z0_2
                    have hT1 : Hid (Row w' (bg) 32 [.int .i64 op, .int .i64 (px : Int), .int .i64 (py : Int)]) := s1
                    have z1_0 := hT1.out.cell 0
                    have z1_1 := hT1.out.cell 1
                    have z1_2 := hT1.out.cell 2
                    have z1_l := hT1.out.lt
                    simp only [List.getElem?_cons_zero, List.getElem?_cons_succ] at z1_0 z1_1 z1_2
                    clear s0 s1
                    go_simp
                    try (with_reducible rfl)
                  go_simp
                  refine restL_take (i := 23) (v := ?vo23) [] rfl (by kernel_rfl) (by kernel_rfl) (by kernel_rfl) (by kernel_rfl) (fun _ _ _ h => h) (Or.inl ⟨by first | rfl | (go_simp; done), ?yo23⟩) hHeld ?ro23
                  case yo23 =>
                    intro w' hSw
                    obtain ⟨s0, s1⟩ := hSw
                    have hT0 : Hid (Row w' (w3.heap.size) 25 [.int .i64 d.inputs, .slice (some ad) dn dc, .slice EA on ec]) := s0
                    have z0_0 := hT0.out.cell 0
                    have z0_1 := hT0.out.cell 1
                    have z0_2 := hT0.out.cell 2
                    have z0_l := hT0.out.lt
                    simp only [List.getElem?_cons_zero, List.getElem?_cons_succ] at z0_0 z0_1 z0_2
                    have hT1 : Hid (Row w' (bg) 32 [.int .i64 op, .int .i64 (px : Int), .int .i64 (py : Int)]) := s1
                    have z1_0 := hT1.out.cell 0
                    have z1_1 := hT1.out.cell 1
                    have z1_2 := hT1.out.cell 2
                    have z1_l := hT1.out.lt
                    simp only [List.getElem?_cons_zero, List.getElem?_cons_succ] at z1_0 z1_1 z1_2
                    clear s0 s1
                    go_simp
                    try (with_reducible rfl)
                  go_simp
                  refine restL_take (i := 26) (v := ?vo24) [] rfl (by kernel_rfl) (by kernel_rfl) (by kernel_rfl) (by kernel_rfl) (fun _ _ _ h => h) (Or.inl ⟨by first | rfl | (go_simp; done), ?yo24⟩) hHeld ?ro24
                  case yo24 =>
                    intro w' hSw
                    obtain ⟨s0, s1⟩ := hSw
                    have hT0 : Hid (Row w' (w3.heap.size) 25 [.int .i64 d.inputs, .slice (some ad) dn dc, .slice EA on ec]) := s0
                    have z0_0 := hT0.out.cell 0
                    have z0_1 := hT0.out.cell 1
                    have z0_2 := hT0.out.cell 2
                    have z0_l := hT0.out.lt
                    simp only [List.getElem?_cons_zero, List.getElem?_cons_succ] at z0_0 z0_1 z0_2
                    have hT1 : Hid (Row w' (bg) 32 [.int .i64 op, .int .i64 (px : Int), .int .i64 (py : Int)]) := s1
                    have z1_0 := hT1.out.cell 0
                    have z1_1 := hT1.out.cell 1
                    have z1_2 := hT1.out.cell 2
                    have z1_l := hT1.out.lt
                    simp only [List.getElem?_cons_zero, List.getElem?_cons_succ] at z1_0 z1_1 z1_2
                    clear s0 s1
                    go_simp
                    try (with_reducible rfl)
                  go_simp
                  refine restL_one (i := 24) (by kernel_rfl) rfl (fun K hK => ?_)
                  go_simp
                  go_at_call 23
                  have HC := notZ_any d (some ad) EA dn dc on ec (py : Int) y2 (HD12.out.up B_w12.out) ⟨hn0, hn1⟩ hg0 (HYL.out ()) (Int.natCast_nonneg _)
                  rw [HQY.out ()] at HC
                  refine HC.mono ?_
                  clear HC
                  rintro e y3 ⟨rfl, hb⟩
                  clear hHeld
                  have B_w12 : Hid (Below w12.heap.size w12 y3) := below_on2 B_w12.out hb
                  have B_w12q : Hid (Below w12q.heap.size w12q y3) := below_on2 B_w12q.out hb
                  have B_y1 : Hid (Below y1.heap.size y1 y3) := below_on2 B_y1.out hb
                  have B_y2 : Hid (Below y2.heap.size y2 y3) := hb
                  clear hb
                  refine hK.out _ _ (fun _ => ?keep) (fun hHeld => ?_)
                  case keep => exact ⟨(rowCells RD12.out B_w12.out), (rowCells RB12.out B_w12.out)⟩
                  have hHeld := hHeld rfl
                  clear hK K
                  try go_simp
                  refine restL_pure (i := 27) (v := ?vo25) rfl (by kernel_rfl) (by kernel_rfl) (by kernel_rfl) (fun _ _ _ h => h) (Or.inl ⟨by first | rfl | (go_simp; done), ?yo25⟩) ?ro25
                  case yo25 => intro w' hSw; clear hSw; go_simp; try (with_reducible rfl)
                  go_simp
                  refine restL_pure (i := 28) (v := ?vo26) rfl (by kernel_rfl) (by kernel_rfl) (by kernel_rfl) (fun _ _ _ h => h) (Or.inl ⟨by rfl, ?yo26⟩) ?ro26
                  case yo26 => intro w' hSw; clear hSw; go_simp; try (with_reducible rfl)
                  go_simp
                  refine restL_done (by kernel_rfl) ?_ _
                  go_wp2_with fail
                  go_roundg (dn - (j + 1))
                  case measure => omega
                  case rel => exact ⟨j + 1, _, by omega, by omega, rfl, by omega, below_on2 BX12.out B_w12.out, (rowCells RD12.out B_w12.out), by rw [HS.out ()]; exact rowCells RN12.out B_w12.out⟩
        · have hlz : ¬ (0 : Int) ≤ z := by omega
          have hd0 : decide ((0 : Int) ≤ z) = false := decide_eq_false hlz
          obtain rfl : dn = j := by omega
          have BXz : Hid (Below w.heap.size w wr) := below_on2 BW3.out BX.out
          go_wp2_with fail
          refine (awake_any wr).mono ?_
          rintro e wz ⟨rfl, hb⟩
          go_wp2_with fail
          go_ret
          exact ⟨rfl, below_on2 BXz.out hb⟩
end Go.Proofs.Ytamijjpnklbgnaa

/-
  The row of OptimizeForm.
-/
namespace Go.Proofs.Ytamijjpnklbgnaa
open Go.RowKit Go.ChangeShapes Go.WideShapes Go.ChangeAt Go.Joins
set_option linter.unusedSimpArgs false
set_option linter.unusedVariables false

set_option maxRecDepth 100000 in
theorem optimizeForm_lifted (os : Os) (started : os.Started) (H : Type) (enc : TypeId × Value → H) :
    ReturnsInHanded {} Try.checked os 6 .any (Rows.optimizeFormSpec.pre6 enc Try.prog Try.f6 Rows.optimizeFormRow.domain false) (Rows.optimizeFormSpec.post enc Try.prog Try.f6 false true false false) := by
  refine returnsInHanded_of_change (C := Try.checked) Try.own' started (by kernel_rfl) Try.func6
    (ChangeSpec.witness6 (enc := enc) (C := Try.checked) false ⟨#[], #[.agg #[.int .i64 0, .slice none 0 0, .slice none 0 0]], []⟩ 8 (by kernel_rfl) (by kernel_rfl) (by kernel_rfl) (by kernel_rfl)) ?_
  intro W base args ds gs before hval0 hW hcnd _
  have hval : ∀ (j : Nat) t v, Try.f6.params[j]? = some t → args[j]? = some v → Value.okWide Try.prog W .any base t v := hval0
  have hW' := hW
  obtain ⟨p, q, hA0, hV, rfl, hfz, hnd⟩ := hW
  have hA : DataW.TrodAll enc Try.prog W 0 (fun _ => true) true Try.f6.params.toList args.toList ds p := hA0
  rw [Try.params6] at hA hval
  obtain ⟨v0, d0, rfl, rfl, h0⟩ := trodAll_one hA
  obtain ⟨rfl, rfl⟩ := trodVars_none hV
  have h0k := h0
  have hlt0 : ∀ x ∈ p, x.block < W.heap.size := fun x hx => hW'.lt x (by simp [hx])
  obtain ⟨c0, GA0, OA0, gn0, gc0, on0, oc0, rfl, hm0⟩ := open_circ (hval 0 25 v0 rfl rfl) h0
  clear hA0 hval0
  refine (lawForm_any c0 GA0 OA0 gn0 gc0 on0 oc0 W hm0).mono fun e W' ⟨he, hb⟩ => ?_
  subst he
  exact ⟨_, rfl, law_post (pa := p) (pv := []) hW' (fun _ _ _ => trodAll_mk1 (shut_bool Try.underlying4 true)) (trodAll_mk1 (Below.trod Try.laidOut' (by kernel_rfl) (of_decide_eq_true (by kernel_rfl)) h0k hb hlt0)) rfl hb⟩

theorem optimizeForm_holds : Rows.OptimizeFormSaid :=
  OpenClaim.holds_of_wide 6 Try.f6 rfl rfl rfl rfl rfl rfl rfl ⟨rfl, rfl, rfl, rfl, rfl⟩ rfl rfl rfl rfl rfl (by kernel_rfl) Try.func6 (by kernel_rfl)
    (of_decide_eq_true (by kernel_rfl)) (by unfold Func.isWrapper; first | (rw [if_pos (by decide +kernel)]; kernel_rfl) | (rw [if_neg (by decide +kernel)]; exact ⟨rfl, rfl⟩))
    (fun os started H enc _ => optimizeForm_lifted os started H enc)

end Go.Proofs.Ytamijjpnklbgnaa
