/-
 A part.
-/
import Derived.Test.YtiemhbogbaamlaaYE11
import Derived.Test.YtiemhbogbaamlaaYE1
import Derived.Test.YtiemhbogbaamlaaYE9
import Derived.Test.YtiemhbogbaamlaaYE10
import Derived.Test.YtiemhbogbaamlaaYE4
namespace Go.Proofs.Ytiemhbogbaamlaa
open Go.RowKit
set_option linter.unusedSimpArgs false
set_option linter.unusedVariables false
set_option maxHeartbeats 400000 in
theorem operands_any (op : Int) (w : World) :
 Calls Try.prog 81 #[.int .i64 op] w fun e w' => e = .returned (.int .i64 (operandsF op)) ∧ w = w' := by
 go_enter Try.func81, Try.ntmps81
 go_wp2
 all_goals go_ret
 all_goals (refine ⟨?_, rfl⟩; simp_all [operandsF])
set_option maxHeartbeats 400000 in
theorem wire_any (x k n inputs i : Int) (pn pc pi : Nat) (w : World)
 (hn : w.cell? ⟨pn, 0, none⟩ = some (.int .i64 n)) (hc : w.cell? ⟨pc, 0, none⟩ = some (.int .i64 inputs)) (hi : w.cell? ⟨pi, 0, none⟩ = some (.int .i64 i))
 (h0 : 0 ≤ inputs) (h1 : inputs ≤ 1000) (h2 : 0 ≤ i) (h3 : i ≤ 20000) :
 Calls Try.prog 82 #[.int .i64 x, .int .i64 k, .pointer (some ⟨pn, 0, none⟩), .pointer (some ⟨pc, 0, none⟩), .pointer (some ⟨pi, 0, none⟩)] w fun e w' => e = .returned (.bool (wireOk n x k (inputs + i))) ∧ w = w' := by
 go_enter Try.func82, Try.ntmps82
 go_wp2
 all_goals go_ret
 all_goals refine ⟨ret_bool ?_, rfl⟩
 all_goals unfold wireOk
 all_goals (rw [Bool.eq_iff_iff]; simp; omega)
set_option maxHeartbeats 400000 in
theorem outs_any (x inputs : Int) (pc : Nat) (A : Option Addr) (n c : Nat) (w : World)
 (hc : w.cell? ⟨pc, 0, none⟩ = some (.int .i64 inputs)) (hg : w.cell? ⟨pc, 1, none⟩ = some (.slice A n c))
 (h0 : 0 ≤ inputs) (h1 : inputs ≤ 1000) (h3 : n ≤ 20000) :
 Calls Try.prog 83 #[.int .i64 x, .pointer (some ⟨pc, 0, none⟩)] w fun e w' => e = .returned (.bool (!outOk (inputs + n) x)) ∧ w = w' := by
 go_enter Try.func83, Try.ntmps83
 go_wp2
 all_goals go_ret
 all_goals refine ⟨ret_bool ?_, rfl⟩
 all_goals unfold outOk
 all_goals first | (rw [Bool.eq_iff_iff]; simp; omega) | (rw [Bool.eq_iff_iff]; simp; done)
set_option maxHeartbeats 400000 in
theorem right_any (inputs : Int) (GA OA : Option Addr) (gn gc on oc : Nat) (gs : List Gt) (os : List Int) (w : World)
 (hG : Rd w w.heap.size 3 GA gn (gatesCells gs)) (hO : Rd w w.heap.size 1 OA on (ints os)) (hm1 : gn ≤ maxLen) (hm2 : on ≤ maxLen) :
 Calls Try.prog 54 #[.agg #[.int .i64 inputs, .slice GA gn gc, .slice OA on oc]] w fun e w' => e = .returned (.bool (rightC ⟨inputs, gs, os⟩)) ∧ Below w.heap.size w w' := by
 unfold maxLen at hm1 hm2
 have HN : Hid (gs.length = gn) := by have := hG.1; simp [gatesCells_length] at this; show gs.length = gn; omega
 have HM : Hid (os.length = on) := by have := hO.1; simp at this; show os.length = on; omega
 have HG : Hid (Rd w w.heap.size 3 GA gn (gatesCells gs)) := hG
 have HO : Hid (Rd w w.heap.size 1 OA on (ints os)) := hO
 clear hG hO
 by_cases hok : 0 ≤ inputs ∧ inputs ≤ 1000 ∧ gn ≤ 20000 ∧ on ≤ 1000
 ·obtain ⟨h0, h1, h2, h3⟩ := hok
  go_enter Try.func54, Try.ntmps54
  go_wp2
  go_loopg [30] gn (fun gg s30 wr => ∃ kk : Nat, kk ≤ gn ∧ gn - kk ≤ gg ∧ s30 = .int .i64 kk ∧ Aside (Below (w.heap.size + 1) (w.alloc (.cells #[.int .i64 inputs, .slice GA gn gc, .slice OA on oc] 37)) wr) ∧ Aside (∀ j, j < kk → gateOk (inputs + j) (gs.getD j default) = true))
  case atStart => exact ⟨0, Nat.zero_le _, by omega, rfl, Below.refl _ _, fun j hj => absurd hj (Nat.not_lt_zero _)⟩
  case round =>
   obtain ⟨kk, hkk, hg, rfl, BW, AA⟩ := hrel
   have hc0 : wr.cell? ⟨w.heap.size, 0, none⟩ = some (.int .i64 inputs) := (BW.out.cell (p := ⟨w.heap.size, 0, none⟩) (by simp)).trans (by simp)
   have hc1 : wr.cell? ⟨w.heap.size, 1, none⟩ = some (.slice GA gn gc) := (BW.out.cell (p := ⟨w.heap.size, 1, none⟩) (by simp)).trans (by simp)
   have hc2 : wr.cell? ⟨w.heap.size, 2, none⟩ = some (.slice OA on oc) := (BW.out.cell (p := ⟨w.heap.size, 2, none⟩) (by simp)).trans (by simp)
   have hsz : w.heap.size < wr.heap.size := by have := BW.out.size; simp at this; omega
   by_cases hlt : kk < gn
   ·have hltz : (kk : Int) < (gn : Int) := by omega
    obtain ⟨ad, rfl, hb, hg0, hg1, hg2⟩ := ((HG.out.alloc (Nat.le_refl _) _).below BW.out (by omega)).gate hlt
    generalize hy : gs.getD kk default = g at hg0 hg1 hg2
    have HY : Aside (gs.getD kk default = g) := hy
    clear hy
    go_wp2_with fail
    refine (operands_any _ _).mono ?_
    rintro e w' ⟨rfl, rfl⟩
    have b0 := operandsF_bd g.op
    go_wp2_with fail
    ·refine (wire_any g.a 1 (operandsF g.op) inputs kk _ _ _ _ (by go_cell) (by simp (disch := (simp; omega)) only [World.cell?_alloc_lt]; exact hc0) (by go_cell) h0 h1 (by omega) (by omega)).mono ?_
     rintro e w' ⟨rfl, rfl⟩
     go_wp2_with fail
     ·refine (wire_any g.b 2 (operandsF g.op) inputs kk _ _ _ _ (by go_cell) (by simp (disch := (simp; omega)) only [World.cell?_alloc_lt]; exact hc0) (by go_cell) h0 h1 (by omega) (by omega)).mono ?_
      rintro e w' ⟨rfl, rfl⟩
      have BB := BW.out
      have B0 := below_box (k := 1) BW.out
      have hA : wireOk (operandsF g.op) g.a 1 (inputs + kk) = true := by assumption
      have hgo : gateOk (inputs + kk) g = wireOk (operandsF g.op) g.b 2 (inputs + kk) := by unfold gateOk; rw [hA, decide_eq_true (by assumption)]; simp
      have HGO : Aside (gateOk (inputs + kk) g = wireOk (operandsF g.op) g.b 2 (inputs + kk)) := hgo
      clear hgo
      cases hB : wireOk (operandsF g.op) g.b 2 (inputs + kk)
      ·have h0' : ¬ operandsF g.op < 0 := by omega
       go_wp2
       go_ret
       refine ⟨ret_bool ?_, ?_⟩
       ·exact (right_false_gate ⟨inputs, gs, os⟩ kk (by rw [HN.out]; exact hlt) (by rw [HY.out, HGO.out, hB])).symm
       ·go_grown
      ·have h0' : ¬ operandsF g.op < 0 := by omega
       go_wp2
       go_roundg (gn - (kk + 1))
       case measure => omega
       case rel =>
        refine ⟨kk + 1, by omega, by omega, by go_num, ?_, (show Aside _ from fun j hj => ?_)⟩
        ·show Below _ _ _
         go_grown
        ·by_cases e : j = kk
         ·subst e
          rw [HY.out, HGO.out, hB]
         ·exact AA.out j (by omega)
     ·have BB := BW.out
      have B0 := below_box (k := 1) BW.out
      have hA : ¬ wireOk (operandsF g.op) g.a 1 (inputs + kk) = true := by assumption
      go_ret
      refine ⟨ret_bool ?_, ?_⟩
      ·exact (right_false_gate ⟨inputs, gs, os⟩ kk (by rw [HN.out]; exact hlt) (by rw [HY.out]; unfold gateOk; simp [hA])).symm
      ·go_grown
    ·have BB := BW.out
     have B0 := below_box (k := 1) BW.out
     go_ret
     refine ⟨ret_bool ?_, ?_⟩
     ·exact (right_false_gate ⟨inputs, gs, os⟩ kk (by rw [HN.out]; exact hlt) (by rw [HY.out]; unfold gateOk; rw [decide_eq_false (by omega)]; rfl)).symm
     ·go_grown
   ·have hltz : ¬ (kk : Int) < (gn : Int) := by omega
    obtain rfl : kk = gn := by omega
    have BB := BW.out
    have B0 := below_box (k := 1) BW.out
    go_wp2_with fail
    refine (containsFunc_ints OA on oc os _ _ (fun x => !outOk (inputs + kk) x) _ (enters Try.func83 (by kernel_rfl) rfl) (((HO.out.alloc (Nat.le_refl _) _).below BW.out (by omega)).more (by omega)) hm2 ?_).mono ?_
    ·intro W x hx hb
     refine (outs_any x inputs w.heap.size GA kk gc W ((hb.cell (by show w.heap.size < _; omega)).trans hc0) ((hb.cell (by show w.heap.size < _; omega)).trans hc1) h0 h1 h2).mono ?_
     rintro e w' ⟨rfl, rfl⟩
     exact ⟨rfl, hb⟩
    ·rintro e w' ⟨rfl, hb'⟩
     go_wp2
     go_ret
     refine ⟨ret_bool ?_, B0.trans (hb'.mono (by omega))⟩
     rw [right_true_gates ⟨inputs, gs, os⟩ ⟨h0, h1, by rw [HN.out]; exact h2, by rw [HM.out]; exact h3⟩ (fun j hj => AA.out j (by rw [HN.out] at hj; exact hj)), HN.out]
     simp [List.all_eq_not_any_not]
 ·have h' : ¬ (((0 ≤ inputs ∧ inputs ≤ 1000) ∧ (gn : Int) ≤ 20000) ∧ (on : Int) ≤ 1000) := by omega
  have HK : Aside (rightC ⟨inputs, gs, os⟩ = false) := by
   show _ = _
   unfold rightC
   rw [decide_eq_false (by simp only [HN.out, HM.out]; exact hok)]
   rfl
  clear hok
  go_enter Try.func54, Try.ntmps54
  go_wp2
  all_goals go_ret
  all_goals (rw [HK.out]; exact ⟨rfl, by go_grown⟩)
end Go.Proofs.Ytiemhbogbaamlaa

/-
 A part.
-/
namespace Go.Proofs.Ytiemhbogbaamlaa
open Go.RowKit
set_option linter.unusedSimpArgs false
set_option linter.unusedVariables false
theorem cright_at (c : Circ) (GA OA : Option Addr) (gn gc on oc : Nat) (w : World) (h : CAt w c GA OA gn on) :
 Calls Try.prog 54 #[.agg #[.int .i64 c.inputs, .slice GA gn gc, .slice OA on oc]] w fun e w' => e = .returned (.bool (rightC c)) ∧ Below w.heap.size w w' :=
 right_any c.inputs GA OA gn gc on oc c.gates c.outs w h.gates h.outs h.g63 h.o63
theorem gate_ok_ops {lim : Int} {g : Gt} (h : gateOk lim g = true) : (1 ≤ operandsO g.op → 0 ≤ g.a ∧ g.a < lim) ∧ (operandsO g.op = 2 → 0 ≤ g.b ∧ g.b < lim) := by
 obtain ⟨ho, ha, hb, _, _⟩ := gateOk_parts h
 have hop := operandsO_of ho
 constructor
 ·intro h1
  rw [hop] at h1
  exact ha (by split at h1 <;> omega)
 ·intro h1
  rw [hop] at h1
  exact hb (by split at h1 <;> (try split at h1) <;> omega)
set_option maxRecDepth 100000 in
set_option maxHeartbeats 8000000 in
theorem fold_any (c : Circ) (GA OA : Option Addr) (gn gc on oc : Nat) (w : World) (hc : CAt w c GA OA gn on) :
 Calls Try.prog 57 #[.agg #[.int .i64 c.inputs, .slice GA gn gc, .slice OA on oc]] w (CiPost (foldC c) w.heap.size w) := by
 have HC0 : Hid (CAt w c GA OA gn on) := hc
 have HGL : Hid (∀ _ : Unit, c.gates.length = gn) := fun _ => hc.gl
 have HOL : Hid (∀ _ : Unit, c.outs.length = on) := fun _ => hc.ol
 clear hc
 go_enter Try.func57, Try.ntmps57
 go_wp2_with fail
 have RC : Hid (Row (World.alloc (World.alloc w (.cells #[.int .i64 c.inputs, .slice GA gn gc, .slice OA on oc] 37)) (.cells #[.int .i64 0, .slice none 0 0, .slice none 0 0] 37)) (w.heap.size) 37 [.int .i64 c.inputs, .slice GA gn gc, .slice OA on oc]) := by
  have h0 := Row.new w 37 [.int .i64 c.inputs, .slice GA gn gc, .slice OA on oc]
  try simp only [World.size_alloc] at h0
  exact (h0.alloc _)
 have RR : Hid (Row (World.alloc (World.alloc w (.cells #[.int .i64 c.inputs, .slice GA gn gc, .slice OA on oc] 37)) (.cells #[.int .i64 0, .slice none 0 0, .slice none 0 0] 37)) (w.heap.size + 1) 37 [.int .i64 0, .slice none 0 0, .slice none 0 0]) := by
  have h0 := Row.new (World.alloc w (.cells #[.int .i64 c.inputs, .slice GA gn gc, .slice OA on oc] 37)) 37 [.int .i64 0, .slice none 0 0, .slice none 0 0]
  try simp only [World.size_alloc] at h0
  exact h0
 have hgr9 : Below w.heap.size w (World.alloc (World.alloc w (.cells #[.int .i64 c.inputs, .slice GA gn gc, .slice OA on oc] 37)) (.cells #[.int .i64 0, .slice none 0 0, .slice none 0 0] 37)) := by go_grown
 have B_w : Hid (Below w.heap.size w (World.alloc (World.alloc w (.cells #[.int .i64 c.inputs, .slice GA gn gc, .slice OA on oc] 37)) (.cells #[.int .i64 0, .slice none 0 0, .slice none 0 0] 37))) := hgr9
 clear hgr9
 revert RC RR B_w
 generalize (World.alloc (World.alloc w (.cells #[.int .i64 c.inputs, .slice GA gn gc, .slice OA on oc] 37)) (.cells #[.int .i64 0, .slice none 0 0, .slice none 0 0] 37)) = wa
 intro RC RR B_w
 have hwa : w.heap.size + 1 < wa.heap.size := RR.out.lt
 obtain ⟨q, hq⟩ : ∃ q, rightC c = q := ⟨_, rfl⟩
 have HQ : Hid (∀ _ : Unit, rightC c = q) := fun _ => hq
 have HC := cright_at c GA OA gn gc on oc wa (HC0.out.up B_w.out)
 rw [hq] at HC
 clear hq
 refine HC.mono ?_
 clear HC
 rintro e w1 ⟨rfl, hb⟩
 have hwb : wa.heap.size ≤ w1.heap.size := hb.size
 have B_w : Hid (Below w.heap.size w w1) := below_on2 B_w.out hb
 have B_wa : Hid (Below wa.heap.size wa w1) := hb
 clear hb
 have RR1 : Hid (Row w1 (w.heap.size + 1) 37 [.int .i64 0, .slice none 0 0, .slice none 0 0]) := (rowCells RR.out B_wa.out)
 have RC1 : Hid (Row w1 w.heap.size 37 [.int .i64 c.inputs, .slice GA gn gc, .slice OA on oc]) := (rowCells RC.out B_wa.out)
 have BW1 : Hid (Below w.heap.size w w1) := B_w
 clear B_w B_wa RC RR
 cases q
 ·skip
  obtain ⟨z0, z1, z2, zl⟩ := RR1.out.cells3
  have zf0 := RR1.out.frozen 0
  have zf1 := RR1.out.frozen 1
  have zf2 := RR1.out.frozen 2
  go_wp2
  have Z9 : Row (World.setCell (World.setCell (World.setCell w1 ⟨(w.heap.size + 1), 0, none⟩ (.int .i64 0)) ⟨(w.heap.size + 1), 1, none⟩ (.slice none 0 0)) ⟨(w.heap.size + 1), 2, none⟩ (.slice none 0 0)) (w.heap.size + 1) 37 [.int .i64 0, .slice none 0 0, .slice none 0 0] := (Row.set (Row.set (Row.set RR1.out 0 (.int .i64 0)) 1 (.slice none 0 0)) 2 (.slice none 0 0))
  have B9 : Below w.heap.size w (World.setCell (World.setCell (World.setCell w1 ⟨(w.heap.size + 1), 0, none⟩ (.int .i64 0)) ⟨(w.heap.size + 1), 1, none⟩ (.slice none 0 0)) ⟨(w.heap.size + 1), 2, none⟩ (.slice none 0 0)) := (Below.setCell (Below.setCell (Below.setCell BW1.out (p := ⟨(w.heap.size + 1), 0, none⟩) (by show _ ≤ (w.heap.size + 1); omega) (.int .i64 0)) (p := ⟨(w.heap.size + 1), 1, none⟩) (by show _ ≤ (w.heap.size + 1); omega) (.slice none 0 0)) (p := ⟨(w.heap.size + 1), 2, none⟩) (by show _ ≤ (w.heap.size + 1); omega) (.slice none 0 0))
  have d0 := Z9.cell 0
  have d1 := Z9.cell 1
  have d2 := Z9.cell 2
  simp only [List.getElem?_cons_zero, List.getElem?_cons_succ] at d0 d1 d2
  clear Z9
  refine bodyPost_ret (v := .agg #[.int .i64 0, .slice none 0 0, .slice none 0 0]) (by simp [results, Try.results57, go_sem, d0, d1, d2]) rfl ?_
  have HV : foldC c = noCirc := by unfold foldC; rw [if_neg (by rw [HQ.out ()]; decide)]
  rw [HV]
  exact ⟨none, none, 0, 0, 0, 0, rfl, noCirc_at _, .none, .none, B9⟩
 ·have HR : Hid (rightC c = true) := HQ.out ()
  obtain ⟨⟨hn0, hn1, hg0, ho0⟩, _⟩ := rightC_parts HR.out
  rw [HGL.out ()] at hg0
  rw [HOL.out ()] at ho0
  clear HQ
  obtain ⟨k0, k1, k2, kl⟩ := RC1.out.cells3
  go_wp2_with fail
  refine (start_any c GA OA gn gc on oc w1 ⟨hn0, hn1⟩).mono ?_
  rintro e w2 ⟨rfl, hwk, hb⟩
  have HK : Hid (WkAt w2 w1.heap.size (w1.heap.size + 1) c.inputs (foldTo c 0)) := hwk
  have RR2 : Hid (Row w2 (w.heap.size + 1) 37 [.int .i64 0, .slice none 0 0, .slice none 0 0]) := rowCells RR1.out hb
  have RC2 : Hid (Row w2 w.heap.size 37 [.int .i64 c.inputs, .slice GA gn gc, .slice OA on oc]) := rowCells RC1.out hb
  have BW2 : Hid (Below w.heap.size w w2) := below_on2 BW1.out hb
  have hs2 : w1.heap.size + 1 < w2.heap.size := hwk.blk.1
  clear hwk hb k0 k1 k2 kl RR1 RC1 BW1
  obtain ⟨k0, k1, k2, kl⟩ := RC2.out.cells3
  go_wp2_with fail
  clear k0 k1 k2 kl
  go_loopg [5, 15] gn (fun gg _ s15 wr => ∃ k : Nat, k ≤ gn ∧ gn - k ≤ gg ∧ s15 = .int .i64 k ∧ w1.heap.size + 1 < wr.heap.size ∧ Aside (Below w.heap.size w wr) ∧ Aside (Row wr w.heap.size 37 [.int .i64 c.inputs, .slice GA gn gc, .slice OA on oc]) ∧ Aside (Row wr (w.heap.size + 1) 37 [.int .i64 0, .slice none 0 0, .slice none 0 0]) ∧ Aside (WkAt wr w1.heap.size (w1.heap.size + 1) c.inputs (foldTo c k)))
  case atStart => exact ⟨0, Nat.zero_le _, by omega, rfl, hs2, BW2.out, RC2.out, RR2.out, HK.out⟩
  case round =>
   clear RC2 RR2 BW2 HK
   obtain ⟨k, hk, hgg, rfl, hsz, BW, RC, RR, HK⟩ := hrel
   by_cases hlt : k < gn
   ·have hlz : (k : Int) < (gn : Int) := by omega
    have hkc : k < c.gates.length := by rw [HGL.out ()]; exact hlt
    obtain ⟨ad, rfl, hab, c0, c1, c2⟩ := (HC0.out.up BW.out).gates.gate hlt
    obtain ⟨l1, l2⟩ := foldTo_len c k
    have hso := foldTo_ok HR.out k (by omega)
    have hgo := gateAt_ok HR.out hkc
    have hmo := moveG_ok hso hgo (by omega) (fun _ => trivial) (fun _ => trivial)
    obtain ⟨g1, g2⟩ := gate_ok_ops hgo
    have HST : Hid (∀ _ : Unit, foldTo c (k + 1) = addW c.inputs (foldTo c k) (foldG c.inputs (foldTo c k).gates (moveG (foldTo c k).to (gateAt c k)))) := fun _ => rfl
    change wr.cell? _ = some (.int .i64 (gateAt c k).op) at c0
    change wr.cell? _ = some (.int .i64 (gateAt c k).a) at c1
    change wr.cell? _ = some (.int .i64 (gateAt c k).b) at c2
    generalize gateAt c k = g at c0 c1 c2 hgo hmo g1 g2 HST
    generalize foldTo c k = s at HK l1 l2 hso hmo HST
    obtain ⟨h, hh⟩ : ∃ h, moveG s.to g = h := ⟨_, rfl⟩
    rw [hh] at hmo
    have HMV : Hid (∀ _ : Unit, moveG s.to g = h) := fun _ => hh
    have HMO : Hid (gateOk (c.inputs + (s.gates.length : Int)) h = true) := hmo
    have HGA : Hid ((1 ≤ operandsO g.op → 0 ≤ g.a ∧ g.a < (s.to.length : Int)) ∧ (operandsO g.op = 2 → 0 ≤ g.b ∧ g.b < (s.to.length : Int))) := ⟨fun q => by have := g1 q; omega, fun q => by have := g2 q; omega⟩
    have htl : s.to.length ≤ 30000 := by omega
    have hgl : s.gates.length ≤ 20000 := by omega
    have HLG : Hid (∀ _ : Unit, s.gates.length = k) := fun _ => l1
    clear l1 l2 hso hgo hmo g1 g2 hh hkc
    go_wp2_with fail
    clear c0 c1 c2 hab
    have RB : Hid (Row (World.alloc wr (.cells #[.int .i64 g.op, .int .i64 g.a, .int .i64 g.b] 77)) (wr.heap.size) 77 [.int .i64 g.op, .int .i64 g.a, .int .i64 g.b]) := by
     have h0 := Row.new wr 77 [.int .i64 g.op, .int .i64 g.a, .int .i64 g.b]
     try simp only [World.size_alloc] at h0
     exact h0
    have hgr9 : Below wr.heap.size wr (World.alloc wr (.cells #[.int .i64 g.op, .int .i64 g.a, .int .i64 g.b] 77)) := by go_grown
    have B_wr : Hid (Below wr.heap.size wr (World.alloc wr (.cells #[.int .i64 g.op, .int .i64 g.a, .int .i64 g.b] 77))) := hgr9
    clear hgr9
    revert RB B_wr
    generalize (World.alloc wr (.cells #[.int .i64 g.op, .int .i64 g.a, .int .i64 g.b] 77)) = wx
    intro RB B_wr
    have HC := moved_any w1.heap.size (w1.heap.size + 1) c.inputs s g wx (HK.out.below B_wr.out) htl HGA.out.1 HGA.out.2
    rw [HMV.out ()] at HC
    refine HC.mono ?_
    clear HC
    rintro e w3 ⟨rfl, hb⟩
    have hszx : wr.heap.size < wx.heap.size := RB.out.lt
    have B_wr : Hid (Below wr.heap.size wr w3) := below_on2 B_wr.out hb
    have B_wx : Hid (Below wx.heap.size wx w3) := hb
    clear hb
    have RB3 : Hid (Row w3 wr.heap.size 77 [.int .i64 g.op, .int .i64 g.a, .int .i64 g.b]) := (rowCells RB.out B_wx.out)
    obtain ⟨hop, hha, hhb, -, -⟩ := gateOk_parts HMO.out
    obtain ⟨op, x, y⟩ := h
    dsimp only at hop hha hhb
    have HHA : Hid (∀ _ : Unit, 2 ≤ op → 0 ≤ x ∧ x < c.inputs + (s.gates.length : Int)) := fun _ => hha
    have HHB : Hid (∀ _ : Unit, 3 ≤ op → 0 ≤ y ∧ y < c.inputs + (s.gates.length : Int)) := fun _ => hhb
    clear hha hhb HMO
    rcases hop with rfl | rfl | rfl | rfl | rfl | rfl
    ·skip
     have HFG : Hid (∀ _ : Unit, foldG c.inputs s.gates ⟨0, x, y⟩ = (⟨0, x, y⟩, -1)) := fun _ => rfl
     obtain ⟨k0, k1, k2, kl⟩ := RB3.out.cells3
     have kf0 := RB3.out.frozen 0
     have kf1 := RB3.out.frozen 1
     have kf2 := RB3.out.frozen 2
     go_wp2_with fail
     have BL : Hid (Below wr.heap.size wr (World.setCell (World.setCell (World.setCell w3 ⟨wr.heap.size, 0, none⟩ (.int .i64 0)) ⟨wr.heap.size, 1, none⟩ (.int .i64 x)) ⟨wr.heap.size, 2, none⟩ (.int .i64 y))) := (Below.setCell (Below.setCell (Below.setCell B_wr.out (p := ⟨wr.heap.size, 0, none⟩) (Nat.le_refl _) (.int .i64 0)) (p := ⟨wr.heap.size, 1, none⟩) (Nat.le_refl _) (.int .i64 x)) (p := ⟨wr.heap.size, 2, none⟩) (Nat.le_refl _) (.int .i64 y))
     clear k0 k1 k2 kl kf0 kf1 kf2 RB3 B_wr B_wx RB
     revert BL
     generalize (World.setCell (World.setCell (World.setCell w3 ⟨wr.heap.size, 0, none⟩ (.int .i64 0)) ⟨wr.heap.size, 1, none⟩ (.int .i64 x)) ⟨wr.heap.size, 2, none⟩ (.int .i64 y)) = w4
     intro BL
     have HK4 : Hid (WkAt w4 w1.heap.size (w1.heap.size + 1) c.inputs s) := HK.out.below BL.out
     have hs4 : wr.heap.size ≤ w4.heap.size := BL.out.size
     refine (add_any w1.heap.size (w1.heap.size + 1) c.inputs s ⟨0, x, y⟩ (-1) w4 HK4.out (by omega) ⟨hn0, hn1⟩ hgl htl).mono ?_
     rintro e w5 ⟨rfl, hwk, hfr⟩
     have HK5 : Hid (WkAt w5 w1.heap.size (w1.heap.size + 1) c.inputs (foldTo c (k + 1))) := (by show WkAt _ _ _ _ _; rw [HST.out (), HMV.out (), HFG.out ()]; exact hwk)
     have RC5 : Hid (Row w5 w.heap.size 37 [.int .i64 c.inputs, .slice (some ad) gn gc, .slice OA on oc]) := hfr.row (rowCells RC.out BL.out) (by decide) (by decide) (by decide)
     have RR5 : Hid (Row w5 (w.heap.size + 1) 37 [.int .i64 0, .slice none 0 0, .slice none 0 0]) := hfr.row (rowCells RR.out BL.out) (by decide) (by decide) (by decide)
     have BW5 : Hid (Below w.heap.size w w5) := BW.out.trans ((BL.out.mono (by omega)).trans (hfr.below.mono (by omega)))
     have hs5 : w1.heap.size + 1 < w5.heap.size := hwk.blk.1
     clear hwk hfr BL HK4
     go_wp2_with fail
     go_roundg (gn - (k + 1))
     case measure => omega
     case rel => exact ⟨k + 1, by omega, by omega, by go_num, hs5, BW5.out, RC5.out, RR5.out, HK5.out⟩
    ·skip
     have HFG : Hid (∀ _ : Unit, foldG c.inputs s.gates ⟨1, x, y⟩ = (⟨1, x, y⟩, -1)) := fun _ => rfl
     obtain ⟨k0, k1, k2, kl⟩ := RB3.out.cells3
     have kf0 := RB3.out.frozen 0
     have kf1 := RB3.out.frozen 1
     have kf2 := RB3.out.frozen 2
     go_wp2_with fail
     have BL : Hid (Below wr.heap.size wr (World.setCell (World.setCell (World.setCell w3 ⟨wr.heap.size, 0, none⟩ (.int .i64 1)) ⟨wr.heap.size, 1, none⟩ (.int .i64 x)) ⟨wr.heap.size, 2, none⟩ (.int .i64 y))) := (Below.setCell (Below.setCell (Below.setCell B_wr.out (p := ⟨wr.heap.size, 0, none⟩) (Nat.le_refl _) (.int .i64 1)) (p := ⟨wr.heap.size, 1, none⟩) (Nat.le_refl _) (.int .i64 x)) (p := ⟨wr.heap.size, 2, none⟩) (Nat.le_refl _) (.int .i64 y))
     clear k0 k1 k2 kl kf0 kf1 kf2 RB3 B_wr B_wx RB
     revert BL
     generalize (World.setCell (World.setCell (World.setCell w3 ⟨wr.heap.size, 0, none⟩ (.int .i64 1)) ⟨wr.heap.size, 1, none⟩ (.int .i64 x)) ⟨wr.heap.size, 2, none⟩ (.int .i64 y)) = w4
     intro BL
     have HK4 : Hid (WkAt w4 w1.heap.size (w1.heap.size + 1) c.inputs s) := HK.out.below BL.out
     have hs4 : wr.heap.size ≤ w4.heap.size := BL.out.size
     refine (add_any w1.heap.size (w1.heap.size + 1) c.inputs s ⟨1, x, y⟩ (-1) w4 HK4.out (by omega) ⟨hn0, hn1⟩ hgl htl).mono ?_
     rintro e w5 ⟨rfl, hwk, hfr⟩
     have HK5 : Hid (WkAt w5 w1.heap.size (w1.heap.size + 1) c.inputs (foldTo c (k + 1))) := (by show WkAt _ _ _ _ _; rw [HST.out (), HMV.out (), HFG.out ()]; exact hwk)
     have RC5 : Hid (Row w5 w.heap.size 37 [.int .i64 c.inputs, .slice (some ad) gn gc, .slice OA on oc]) := hfr.row (rowCells RC.out BL.out) (by decide) (by decide) (by decide)
     have RR5 : Hid (Row w5 (w.heap.size + 1) 37 [.int .i64 0, .slice none 0 0, .slice none 0 0]) := hfr.row (rowCells RR.out BL.out) (by decide) (by decide) (by decide)
     have BW5 : Hid (Below w.heap.size w w5) := BW.out.trans ((BL.out.mono (by omega)).trans (hfr.below.mono (by omega)))
     have hs5 : w1.heap.size + 1 < w5.heap.size := hwk.blk.1
     clear hwk hfr BL HK4
     go_wp2_with fail
     go_roundg (gn - (k + 1))
     case measure => omega
     case rel => exact ⟨k + 1, by omega, by omega, by go_num, hs5, BW5.out, RC5.out, RR5.out, HK5.out⟩
    ·skip
     have HFG : Hid (∀ _ : Unit, foldG c.inputs s.gates ⟨2, x, y⟩ = notF c.inputs s.gates x) := fun _ => rfl
     obtain ⟨k0, k1, k2, kl⟩ := RB3.out.cells3
     have kf0 := RB3.out.frozen 0
     have kf1 := RB3.out.frozen 1
     have kf2 := RB3.out.frozen 2
     go_wp2_with fail
     have BL : Hid (Below wr.heap.size wr (World.setCell (World.setCell (World.setCell w3 ⟨wr.heap.size, 0, none⟩ (.int .i64 2)) ⟨wr.heap.size, 1, none⟩ (.int .i64 x)) ⟨wr.heap.size, 2, none⟩ (.int .i64 y))) := (Below.setCell (Below.setCell (Below.setCell B_wr.out (p := ⟨wr.heap.size, 0, none⟩) (Nat.le_refl _) (.int .i64 2)) (p := ⟨wr.heap.size, 1, none⟩) (Nat.le_refl _) (.int .i64 x)) (p := ⟨wr.heap.size, 2, none⟩) (Nat.le_refl _) (.int .i64 y))
     clear k0 k1 k2 kl kf0 kf1 kf2 RB3 B_wr B_wx RB
     revert BL
     generalize (World.setCell (World.setCell (World.setCell w3 ⟨wr.heap.size, 0, none⟩ (.int .i64 2)) ⟨wr.heap.size, 1, none⟩ (.int .i64 x)) ⟨wr.heap.size, 2, none⟩ (.int .i64 y)) = w4
     intro BL
     have HK4 : Hid (WkAt w4 w1.heap.size (w1.heap.size + 1) c.inputs s) := HK.out.below BL.out
     have hs4 : wr.heap.size ≤ w4.heap.size := BL.out.size
     refine (notO_any w1.heap.size (w1.heap.size + 1) c.inputs s x w4 HK4.out (by omega) ⟨hn0, hn1⟩ hgl htl (HHA.out () (by omega))).mono ?_
     rintro e w5 ⟨rfl, hwk, hfr⟩
     have HK5 : Hid (WkAt w5 w1.heap.size (w1.heap.size + 1) c.inputs (foldTo c (k + 1))) := (by show WkAt _ _ _ _ _; rw [HST.out (), HMV.out (), HFG.out ()]; exact hwk)
     have RC5 : Hid (Row w5 w.heap.size 37 [.int .i64 c.inputs, .slice (some ad) gn gc, .slice OA on oc]) := hfr.row (rowCells RC.out BL.out) (by decide) (by decide) (by decide)
     have RR5 : Hid (Row w5 (w.heap.size + 1) 37 [.int .i64 0, .slice none 0 0, .slice none 0 0]) := hfr.row (rowCells RR.out BL.out) (by decide) (by decide) (by decide)
     have BW5 : Hid (Below w.heap.size w w5) := BW.out.trans ((BL.out.mono (by omega)).trans (hfr.below.mono (by omega)))
     have hs5 : w1.heap.size + 1 < w5.heap.size := hwk.blk.1
     clear hwk hfr BL HK4
     go_wp2_with fail
     go_roundg (gn - (k + 1))
     case measure => omega
     case rel => exact ⟨k + 1, by omega, by omega, by go_num, hs5, BW5.out, RC5.out, RR5.out, HK5.out⟩
    ·skip
     have HFG : Hid (∀ _ : Unit, foldG c.inputs s.gates ⟨3, x, y⟩ = eitherF c.inputs s.gates ⟨3, x, y⟩ 0 1) := fun _ => rfl
     obtain ⟨k0, k1, k2, kl⟩ := RB3.out.cells3
     have kf0 := RB3.out.frozen 0
     have kf1 := RB3.out.frozen 1
     have kf2 := RB3.out.frozen 2
     go_wp2_with fail
     have BL : Hid (Below wr.heap.size wr (World.setCell (World.setCell (World.setCell w3 ⟨wr.heap.size, 0, none⟩ (.int .i64 3)) ⟨wr.heap.size, 1, none⟩ (.int .i64 x)) ⟨wr.heap.size, 2, none⟩ (.int .i64 y))) := (Below.setCell (Below.setCell (Below.setCell B_wr.out (p := ⟨wr.heap.size, 0, none⟩) (Nat.le_refl _) (.int .i64 3)) (p := ⟨wr.heap.size, 1, none⟩) (Nat.le_refl _) (.int .i64 x)) (p := ⟨wr.heap.size, 2, none⟩) (Nat.le_refl _) (.int .i64 y))
     clear k0 k1 k2 kl kf0 kf1 kf2 RB3 B_wr B_wx RB
     revert BL
     generalize (World.setCell (World.setCell (World.setCell w3 ⟨wr.heap.size, 0, none⟩ (.int .i64 3)) ⟨wr.heap.size, 1, none⟩ (.int .i64 x)) ⟨wr.heap.size, 2, none⟩ (.int .i64 y)) = w4
     intro BL
     have HK4 : Hid (WkAt w4 w1.heap.size (w1.heap.size + 1) c.inputs s) := HK.out.below BL.out
     have hs4 : wr.heap.size ≤ w4.heap.size := BL.out.size
     refine (either_any w1.heap.size (w1.heap.size + 1) c.inputs s ⟨3, x, y⟩ 0 1 w4 HK4.out (by omega) ⟨hn0, hn1⟩ hgl htl (HHA.out () (by omega)) (HHB.out () (by omega))).mono ?_
     rintro e w5 ⟨rfl, hwk, hfr⟩
     have HK5 : Hid (WkAt w5 w1.heap.size (w1.heap.size + 1) c.inputs (foldTo c (k + 1))) := (by show WkAt _ _ _ _ _; rw [HST.out (), HMV.out (), HFG.out ()]; exact hwk)
     have RC5 : Hid (Row w5 w.heap.size 37 [.int .i64 c.inputs, .slice (some ad) gn gc, .slice OA on oc]) := hfr.row (rowCells RC.out BL.out) (by decide) (by decide) (by decide)
     have RR5 : Hid (Row w5 (w.heap.size + 1) 37 [.int .i64 0, .slice none 0 0, .slice none 0 0]) := hfr.row (rowCells RR.out BL.out) (by decide) (by decide) (by decide)
     have BW5 : Hid (Below w.heap.size w w5) := BW.out.trans ((BL.out.mono (by omega)).trans (hfr.below.mono (by omega)))
     have hs5 : w1.heap.size + 1 < w5.heap.size := hwk.blk.1
     clear hwk hfr BL HK4
     go_wp2_with fail
     go_roundg (gn - (k + 1))
     case measure => omega
     case rel => exact ⟨k + 1, by omega, by omega, by go_num, hs5, BW5.out, RC5.out, RR5.out, HK5.out⟩
    ·skip
     have HFG : Hid (∀ _ : Unit, foldG c.inputs s.gates ⟨4, x, y⟩ = eitherF c.inputs s.gates ⟨4, x, y⟩ 1 0) := fun _ => rfl
     obtain ⟨k0, k1, k2, kl⟩ := RB3.out.cells3
     have kf0 := RB3.out.frozen 0
     have kf1 := RB3.out.frozen 1
     have kf2 := RB3.out.frozen 2
     go_wp2_with fail
     have BL : Hid (Below wr.heap.size wr (World.setCell (World.setCell (World.setCell w3 ⟨wr.heap.size, 0, none⟩ (.int .i64 4)) ⟨wr.heap.size, 1, none⟩ (.int .i64 x)) ⟨wr.heap.size, 2, none⟩ (.int .i64 y))) := (Below.setCell (Below.setCell (Below.setCell B_wr.out (p := ⟨wr.heap.size, 0, none⟩) (Nat.le_refl _) (.int .i64 4)) (p := ⟨wr.heap.size, 1, none⟩) (Nat.le_refl _) (.int .i64 x)) (p := ⟨wr.heap.size, 2, none⟩) (Nat.le_refl _) (.int .i64 y))
     clear k0 k1 k2 kl kf0 kf1 kf2 RB3 B_wr B_wx RB
     revert BL
     generalize (World.setCell (World.setCell (World.setCell w3 ⟨wr.heap.size, 0, none⟩ (.int .i64 4)) ⟨wr.heap.size, 1, none⟩ (.int .i64 x)) ⟨wr.heap.size, 2, none⟩ (.int .i64 y)) = w4
     intro BL
     have HK4 : Hid (WkAt w4 w1.heap.size (w1.heap.size + 1) c.inputs s) := HK.out.below BL.out
     have hs4 : wr.heap.size ≤ w4.heap.size := BL.out.size
     refine (either_any w1.heap.size (w1.heap.size + 1) c.inputs s ⟨4, x, y⟩ 1 0 w4 HK4.out (by omega) ⟨hn0, hn1⟩ hgl htl (HHA.out () (by omega)) (HHB.out () (by omega))).mono ?_
     rintro e w5 ⟨rfl, hwk, hfr⟩
     have HK5 : Hid (WkAt w5 w1.heap.size (w1.heap.size + 1) c.inputs (foldTo c (k + 1))) := (by show WkAt _ _ _ _ _; rw [HST.out (), HMV.out (), HFG.out ()]; exact hwk)
     have RC5 : Hid (Row w5 w.heap.size 37 [.int .i64 c.inputs, .slice (some ad) gn gc, .slice OA on oc]) := hfr.row (rowCells RC.out BL.out) (by decide) (by decide) (by decide)
     have RR5 : Hid (Row w5 (w.heap.size + 1) 37 [.int .i64 0, .slice none 0 0, .slice none 0 0]) := hfr.row (rowCells RR.out BL.out) (by decide) (by decide) (by decide)
     have BW5 : Hid (Below w.heap.size w w5) := BW.out.trans ((BL.out.mono (by omega)).trans (hfr.below.mono (by omega)))
     have hs5 : w1.heap.size + 1 < w5.heap.size := hwk.blk.1
     clear hwk hfr BL HK4
     go_wp2_with fail
     go_roundg (gn - (k + 1))
     case measure => omega
     case rel => exact ⟨k + 1, by omega, by omega, by go_num, hs5, BW5.out, RC5.out, RR5.out, HK5.out⟩
    ·skip
     have HFG : Hid (∀ _ : Unit, foldG c.inputs s.gates ⟨5, x, y⟩ = xorF c.inputs s.gates ⟨5, x, y⟩) := fun _ => rfl
     obtain ⟨k0, k1, k2, kl⟩ := RB3.out.cells3
     have kf0 := RB3.out.frozen 0
     have kf1 := RB3.out.frozen 1
     have kf2 := RB3.out.frozen 2
     go_wp2_with fail
     have BL : Hid (Below wr.heap.size wr (World.setCell (World.setCell (World.setCell w3 ⟨wr.heap.size, 0, none⟩ (.int .i64 5)) ⟨wr.heap.size, 1, none⟩ (.int .i64 x)) ⟨wr.heap.size, 2, none⟩ (.int .i64 y))) := (Below.setCell (Below.setCell (Below.setCell B_wr.out (p := ⟨wr.heap.size, 0, none⟩) (Nat.le_refl _) (.int .i64 5)) (p := ⟨wr.heap.size, 1, none⟩) (Nat.le_refl _) (.int .i64 x)) (p := ⟨wr.heap.size, 2, none⟩) (Nat.le_refl _) (.int .i64 y))
     clear k0 k1 k2 kl kf0 kf1 kf2 RB3 B_wr B_wx RB
     revert BL
     generalize (World.setCell (World.setCell (World.setCell w3 ⟨wr.heap.size, 0, none⟩ (.int .i64 5)) ⟨wr.heap.size, 1, none⟩ (.int .i64 x)) ⟨wr.heap.size, 2, none⟩ (.int .i64 y)) = w4
     intro BL
     have HK4 : Hid (WkAt w4 w1.heap.size (w1.heap.size + 1) c.inputs s) := HK.out.below BL.out
     have hs4 : wr.heap.size ≤ w4.heap.size := BL.out.size
     refine (xor_any w1.heap.size (w1.heap.size + 1) c.inputs s ⟨5, x, y⟩ w4 HK4.out (by omega) ⟨hn0, hn1⟩ hgl htl (HHA.out () (by omega)) (HHB.out () (by omega))).mono ?_
     rintro e w5 ⟨rfl, hwk, hfr⟩
     have HK5 : Hid (WkAt w5 w1.heap.size (w1.heap.size + 1) c.inputs (foldTo c (k + 1))) := (by show WkAt _ _ _ _ _; rw [HST.out (), HMV.out (), HFG.out ()]; exact hwk)
     have RC5 : Hid (Row w5 w.heap.size 37 [.int .i64 c.inputs, .slice (some ad) gn gc, .slice OA on oc]) := hfr.row (rowCells RC.out BL.out) (by decide) (by decide) (by decide)
     have RR5 : Hid (Row w5 (w.heap.size + 1) 37 [.int .i64 0, .slice none 0 0, .slice none 0 0]) := hfr.row (rowCells RR.out BL.out) (by decide) (by decide) (by decide)
     have BW5 : Hid (Below w.heap.size w w5) := BW.out.trans ((BL.out.mono (by omega)).trans (hfr.below.mono (by omega)))
     have hs5 : w1.heap.size + 1 < w5.heap.size := hwk.blk.1
     clear hwk hfr BL HK4
     go_wp2_with fail
     go_roundg (gn - (k + 1))
     case measure => omega
     case rel => exact ⟨k + 1, by omega, by omega, by go_num, hs5, BW5.out, RC5.out, RR5.out, HK5.out⟩
   ·have hlz : ¬ (k : Int) < (gn : Int) := by omega
    obtain rfl : gn = k := by omega
    obtain ⟨l1, l2⟩ := foldTo_len c gn
    have HV : Hid (∀ _ : Unit, foldC c = doneW c (foldTo c gn)) := fun _ => by unfold foldC; rw [if_pos HR.out, HGL.out ()]
    have HOB : Hid (∀ i, i < c.outs.length → 0 ≤ c.outs.getD i 0 ∧ c.outs.getD i 0 < ((foldTo c gn).to.length : Int)) := fun i hi => by
     have := outOk_at (rightC_parts HR.out).2.2 hi
     rw [HGL.out ()] at this
     omega
    have hone : 0 < (foldTo c gn).to.length ∨ on = 0 := by
     rcases Nat.eq_zero_or_pos on with h0 | h0
     ·exact .inr h0
     ·have := HOB.out 0 (by rw [HOL.out ()]; exact h0)
      exact .inl (by omega)
    obtain ⟨k0, k1, k2, kl⟩ := RC.out.cells3
    go_wp2_with fail
    refine (done_any w1.heap.size (w1.heap.size + 1) c.inputs (foldTo c gn) c GA OA gn gc on oc wr HK.out (by omega) (HC0.out.up BW.out) hone (by omega) (by omega) (by omega) HOB.out).mono ?_
    rintro e w3 ⟨GB, OB, hn, hc, pn, pc, he, hca, hf1, hf2, hb⟩
    have he2 : e = .returned (.agg #[.int .i64 c.inputs, .slice GB hn hc, .slice OB pn pc]) := he
    subst he2
    clear he
    have HCA : Hid (CAt w3 (foldC c) GB OB hn pn) := (by show CAt _ _ _ _ _ _; rw [HV.out ()]; exact hca)
    have HF1 : Hid (CFrom GB hn w1.heap.size) := hf1
    have HF2 : Hid (CFrom OB pn w1.heap.size) := hf2
    have RR3 : Hid (Row w3 (w.heap.size + 1) 37 [.int .i64 0, .slice none 0 0, .slice none 0 0]) := rowCells RR.out hb
    have BW3 : Hid (Below w.heap.size w w3) := below_on2 BW.out hb
    clear hca hf1 hf2 hb k0 k1 k2 kl HOB hone RC RR BW HK
    obtain ⟨z0, z1, z2, zl⟩ := RR3.out.cells3
    have zf0 := RR3.out.frozen 0
    have zf1 := RR3.out.frozen 1
    have zf2 := RR3.out.frozen 2
    go_wp2
    have Z9 : Row (World.setCell (World.setCell (World.setCell w3 ⟨(w.heap.size + 1), 0, none⟩ (.int .i64 c.inputs)) ⟨(w.heap.size + 1), 1, none⟩ (.slice GB hn hc)) ⟨(w.heap.size + 1), 2, none⟩ (.slice OB pn pc)) (w.heap.size + 1) 37 [.int .i64 c.inputs, .slice GB hn hc, .slice OB pn pc] := (Row.set (Row.set (Row.set RR3.out 0 (.int .i64 c.inputs)) 1 (.slice GB hn hc)) 2 (.slice OB pn pc))
    have B9 : Below w.heap.size w (World.setCell (World.setCell (World.setCell w3 ⟨(w.heap.size + 1), 0, none⟩ (.int .i64 c.inputs)) ⟨(w.heap.size + 1), 1, none⟩ (.slice GB hn hc)) ⟨(w.heap.size + 1), 2, none⟩ (.slice OB pn pc)) := (Below.setCell (Below.setCell (Below.setCell BW3.out (p := ⟨(w.heap.size + 1), 0, none⟩) (by show _ ≤ (w.heap.size + 1); omega) (.int .i64 c.inputs)) (p := ⟨(w.heap.size + 1), 1, none⟩) (by show _ ≤ (w.heap.size + 1); omega) (.slice GB hn hc)) (p := ⟨(w.heap.size + 1), 2, none⟩) (by show _ ≤ (w.heap.size + 1); omega) (.slice OB pn pc))
    have d0 := Z9.cell 0
    have d1 := Z9.cell 1
    have d2 := Z9.cell 2
    simp only [List.getElem?_cons_zero, List.getElem?_cons_succ] at d0 d1 d2
    clear Z9
    refine bodyPost_ret (v := .agg #[.int .i64 c.inputs, .slice GB hn hc, .slice OB pn pc]) (by simp [results, Try.results57, go_sem, d0, d1, d2]) rfl ?_
    have HIN : (foldC c).inputs = c.inputs := by rw [HV.out ()]; rfl
    exact ⟨GB, OB, hn, hc, pn, pc, by rw [HIN], (CAt.farSet (CAt.farSet (CAt.farSet HCA.out (p := ⟨(w.heap.size + 1), 0, none⟩) (HF1.out.ne (by show (w.heap.size + 1) < _; omega)) (HF2.out.ne (by show (w.heap.size + 1) < _; omega)) (.int .i64 c.inputs)) (p := ⟨(w.heap.size + 1), 1, none⟩) (HF1.out.ne (by show (w.heap.size + 1) < _; omega)) (HF2.out.ne (by show (w.heap.size + 1) < _; omega)) (.slice GB hn hc)) (p := ⟨(w.heap.size + 1), 2, none⟩) (HF1.out.ne (by show (w.heap.size + 1) < _; omega)) (HF2.out.ne (by show (w.heap.size + 1) < _; omega)) (.slice OB pn pc)), HF1.out.mono (by omega), HF2.out.mono (by omega), B9⟩
end Go.Proofs.Ytiemhbogbaamlaa
