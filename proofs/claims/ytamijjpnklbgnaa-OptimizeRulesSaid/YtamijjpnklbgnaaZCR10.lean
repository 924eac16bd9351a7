/-
  Fold of package optimize, walked.
-/
import Derived.Test.YtamijjpnklbgnaaZCR6
import Derived.Test.YtamijjpnklbgnaaZCR7
import Derived.Test.YtamijjpnklbgnaaZCR8
import Derived.Test.YtamijjpnklbgnaaZCR9
import Derived.Test.YtamijjpnklbgnaaZCR2
namespace Go.Proofs.Ytamijjpnklbgnaa
open Go.RowKit
set_option linter.unusedSimpArgs false
set_option linter.unusedVariables false
theorem cright_at (c : Circ) (GA OA : Option Addr) (gn gc on oc : Nat) (w : World) (h : CAt w c GA OA gn on) :
    Calls Try.prog 25 #[.agg #[.int .i64 c.inputs, .slice GA gn gc, .slice OA on oc]] w fun e w' => e = .returned (.bool (rightC c)) ∧ Below w.heap.size w w' :=
  right_any c.inputs GA OA gn gc on oc c.gates c.outs w h.gates h.outs h.g63 h.o63
theorem gate_ok_ops {lim : Int} {g : Gt} (h : gateOk lim g = true) : (1 ≤ operandsO g.op → 0 ≤ g.a ∧ g.a < lim) ∧ (operandsO g.op = 2 → 0 ≤ g.b ∧ g.b < lim) := by
  obtain ⟨ho, ha, hb, _, _⟩ := gateOk_parts h
  have hop := operandsO_of ho
  constructor
  · intro h1
    rw [hop] at h1
    exact ha (by split at h1 <;> omega)
  · intro h1
    rw [hop] at h1
    exact hb (by split at h1 <;> (try split at h1) <;> omega)
set_option maxRecDepth 100000 in
set_option maxHeartbeats 8000000 in
theorem fold_any (c : Circ) (GA OA : Option Addr) (gn gc on oc : Nat) (w : World) (hc : CAt w c GA OA gn on) :
    Calls Try.prog 12 #[.agg #[.int .i64 c.inputs, .slice GA gn gc, .slice OA on oc]] w (CiPost (foldC c) w.heap.size w) := by
  have HC0 : Hid (CAt w c GA OA gn on) := hc
  have HGL : Hid (∀ _ : Unit, c.gates.length = gn) := fun _ => hc.gl
  have HOL : Hid (∀ _ : Unit, c.outs.length = on) := fun _ => hc.ol
  clear hc
  go_enter Try.func12, Try.ntmps12
  go_wp2_with fail
  have RC : Hid (Row (World.alloc (World.alloc w (.cells #[.int .i64 c.inputs, .slice GA gn gc, .slice OA on oc] 25)) (.cells #[.int .i64 0, .slice none 0 0, .slice none 0 0] 25)) (w.heap.size) 25 [.int .i64 c.inputs, .slice GA gn gc, .slice OA on oc]) := by
    have h0 := Row.new w 25 [.int .i64 c.inputs, .slice GA gn gc, .slice OA on oc]
    try simp only [World.size_alloc] at h0
    exact (h0.alloc _)
  have RR : Hid (Row (World.alloc (World.alloc w (.cells #[.int .i64 c.inputs, .slice GA gn gc, .slice OA on oc] 25)) (.cells #[.int .i64 0, .slice none 0 0, .slice none 0 0] 25)) (w.heap.size + 1) 25 [.int .i64 0, .slice none 0 0, .slice none 0 0]) := by
    have h0 := Row.new (World.alloc w (.cells #[.int .i64 c.inputs, .slice GA gn gc, .slice OA on oc] 25)) 25 [.int .i64 0, .slice none 0 0, .slice none 0 0]
    try simp only [World.size_alloc] at h0
    exact h0
  have hgr9 : Below w.heap.size w (World.alloc (World.alloc w (.cells #[.int .i64 c.inputs, .slice GA gn gc, .slice OA on oc] 25)) (.cells #[.int .i64 0, .slice none 0 0, .slice none 0 0] 25)) := by go_grown
  have B_w : Hid (Below w.heap.size w (World.alloc (World.alloc w (.cells #[.int .i64 c.inputs, .slice GA gn gc, .slice OA on oc] 25)) (.cells #[.int .i64 0, .slice none 0 0, .slice none 0 0] 25))) := hgr9
  clear hgr9
  revert RC RR B_w
  generalize (World.alloc (World.alloc w (.cells #[.int .i64 c.inputs, .slice GA gn gc, .slice OA on oc] 25)) (.cells #[.int .i64 0, .slice none 0 0, .slice none 0 0] 25)) = wa
  intro RC RR B_w
  have hwa : w.heap.size + 1 < wa.heap.size := RR.out.lt
  obtain ⟨q, hq⟩ : ∃ q, rightC c = q := ⟨_, rfl⟩
  have HQ : Hid (∀ _ : Unit, rightC c = q) := fun _ => hq
  have HC := cright_at c GA OA gn gc on oc wa (HC0.out.up B_w.out)
  rw [hq] at HC
  clear hq
  refine HC.mono ?_
  clear HC
  rintro e w1 ⟨rfl, hb⟩
  have hwb : wa.heap.size ≤ w1.heap.size := hb.size
  have B_w : Hid (Below w.heap.size w w1) := below_on2 B_w.out hb
  have B_wa : Hid (Below wa.heap.size wa w1) := hb
  clear hb
  have RR1 : Hid (Row w1 (w.heap.size + 1) 25 [.int .i64 0, .slice none 0 0, .slice none 0 0]) := (rowCells RR.out B_wa.out)
  have RC1 : Hid (Row w1 w.heap.size 25 [.int .i64 c.inputs, .slice GA gn gc, .slice OA on oc]) := (rowCells RC.out B_wa.out)
  have BW1 : Hid (Below w.heap.size w w1) := B_w
  clear B_w B_wa RC RR
  cases q
  · skip
    have z0 := RR1.out.cell 0
    have z1 := RR1.out.cell 1
    have z2 := RR1.out.cell 2
    have zl := RR1.out.lt
    simp only [List.getElem?_cons_zero, List.getElem?_cons_succ] at z0 z1 z2
    have zf0 := RR1.out.frozen 0
    have zf1 := RR1.out.frozen 1
    have zf2 := RR1.out.frozen 2
    go_wp2
    have Z9 : Row (World.setCell (World.setCell (World.setCell w1 ⟨(w.heap.size + 1), 0, none⟩ (.int .i64 0)) ⟨(w.heap.size + 1), 1, none⟩ (.slice none 0 0)) ⟨(w.heap.size + 1), 2, none⟩ (.slice none 0 0)) (w.heap.size + 1) 25 [.int .i64 0, .slice none 0 0, .slice none 0 0] := (Row.set (Row.set (Row.set RR1.out 0 (.int .i64 0)) 1 (.slice none 0 0)) 2 (.slice none 0 0))
    have B9 : Below w.heap.size w (World.setCell (World.setCell (World.setCell w1 ⟨(w.heap.size + 1), 0, none⟩ (.int .i64 0)) ⟨(w.heap.size + 1), 1, none⟩ (.slice none 0 0)) ⟨(w.heap.size + 1), 2, none⟩ (.slice none 0 0)) := (Below.setCell (Below.setCell (Below.setCell BW1.out (p := ⟨(w.heap.size + 1), 0, none⟩) (by show _ ≤ (w.heap.size + 1); omega) (.int .i64 0)) (p := ⟨(w.heap.size + 1), 1, none⟩) (by show _ ≤ (w.heap.size + 1); omega) (.slice none 0 0)) (p := ⟨(w.heap.size + 1), 2, none⟩) (by show _ ≤ (w.heap.size + 1); omega) (.slice none 0 0))
    have d0 := Z9.cell 0
    have d1 := Z9.cell 1
    have d2 := Z9.cell 2
    simp only [List.getElem?_cons_zero, List.getElem?_cons_succ] at d0 d1 d2
    clear Z9
    refine bodyPost_ret (v := .agg #[.int .i64 0, .slice none 0 0, .slice none 0 0]) (by simp [results, Try.results12, go_sem, d0, d1, d2]) rfl ?_
    have HV : foldC c = noCirc := by unfold foldC; rw [if_neg (by rw [HQ.out ()]; decide)]
    rw [HV]
    exact ⟨none, none, 0, 0, 0, 0, rfl, noCirc_at _, .none, .none, B9⟩
  · have HR : Hid (rightC c = true) := HQ.out ()
    obtain ⟨⟨hn0, hn1, hg0, ho0⟩, _⟩ := rightC_parts HR.out
    rw [HGL.out ()] at hg0
    rw [HOL.out ()] at ho0
    clear HQ
    have k0 := RC1.out.cell 0
    have k1 := RC1.out.cell 1
    have k2 := RC1.out.cell 2
    have kl := RC1.out.lt
    simp only [List.getElem?_cons_zero, List.getElem?_cons_succ] at k0 k1 k2
    go_wp2_with fail
    refine (start_any c GA OA gn gc on oc w1 ⟨hn0, hn1⟩).mono ?_
    rintro e w2 ⟨rfl, hwk, hb⟩
    have HK : Hid (WkAt w2 w1.heap.size (w1.heap.size + 1) c.inputs (foldTo c 0)) := hwk
    have RR2 : Hid (Row w2 (w.heap.size + 1) 25 [.int .i64 0, .slice none 0 0, .slice none 0 0]) := rowCells RR1.out hb
    have RC2 : Hid (Row w2 w.heap.size 25 [.int .i64 c.inputs, .slice GA gn gc, .slice OA on oc]) := rowCells RC1.out hb
    have BW2 : Hid (Below w.heap.size w w2) := below_on2 BW1.out hb
    have hs2 : w1.heap.size + 1 < w2.heap.size := hwk.blk.1
    clear hwk hb k0 k1 k2 kl RR1 RC1 BW1
    have k0 := RC2.out.cell 0
    have k1 := RC2.out.cell 1
    have k2 := RC2.out.cell 2
    have kl := RC2.out.lt
    simp only [List.getElem?_cons_zero, List.getElem?_cons_succ] at k0 k1 k2
    go_wp2_with fail
    clear k0 k1 k2 kl
    go_loopg [5, 15] gn (fun gg _ s15 wr => ∃ k : Nat, k ≤ gn ∧ gn - k ≤ gg ∧ s15 = .int .i64 k ∧ w1.heap.size + 1 < wr.heap.size ∧ Aside (Below w.heap.size w wr) ∧ Aside (Row wr w.heap.size 25 [.int .i64 c.inputs, .slice GA gn gc, .slice OA on oc]) ∧ Aside (Row wr (w.heap.size + 1) 25 [.int .i64 0, .slice none 0 0, .slice none 0 0]) ∧ Aside (WkAt wr w1.heap.size (w1.heap.size + 1) c.inputs (foldTo c k)))
    case atStart => exact ⟨0, Nat.zero_le _, by omega, rfl, hs2, BW2.out, RC2.out, RR2.out, HK.out⟩
    case round =>
      clear RC2 RR2 BW2 HK
      obtain ⟨k, hk, hgg, rfl, hsz, BW, RC, RR, HK⟩ := hrel
      by_cases hlt : k < gn
      · have hlz : (k : Int) < (gn : Int) := by omega
        have hkc : k < c.gates.length := by rw [HGL.out ()]; exact hlt
        obtain ⟨ad, rfl, hab, c0, c1, c2⟩ := (HC0.out.up BW.out).gates.gate hlt
        obtain ⟨l1, l2⟩ := foldTo_len c k
        have hso := foldTo_ok HR.out k (by omega)
        have hgo := gateAt_ok HR.out hkc
        have hmo := moveG_ok hso hgo (by omega) (fun _ => trivial) (fun _ => trivial)
        obtain ⟨g1, g2⟩ := gate_ok_ops hgo
        have HST : Hid (∀ _ : Unit, foldTo c (k + 1) = addW c.inputs (foldTo c k) (foldG c.inputs (foldTo c k).gates (moveG (foldTo c k).to (gateAt c k)))) := fun _ => rfl
        change wr.cell? _ = some (.int .i64 (gateAt c k).op) at c0
        change wr.cell? _ = some (.int .i64 (gateAt c k).a) at c1
        change wr.cell? _ = some (.int .i64 (gateAt c k).b) at c2
        generalize gateAt c k = g at c0 c1 c2 hgo hmo g1 g2 HST
        generalize foldTo c k = s at HK l1 l2 hso hmo HST
        obtain ⟨h, hh⟩ : ∃ h, moveG s.to g = h := ⟨_, rfl⟩
        rw [hh] at hmo
        have HMV : Hid (∀ _ : Unit, moveG s.to g = h) := fun _ => hh
        have HMO : Hid (gateOk (c.inputs + (s.gates.length : Int)) h = true) := hmo
        have HGA : Hid ((1 ≤ operandsO g.op → 0 ≤ g.a ∧ g.a < (s.to.length : Int)) ∧ (operandsO g.op = 2 → 0 ≤ g.b ∧ g.b < (s.to.length : Int))) := ⟨fun q => by have := g1 q; omega, fun q => by have := g2 q; omega⟩
        have htl : s.to.length ≤ 30000 := by omega
        have hgl : s.gates.length ≤ 20000 := by omega
        have HLG : Hid (∀ _ : Unit, s.gates.length = k) := fun _ => l1
        clear l1 l2 hso hgo hmo g1 g2 hh hkc
        go_wp2_with fail
        clear c0 c1 c2 hab
        have RB : Hid (Row (World.alloc wr (.cells #[.int .i64 g.op, .int .i64 g.a, .int .i64 g.b] 32)) (wr.heap.size) 32 [.int .i64 g.op, .int .i64 g.a, .int .i64 g.b]) := by
          have h0 := Row.new wr 32 [.int .i64 g.op, .int .i64 g.a, .int .i64 g.b]
          try simp only [World.size_alloc] at h0
          exact h0
        have hgr9 : Below wr.heap.size wr (World.alloc wr (.cells #[.int .i64 g.op, .int .i64 g.a, .int .i64 g.b] 32)) := by go_grown
        have B_wr : Hid (Below wr.heap.size wr (World.alloc wr (.cells #[.int .i64 g.op, .int .i64 g.a, .int .i64 g.b] 32))) := hgr9
        clear hgr9
        revert RB B_wr
        generalize (World.alloc wr (.cells #[.int .i64 g.op, .int .i64 g.a, .int .i64 g.b] 32)) = wx
        intro RB B_wr
        have HC := moved_any w1.heap.size (w1.heap.size + 1) c.inputs s g wx (HK.out.below B_wr.out) htl HGA.out.1 HGA.out.2
        rw [HMV.out ()] at HC
        refine HC.mono ?_
        clear HC
        rintro e w3 ⟨rfl, hb⟩
        have hszx : wr.heap.size < wx.heap.size := RB.out.lt
        have B_wr : Hid (Below wr.heap.size wr w3) := below_on2 B_wr.out hb
        have B_wx : Hid (Below wx.heap.size wx w3) := hb
        clear hb
        have RB3 : Hid (Row w3 wr.heap.size 32 [.int .i64 g.op, .int .i64 g.a, .int .i64 g.b]) := (rowCells RB.out B_wx.out)
        obtain ⟨hop, hha, hhb, -, -⟩ := gateOk_parts HMO.out
        obtain ⟨op, x, y⟩ := h
        dsimp only at hop hha hhb
        have HHA : Hid (∀ _ : Unit, 2 ≤ op → 0 ≤ x ∧ x < c.inputs + (s.gates.length : Int)) := fun _ => hha
        have HHB : Hid (∀ _ : Unit, 3 ≤ op → 0 ≤ y ∧ y < c.inputs + (s.gates.length : Int)) := fun _ => hhb
        clear hha hhb HMO
        rcases hop with rfl | rfl | rfl | rfl | rfl | rfl
        · skip
          have HFG : Hid (∀ _ : Unit, foldG c.inputs s.gates ⟨0, x, y⟩ = (⟨0, x, y⟩, -1)) := fun _ => rfl
          have k0 := RB3.out.cell 0
          have k1 := RB3.out.cell 1
          have k2 := RB3.out.cell 2
          have kl := RB3.out.lt
          simp only [List.getElem?_cons_zero, List.getElem?_cons_succ] at k0 k1 k2
          have kf0 := RB3.out.frozen 0
          have kf1 := RB3.out.frozen 1
          have kf2 := RB3.out.frozen 2
          go_wp2_with fail
          have BL : Hid (Below wr.heap.size wr (World.setCell (World.setCell (World.setCell w3 ⟨wr.heap.size, 0, none⟩ (.int .i64 0)) ⟨wr.heap.size, 1, none⟩ (.int .i64 x)) ⟨wr.heap.size, 2, none⟩ (.int .i64 y))) := (Below.setCell (Below.setCell (Below.setCell B_wr.out (p := ⟨wr.heap.size, 0, none⟩) (Nat.le_refl _) (.int .i64 0)) (p := ⟨wr.heap.size, 1, none⟩) (Nat.le_refl _) (.int .i64 x)) (p := ⟨wr.heap.size, 2, none⟩) (Nat.le_refl _) (.int .i64 y))
          clear k0 k1 k2 kl kf0 kf1 kf2 RB3 B_wr B_wx RB
          revert BL
          generalize (World.setCell (World.setCell (World.setCell w3 ⟨wr.heap.size, 0, none⟩ (.int .i64 0)) ⟨wr.heap.size, 1, none⟩ (.int .i64 x)) ⟨wr.heap.size, 2, none⟩ (.int .i64 y)) = w4
          intro BL
          have HK4 : Hid (WkAt w4 w1.heap.size (w1.heap.size + 1) c.inputs s) := HK.out.below BL.out
          have hs4 : wr.heap.size ≤ w4.heap.size := BL.out.size
          refine (add_any w1.heap.size (w1.heap.size + 1) c.inputs s ⟨0, x, y⟩ (-1) w4 HK4.out (by omega) ⟨hn0, hn1⟩ hgl htl).mono ?_
          rintro e w5 ⟨rfl, hwk, hfr⟩
          have HK5 : Hid (WkAt w5 w1.heap.size (w1.heap.size + 1) c.inputs (foldTo c (k + 1))) := (by show WkAt _ _ _ _ _; rw [HST.out (), HMV.out (), HFG.out ()]; exact hwk)
          have RC5 : Hid (Row w5 w.heap.size 25 [.int .i64 c.inputs, .slice (some ad) gn gc, .slice OA on oc]) := hfr.row (rowCells RC.out BL.out) (by decide) (by decide) (by decide)
          have RR5 : Hid (Row w5 (w.heap.size + 1) 25 [.int .i64 0, .slice none 0 0, .slice none 0 0]) := hfr.row (rowCells RR.out BL.out) (by decide) (by decide) (by decide)
          have BW5 : Hid (Below w.heap.size w w5) := BW.out.trans ((BL.out.mono (by omega)).trans (hfr.below.mono (by omega)))
          have hs5 : w1.heap.size + 1 < w5.heap.size := hwk.blk.1
          clear hwk hfr BL HK4
          go_wp2_with fail
          go_roundg (gn - (k + 1))
          case measure => omega
          case rel => exact ⟨k + 1, by omega, by omega, by go_num, hs5, BW5.out, RC5.out, RR5.out, HK5.out⟩
        · skip
          have HFG : Hid (∀ _ : Unit, foldG c.inputs s.gates ⟨1, x, y⟩ = (⟨1, x, y⟩, -1)) := fun _ => rfl
          have k0 := RB3.out.cell 0
          have k1 := RB3.out.cell 1
          have k2 := RB3.out.cell 2
          have kl := RB3.out.lt
          simp only [List.getElem?_cons_zero, List.getElem?_cons_succ] at k0 k1 k2
          have kf0 := RB3.out.frozen 0
          have kf1 := RB3.out.frozen 1
          have kf2 := RB3.out.frozen 2
          go_wp2_with fail
          have BL : Hid (Below wr.heap.size wr (World.setCell (World.setCell (World.setCell w3 ⟨wr.heap.size, 0, none⟩ (.int .i64 1)) ⟨wr.heap.size, 1, none⟩ (.int .i64 x)) ⟨wr.heap.size, 2, none⟩ (.int .i64 y))) := (Below.setCell (Below.setCell (Below.setCell B_wr.out (p := ⟨wr.heap.size, 0, none⟩) (Nat.le_refl _) (.int .i64 1)) (p := ⟨wr.heap.size, 1, none⟩) (Nat.le_refl _) (.int .i64 x)) (p := ⟨wr.heap.size, 2, none⟩) (Nat.le_refl _) (.int .i64 y))
          clear k0 k1 k2 kl kf0 kf1 kf2 RB3 B_wr B_wx RB
          revert BL
          generalize (World.setCell (World.setCell (World.setCell w3 ⟨wr.heap.size, 0, none⟩ (.int .i64 1)) ⟨wr.heap.size, 1, none⟩ (.int .i64 x)) ⟨wr.heap.size, 2, none⟩ (.int .i64 y)) = w4
          intro BL
          have HK4 : Hid (WkAt w4 w1.heap.size (w1.heap.size + 1) c.inputs s) := HK.out.below BL.out
          have hs4 : wr.heap.size ≤ w4.heap.size := BL.out.size
          refine (add_any w1.heap.size (w1.heap.size + 1) c.inputs s ⟨1, x, y⟩ (-1) w4 HK4.out (by omega) ⟨hn0, hn1⟩ hgl htl).mono ?_
          rintro e w5 ⟨rfl, hwk, hfr⟩
          have HK5 : Hid (WkAt w5 w1.heap.size (w1.heap.size + 1) c.inputs (foldTo c (k + 1))) := (by show WkAt _ _ _ _ _; rw [HST.out (), HMV.out (), HFG.out ()]; exact hwk)
          have RC5 : Hid (Row w5 w.heap.size 25 [.int .i64 c.inputs, .slice (some ad) gn gc, .slice OA on oc]) := hfr.row (rowCells RC.out BL.out) (by decide) (by decide) (by decide)
          have RR5 : Hid (Row w5 (w.heap.size + 1) 25 [.int .i64 0, .slice none 0 0, .slice none 0 0]) := hfr.row (rowCells RR.out BL.out) (by decide) (by decide) (by decide)
          have BW5 : Hid (Below w.heap.size w w5) := BW.out.trans ((BL.out.mono (by omega)).trans (hfr.below.mono (by omega)))
          have hs5 : w1.heap.size + 1 < w5.heap.size := hwk.blk.1
          clear hwk hfr BL HK4
          go_wp2_with fail
          go_roundg (gn - (k + 1))
          case measure => omega
          case rel => exact ⟨k + 1, by omega, by omega, by go_num, hs5, BW5.out, RC5.out, RR5.out, HK5.out⟩
        · skip
          have HFG : Hid (∀ _ : Unit, foldG c.inputs s.gates ⟨2, x, y⟩ = notF c.inputs s.gates x) := fun _ => rfl
          have k0 := RB3.out.cell 0
          have k1 := RB3.out.cell 1
          have k2 := RB3.out.cell 2
          have kl := RB3.out.lt
          simp only [List.getElem?_cons_zero, List.getElem?_cons_succ] at k0 k1 k2
          have kf0 := RB3.out.frozen 0
          have kf1 := RB3.out.frozen 1
          have kf2 := RB3.out.frozen 2
          go_wp2_with fail
          have BL : Hid (Below wr.heap.size wr (World.setCell (World.setCell (World.setCell w3 ⟨wr.heap.size, 0, none⟩ (.int .i64 2)) ⟨wr.heap.size, 1, none⟩ (.int .i64 x)) ⟨wr.heap.size, 2, none⟩ (.int .i64 y))) := (Below.setCell (Below.setCell (Below.setCell B_wr.out (p := ⟨wr.heap.size, 0, none⟩) (Nat.le_refl _) (.int .i64 2)) (p := ⟨wr.heap.size, 1, none⟩) (Nat.le_refl _) (.int .i64 x)) (p := ⟨wr.heap.size, 2, none⟩) (Nat.le_refl _) (.int .i64 y))
          clear k0 k1 k2 kl kf0 kf1 kf2 RB3 B_wr B_wx RB
          revert BL
          generalize (World.setCell (World.setCell (World.setCell w3 ⟨wr.heap.size, 0, none⟩ (.int .i64 2)) ⟨wr.heap.size, 1, none⟩ (.int .i64 x)) ⟨wr.heap.size, 2, none⟩ (.int .i64 y)) = w4
          intro BL
          have HK4 : Hid (WkAt w4 w1.heap.size (w1.heap.size + 1) c.inputs s) := HK.out.below BL.out
          have hs4 : wr.heap.size ≤ w4.heap.size := BL.out.size
          refine (notO_any w1.heap.size (w1.heap.size + 1) c.inputs s x w4 HK4.out (by omega) ⟨hn0, hn1⟩ hgl htl (HHA.out () (by omega))).mono ?_
          rintro e w5 ⟨rfl, hwk, hfr⟩
          have HK5 : Hid (WkAt w5 w1.heap.size (w1.heap.size + 1) c.inputs (foldTo c (k + 1))) := (by show WkAt _ _ _ _ _; rw [HST.out (), HMV.out (), HFG.out ()]; exact hwk)
          have RC5 : Hid (Row w5 w.heap.size 25 [.int .i64 c.inputs, .slice (some ad) gn gc, .slice OA on oc]) := hfr.row (rowCells RC.out BL.out) (by decide) (by decide) (by decide)
          have RR5 : Hid (Row w5 (w.heap.size + 1) 25 [.int .i64 0, .slice none 0 0, .slice none 0 0]) := hfr.row (rowCells RR.out BL.out) (by decide) (by decide) (by decide)
          have BW5 : Hid (Below w.heap.size w w5) := BW.out.trans ((BL.out.mono (by omega)).trans (hfr.below.mono (by omega)))
          have hs5 : w1.heap.size + 1 < w5.heap.size := hwk.blk.1
          clear hwk hfr BL HK4
          go_wp2_with fail
          go_roundg (gn - (k + 1))
          case measure => omega
          case rel => exact ⟨k + 1, by omega, by omega, by go_num, hs5, BW5.out, RC5.out, RR5.out, HK5.out⟩
        · skip
          have HFG : Hid (∀ _ : Unit, foldG c.inputs s.gates ⟨3, x, y⟩ = eitherF c.inputs s.gates ⟨3, x, y⟩ 0 1) := fun _ => rfl
          have k0 := RB3.out.cell 0
          have k1 := RB3.out.cell 1
          have k2 := RB3.out.cell 2
          have kl := RB3.out.lt
          simp only [List.getElem?_cons_zero, List.getElem?_cons_succ] at k0 k1 k2
          have kf0 := RB3.out.frozen 0
          have kf1 := RB3.out.frozen 1
          have kf2 := RB3.out.frozen 2
          go_wp2_with fail
          have BL : Hid (Below wr.heap.size wr (World.setCell (World.setCell (World.setCell w3 ⟨wr.heap.size, 0, none⟩ (.int .i64 3)) ⟨wr.heap.size, 1, none⟩ (.int .i64 x)) ⟨wr.heap.size, 2, none⟩ (.int .i64 y))) := (Below.setCell (Below.setCell (Below.setCell B_wr.out (p := ⟨wr.heap.size, 0, none⟩) (Nat.le_refl _) (.int .i64 3)) (p := ⟨wr.heap.size, 1, none⟩) (Nat.le_refl _) (.int .i64 x)) (p := ⟨wr.heap.size, 2, none⟩) (Nat.le_refl _) (.int .i64 y))
          clear k0 k1 k2 kl kf0 kf1 kf2 RB3 B_wr B_wx RB
          revert BL
          generalize (World.setCell (World.setCell (World.setCell w3 ⟨wr.heap.size, 0, none⟩ (.int .i64 3)) ⟨wr.heap.size, 1, none⟩ (.int .i64 x)) ⟨wr.heap.size, 2, none⟩ (.int .i64 y)) = w4
          intro BL
          have HK4 : Hid (WkAt w4 w1.heap.size (w1.heap.size + 1) c.inputs s) := HK.out.below BL.out
          have hs4 : wr.heap.size ≤ w4.heap.size := BL.out.size
          refine (either_any w1.heap.size (w1.heap.size + 1) c.inputs s ⟨3, x, y⟩ 0 1 w4 HK4.out (by omega) ⟨hn0, hn1⟩ hgl htl (HHA.out () (by omega)) (HHB.out () (by omega))).mono ?_
          rintro e w5 ⟨rfl, hwk, hfr⟩
          have HK5 : Hid (WkAt w5 w1.heap.size (w1.heap.size + 1) c.inputs (foldTo c (k + 1))) := (by show WkAt _ _ _ _ _; rw [HST.out (), HMV.out (), HFG.out ()]; exact hwk)
          have RC5 : Hid (Row w5 w.heap.size 25 [.int .i64 c.inputs, .slice (some ad) gn gc, .slice OA on oc]) := hfr.row (rowCells RC.out BL.out) (by decide) (by decide) (by decide)
          have RR5 : Hid (Row w5 (w.heap.size + 1) 25 [.int .i64 0, .slice none 0 0, .slice none 0 0]) := hfr.row (rowCells RR.out BL.out) (by decide) (by decide) (by decide)
          have BW5 : Hid (Below w.heap.size w w5) := BW.out.trans ((BL.out.mono (by omega)).trans (hfr.below.mono (by omega)))
          have hs5 : w1.heap.size + 1 < w5.heap.size := hwk.blk.1
          clear hwk hfr BL HK4
          go_wp2_with fail
          go_roundg (gn - (k + 1))
          case measure => omega
          case rel => exact ⟨k + 1, by omega, by omega, by go_num, hs5, BW5.out, RC5.out, RR5.out, HK5.out⟩
        · skip
          have HFG : Hid (∀ _ : Unit, foldG c.inputs s.gates ⟨4, x, y⟩ = eitherF c.inputs s.gates ⟨4, x, y⟩ 1 0) := fun _ => rfl
          have k0 := RB3.out.cell 0
          have k1 := RB3.out.cell 1
          have k2 := RB3.out.cell 2
          have kl := RB3.out.lt
          simp only [List.getElem?_cons_zero, List.getElem?_cons_succ] at k0 k1 k2
          have kf0 := RB3.out.frozen 0
          have kf1 := RB3.out.frozen 1
          have kf2 := RB3.out.frozen 2
          go_wp2_with fail
          have BL : Hid (Below wr.heap.size wr (World.setCell (World.setCell (World.setCell w3 ⟨wr.heap.size, 0, none⟩ (.int .i64 4)) ⟨wr.heap.size, 1, none⟩ (.int .i64 x)) ⟨wr.heap.size, 2, none⟩ (.int .i64 y))) := (Below.setCell (Below.setCell (Below.setCell B_wr.out (p := ⟨wr.heap.size, 0, none⟩) (Nat.le_refl _) (.int .i64 4)) (p := ⟨wr.heap.size, 1, none⟩) (Nat.le_refl _) (.int .i64 x)) (p := ⟨wr.heap.size, 2, none⟩) (Nat.le_refl _) (.int .i64 y))
          clear k0 k1 k2 kl kf0 kf1 kf2 RB3 B_wr B_wx RB
          revert BL
          generalize (World.setCell (World.setCell (World.setCell w3 ⟨wr.heap.size, 0, none⟩ (.int .i64 4)) ⟨wr.heap.size, 1, none⟩ (.int .i64 x)) ⟨wr.heap.size, 2, none⟩ (.int .i64 y)) = w4
          intro BL
          have HK4 : Hid (WkAt w4 w1.heap.size (w1.heap.size + 1) c.inputs s) := HK.out.below BL.out
          have hs4 : wr.heap.size ≤ w4.heap.size := BL.out.size
          refine (either_any w1.heap.size (w1.heap.size + 1) c.inputs s ⟨4, x, y⟩ 1 0 w4 HK4.out (by omega) ⟨hn0, hn1⟩ hgl htl (HHA.out () (by omega)) (HHB.out () (by omega))).mono ?_
          rintro e w5 ⟨rfl, hwk, hfr⟩
          have HK5 : Hid (WkAt w5 w1.heap.size (w1.heap.size + 1) c.inputs (foldTo c (k + 1))) := (by show WkAt _ _ _ _ _; rw [HST.out (), HMV.out (), HFG.out ()]; exact hwk)
          have RC5 : Hid (Row w5 w.heap.size 25 [.int .i64 c.inputs, .slice (some ad) gn gc, .slice OA on oc]) := hfr.row (rowCells RC.out BL.out) (by decide) (by decide) (by decide)
          have RR5 : Hid (Row w5 (w.heap.size + 1) 25 [.int .i64 0, .slice none 0 0, .slice none 0 0]) := hfr.row (rowCells RR.out BL.out) (by decide) (by decide) (by decide)
          have BW5 : Hid (Below w.heap.size w w5) := BW.out.trans ((BL.out.mono (by omega)).trans (hfr.below.mono (by omega)))
          have hs5 : w1.heap.size + 1 < w5.heap.size := hwk.blk.1
          clear hwk hfr BL HK4
          go_wp2_with fail
          go_roundg (gn - (k + 1))
          case measure => omega
          case rel => exact ⟨k + 1, by omega, by omega, by go_num, hs5, BW5.out, RC5.out, RR5.out, HK5.out⟩
        · skip
          have HFG : Hid (∀ _ : Unit, foldG c.inputs s.gates ⟨5, x, y⟩ = xorF c.inputs s.gates ⟨5, x, y⟩) := fun _ => rfl
          have k0 := RB3.out.cell 0
          have k1 := RB3.out.cell 1
          have k2 := RB3.out.cell 2
          have kl := RB3.out.lt
          simp only [List.getElem?_cons_zero, List.getElem?_cons_succ] at k0 k1 k2
          have kf0 := RB3.out.frozen 0
          have kf1 := RB3.out.frozen 1
          have kf2 := RB3.out.frozen 2
          go_wp2_with fail
          have BL : Hid (Below wr.heap.size wr (World.setCell (World.setCell (World.setCell w3 ⟨wr.heap.size, 0, none⟩ (.int .i64 5)) ⟨wr.heap.size, 1, none⟩ (.int .i64 x)) ⟨wr.heap.size, 2, none⟩ (.int .i64 y))) := (Below.setCell (Below.setCell (Below.setCell B_wr.out (p := ⟨wr.heap.size, 0, none⟩) (Nat.le_refl _) (.int .i64 5)) (p := ⟨wr.heap.size, 1, none⟩) (Nat.le_refl _) (.int .i64 x)) (p := ⟨wr.heap.size, 2, none⟩) (Nat.le_refl _) (.int .i64 y))
          clear k0 k1 k2 kl kf0 kf1 kf2 RB3 B_wr B_wx RB
          revert BL
          generalize (World.setCell (World.setCell (World.setCell w3 ⟨wr.heap.size, 0, none⟩ (.int .i64 5)) ⟨wr.heap.size, 1, none⟩ (.int .i64 x)) ⟨wr.heap.size, 2, none⟩ (.int .i64 y)) = w4
          intro BL
          have HK4 : Hid (WkAt w4 w1.heap.size (w1.heap.size + 1) c.inputs s) := HK.out.below BL.out
          have hs4 : wr.heap.size ≤ w4.heap.size := BL.out.size
          refine (xor_any w1.heap.size (w1.heap.size + 1) c.inputs s ⟨5, x, y⟩ w4 HK4.out (by omega) ⟨hn0, hn1⟩ hgl htl (HHA.out () (by omega)) (HHB.out () (by omega))).mono ?_
          rintro e w5 ⟨rfl, hwk, hfr⟩
          have HK5 : Hid (WkAt w5 w1.heap.size (w1.heap.size + 1) c.inputs (foldTo c (k + 1))) := (by show WkAt _ _ _ _ _; rw [HST.out (), HMV.out (), HFG.out ()]; exact hwk)
          have RC5 : Hid (Row w5 w.heap.size 25 [.int .i64 c.inputs, .slice (some ad) gn gc, .slice OA on oc]) := hfr.row (rowCells RC.out BL.out) (by decide) (by decide) (by decide)
          have RR5 : Hid (Row w5 (w.heap.size + 1) 25 [.int .i64 0, .slice none 0 0, .slice none 0 0]) := hfr.row (rowCells RR.out BL.out) (by decide) (by decide) (by decide)
          have BW5 : Hid (Below w.heap.size w w5) := BW.out.trans ((BL.out.mono (by omega)).trans (hfr.below.mono (by omega)))
          have hs5 : w1.heap.size + 1 < w5.heap.size := hwk.blk.1
          clear hwk hfr BL HK4
          go_wp2_with fail
          go_roundg (gn - (k + 1))
          case measure => omega
          case rel => exact ⟨k + 1, by omega, by omega, by go_num, hs5, BW5.out, RC5.out, RR5.out, HK5.out⟩
      · have hlz : ¬ (k : Int) < (gn : Int) := by omega
        obtain rfl : gn = k := by omega
        obtain ⟨l1, l2⟩ := foldTo_len c gn
        have HV : Hid (∀ _ : Unit, foldC c = doneW c (foldTo c gn)) := fun _ => by unfold foldC; rw [if_pos HR.out, HGL.out ()]
        have HOB : Hid (∀ i, i < c.outs.length → 0 ≤ c.outs.getD i 0 ∧ c.outs.getD i 0 < ((foldTo c gn).to.length : Int)) := fun i hi => by
          have := outOk_at (rightC_parts HR.out).2.2 hi
          rw [HGL.out ()] at this
          omega
        have hone : 0 < (foldTo c gn).to.length ∨ on = 0 := by
          rcases Nat.eq_zero_or_pos on with h0 | h0
          · exact .inr h0
          · have := HOB.out 0 (by rw [HOL.out ()]; exact h0)
            exact .inl (by omega)
        have k0 := RC.out.cell 0
        have k1 := RC.out.cell 1
        have k2 := RC.out.cell 2
        have kl := RC.out.lt
        simp only [List.getElem?_cons_zero, List.getElem?_cons_succ] at k0 k1 k2
        go_wp2_with fail
        refine (done_any w1.heap.size (w1.heap.size + 1) c.inputs (foldTo c gn) c GA OA gn gc on oc wr HK.out (by omega) (HC0.out.up BW.out) hone (by omega) (by omega) (by omega) HOB.out).mono ?_
        rintro e w3 ⟨GB, OB, hn, hc, pn, pc, he, hca, hf1, hf2, hb⟩
        have he2 : e = .returned (.agg #[.int .i64 c.inputs, .slice GB hn hc, .slice OB pn pc]) := he
        subst he2
        clear he
        have HCA : Hid (CAt w3 (foldC c) GB OB hn pn) := (by show CAt _ _ _ _ _ _; rw [HV.out ()]; exact hca)
        have HF1 : Hid (CFrom GB hn w1.heap.size) := hf1
        have HF2 : Hid (CFrom OB pn w1.heap.size) := hf2
        have RR3 : Hid (Row w3 (w.heap.size + 1) 25 [.int .i64 0, .slice none 0 0, .slice none 0 0]) := rowCells RR.out hb
        have BW3 : Hid (Below w.heap.size w w3) := below_on2 BW.out hb
        clear hca hf1 hf2 hb k0 k1 k2 kl HOB hone RC RR BW HK
        have z0 := RR3.out.cell 0
        have z1 := RR3.out.cell 1
        have z2 := RR3.out.cell 2
        have zl := RR3.out.lt
        simp only [List.getElem?_cons_zero, List.getElem?_cons_succ] at z0 z1 z2
        have zf0 := RR3.out.frozen 0
        have zf1 := RR3.out.frozen 1
        have zf2 := RR3.out.frozen 2
        go_wp2
        have Z9 : Row (World.setCell (World.setCell (World.setCell w3 ⟨(w.heap.size + 1), 0, none⟩ (.int .i64 c.inputs)) ⟨(w.heap.size + 1), 1, none⟩ (.slice GB hn hc)) ⟨(w.heap.size + 1), 2, none⟩ (.slice OB pn pc)) (w.heap.size + 1) 25 [.int .i64 c.inputs, .slice GB hn hc, .slice OB pn pc] := (Row.set (Row.set (Row.set RR3.out 0 (.int .i64 c.inputs)) 1 (.slice GB hn hc)) 2 (.slice OB pn pc))
        have B9 : Below w.heap.size w (World.setCell (World.setCell (World.setCell w3 ⟨(w.heap.size + 1), 0, none⟩ (.int .i64 c.inputs)) ⟨(w.heap.size + 1), 1, none⟩ (.slice GB hn hc)) ⟨(w.heap.size + 1), 2, none⟩ (.slice OB pn pc)) := (Below.setCell (Below.setCell (Below.setCell BW3.out (p := ⟨(w.heap.size + 1), 0, none⟩) (by show _ ≤ (w.heap.size + 1); omega) (.int .i64 c.inputs)) (p := ⟨(w.heap.size + 1), 1, none⟩) (by show _ ≤ (w.heap.size + 1); omega) (.slice GB hn hc)) (p := ⟨(w.heap.size + 1), 2, none⟩) (by show _ ≤ (w.heap.size + 1); omega) (.slice OB pn pc))
        have d0 := Z9.cell 0
        have d1 := Z9.cell 1
        have d2 := Z9.cell 2
        simp only [List.getElem?_cons_zero, List.getElem?_cons_succ] at d0 d1 d2
        clear Z9
        refine bodyPost_ret (v := .agg #[.int .i64 c.inputs, .slice GB hn hc, .slice OB pn pc]) (by simp [results, Try.results12, go_sem, d0, d1, d2]) rfl ?_
        have HIN : (foldC c).inputs = c.inputs := by rw [HV.out ()]; rfl
        exact ⟨GB, OB, hn, hc, pn, pc, by rw [HIN], (CAt.farSet (CAt.farSet (CAt.farSet HCA.out (p := ⟨(w.heap.size + 1), 0, none⟩) (HF1.out.ne (by show (w.heap.size + 1) < _; omega)) (HF2.out.ne (by show (w.heap.size + 1) < _; omega)) (.int .i64 c.inputs)) (p := ⟨(w.heap.size + 1), 1, none⟩) (HF1.out.ne (by show (w.heap.size + 1) < _; omega)) (HF2.out.ne (by show (w.heap.size + 1) < _; omega)) (.slice GB hn hc)) (p := ⟨(w.heap.size + 1), 2, none⟩) (HF1.out.ne (by show (w.heap.size + 1) < _; omega)) (HF2.out.ne (by show (w.heap.size + 1) < _; omega)) (.slice OB pn pc)), HF1.out.mono (by omega), HF2.out.mono (by omega), B9⟩
end Go.Proofs.Ytamijjpnklbgnaa

/-
  What package lower and its reference compute, plain: bits of states, inputs, outputs, and the circuit of a rule tree. Nothing of the program stands here.
-/
namespace Go.Proofs.Ytamijjpnklbgnaa
open Go.RowKit
set_option linter.unusedSimpArgs false
set_option linter.unusedVariables false

def bitsF (s : Int) : Nat := if s = 2 then 1 else if s = 3 ∨ s = 4 then 2 else if 5 ≤ s ∧ s ≤ 8 then 3 else 0
theorem bitsF_bd (s : Int) : bitsF s ≤ 3 := by unfold bitsF; split <;> (try split) <;> (try split) <;> omega
theorem bitsF_pos {s : Int} (h : 2 ≤ s ∧ s ≤ 8) : 1 ≤ bitsF s := by unfold bitsF; split <;> (try split) <;> (try split) <;> omega
theorem bitsF_pow {s : Int} (h : 2 ≤ s ∧ s ≤ 8) : s ≤ 2 ^ bitsF s := by
  have : s = 2 ∨ s = 3 ∨ s = 4 ∨ s = 5 ∨ s = 6 ∨ s = 7 ∨ s = 8 := by omega
  rcases this with rfl | rfl | rfl | rfl | rfl | rfl | rfl <;> decide
def bitI (n : Int) (k : Nat) : Bool := n / 2 ^ k % 2 == 1
def valB : List Bool → Int
  | [] => 0
  | b :: r => (if b then 1 else 0) + 2 * valB r
def stateF (l : List Bool) : Int := if 8 < l.length then 0 else valB l
theorem valB_snoc (l : List Bool) (b : Bool) : valB (l ++ [b]) = valB l + (if b then 2 ^ l.length else 0) := by
  induction l with
  | nil => cases b <;> rfl
  | cons x l ih =>
    simp only [List.cons_append, valB, ih, List.length_cons]
    cases b
    · simp
    · simp only [if_true]; rw [Int.pow_succ]; omega
theorem valB_bd (l : List Bool) : 0 ≤ valB l ∧ valB l < 2 ^ l.length := by
  induction l with
  | nil => simp [valB]
  | cons x l ih =>
    simp only [valB, List.length_cons, Int.pow_succ]
    cases x <;> simp <;> omega
theorem bitI_valB (l : List Bool) (k : Nat) (hk : k < l.length) : bitI (valB l) k = l.getD k false := by
  induction l generalizing k with
  | nil => simp at hk
  | cons x l ih =>
    have hb := valB_bd l
    cases k with
    | zero =>
      simp only [bitI, valB, Int.pow_zero, Int.ediv_one, List.getD_cons_zero]
      cases x <;> simp <;> omega
    | succ k =>
      have := ih k (by simpa using hk)
      simp only [List.getD_cons_succ]
      rw [← this]
      unfold bitI
      rw [show (2 : Int) ^ (k + 1) = 2 * 2 ^ k by rw [Int.pow_succ]; omega]
      rw [← Int.ediv_ediv_of_nonneg (by omega)]
      congr 3
      simp only [valB]
      cases x <;> simp <;> omega
theorem valB_inj (l m : List Bool) (hl : l.length = m.length) (h : valB l = valB m) : l = m := by
  induction l generalizing m with
  | nil => cases m with
    | nil => rfl
    | cons _ _ => simp at hl
  | cons x l ih =>
    cases m with
    | nil => simp at hl
    | cons y m =>
      simp only [valB] at h
      have e : x = y ∧ valB l = valB m := by
        cases x <;> cases y <;> simp at h ⊢ <;> omega
      rw [e.1, ih m (by simpa using hl) e.2]
/-- The bits of a number. -/
def bitsOf (b : Nat) (v : Int) : List Bool := (List.range b).map (bitI v)
theorem bitsOf_length (b : Nat) (v : Int) : (bitsOf b v).length = b := by simp [bitsOf]
theorem valB_bits (b : Nat) (v : Int) (h0 : 0 ≤ v) (h1 : v < 2 ^ b) : valB (bitsOf b v) = v := by
  induction b generalizing v with
  | zero => simp [bitsOf, valB] at *; omega
  | succ b ih =>
    rw [Int.pow_succ] at h1
    have := ih (v / 2) (by omega) (by omega)
    have e : bitsOf (b + 1) v = bitI v 0 :: bitsOf b (v / 2) := by
      unfold bitsOf
      rw [List.range_succ_eq_map, List.map_cons, List.map_map]
      congr 1
      apply List.map_congr_left
      intro k _
      simp only [Function.comp, bitI]
      rw [show (2 : Int) ^ (k + 1) = 2 * 2 ^ k by rw [Int.pow_succ]; omega, Int.ediv_ediv_of_nonneg (by omega)]
    rw [e, valB, this]
    simp only [bitI, Int.pow_zero, Int.ediv_one]
    split <;> simp_all <;> omega
theorem bitsOf_inj (b : Nat) (u v : Int) (h0 : 0 ≤ u) (h1 : u < 2 ^ b) (h2 : 0 ≤ v) (h3 : v < 2 ^ b) (h : bitsOf b u = bitsOf b v) : u = v := by
  rw [← valB_bits b u h0 h1, ← valB_bits b v h2 h3, h]

/- Inputs -/
def inputsB (t : Tre) (ins : List Int) : List Bool := ins.flatMap (bitsOf (bitsF t.states))
def inputsR (t : Tre) (ins : List Int) : List Bool := if evalErr t ins = 0 then inputsB t ins else []

/- The circuit. -/
def wireF (N : Nat) (gs : List Gt) : Int := (N : Int) + gs.length
def gateS (N : Nat) (op : Int) (p : List Gt × Int) (w : Int) : List Gt × Int := (p.1 ++ [⟨op, p.2, w⟩], wireF N p.1)
def allS (N : Nat) (op : Int) (gs : List Gt) (ws : List Int) : List Gt × Int := ws.tail.foldl (gateS N op) (gs, ws.getD 0 0)
theorem allS_one (N : Nat) (op : Int) (gs : List Gt) (ws : List Int) : allS N op gs (ws.take 1) = (gs, ws.getD 0 0) := by
  cases ws <;> simp [allS]
theorem allS_take (N : Nat) (op : Int) (gs : List Gt) (ws : List Int) (k : Nat) (h0 : 1 ≤ k) (hk : k < ws.length) :
    allS N op gs (ws.take (k + 1)) = gateS N op (allS N op gs (ws.take k)) (ws.getD k 0) := by
  cases ws with
  | nil => simp at hk
  | cons w ws =>
    obtain ⟨k, rfl⟩ : ∃ j, k = j + 1 := ⟨k - 1, by omega⟩
    have hk' : k < ws.length := by simpa using hk
    simp only [allS, List.take_succ_cons, List.tail_cons, List.getD_cons_zero, List.getD_cons_succ]
    rw [List.take_succ_eq_append_getElem hk', List.foldl_append]
    simp [List.getD_eq_getElem?_getD, List.getElem?_eq_getElem hk']
theorem allS_all (N : Nat) (op : Int) (gs : List Gt) (ws : List Int) : allS N op gs (ws.take ws.length) = allS N op gs ws := by rw [List.take_length]
def litF (N j : Nat) (one : Bool) : Int := if one then j else N + j
def litsF (N b i : Nat) (s : Nat) : List Int := (List.range b).map (fun k => litF N (i * b + k) (bitI s k))
theorem litsF_length (N b i s : Nat) : (litsF N b i s).length = b := by simp [litsF]
theorem litsF_get (N b i s k : Nat) (h : k < b) : (litsF N b i s).getD k 0 = litF N (i * b + k) (bitI s k) := by
  simp [litsF, List.getD_eq_getElem?_getD, List.getElem?_map, List.getElem?_range h]
def testS (N b : Nat) (gs : List Gt) (i s : Nat) : List Gt × Int := allS N 3 gs (litsF N b i s)
/-- Rounds that lay gates and yield something each. -/
def scan {α : Type} (f : List Gt → List α → Nat → List Gt × α) (gs : List Gt) : Nat → List Gt × List α
  | 0 => (gs, [])
  | k + 1 => ((f (scan f gs k).1 (scan f gs k).2 k).1, (scan f gs k).2 ++ [(f (scan f gs k).1 (scan f gs k).2 k).2])
section
variable {α : Type} (f : List Gt → List α → Nat → List Gt × α) (gs : List Gt)
theorem scan_zero : scan f gs 0 = (gs, []) := rfl
theorem scan_succ (k : Nat) : scan f gs (k + 1) = ((f (scan f gs k).1 (scan f gs k).2 k).1, (scan f gs k).2 ++ [(f (scan f gs k).1 (scan f gs k).2 k).2]) := rfl
theorem scan_length (k : Nat) : (scan f gs k).2.length = k := by
  induction k with
  | zero => rfl
  | succ k ih => rw [scan_succ]; simp [ih]
theorem scan_ind (P : List Gt → List α → Nat → Prop) (h0 : P gs [] 0) (K : Nat) (hs : ∀ k g acc, k < K → acc.length = k → P g acc k → P (f g acc k).1 (acc ++ [(f g acc k).2]) (k + 1)) : P (scan f gs K).1 (scan f gs K).2 K := by
  have : ∀ k, k ≤ K → P (scan f gs k).1 (scan f gs k).2 k := fun k hk => by
    induction k with
    | zero => exact h0
    | succ k ih => rw [scan_succ]; exact hs k _ _ (by omega) (scan_length f gs k) (ih (by omega))
  exact this K (Nat.le_refl _)
end
def testRow (N b S : Nat) (gs : List Gt) (i : Nat) : List Gt × List Int := scan (fun g _ s => testS N b g i s) gs S
def testRows (N b S : Nat) (gs : List Gt) (n : Nat) : List Gt × List (List Int) := scan (fun g _ i => testRow N b S g i) gs n
def termStep (N : Nat) (up : Bool) (tests : List Int) (res : List (List Int)) (next : List Int) (k : Nat) (p : List Gt × List Int) (s : Nat) : List Gt × List Int :=
  if up = true then (p.1 ++ [⟨3, tests.getD s 0, (res.getD (next.getD s 0).toNat []).getD k 0⟩], p.2 ++ [wireF N p.1])
  else if bitI (next.getD s 0) k = true then (p.1, p.2 ++ [tests.getD s 0]) else p
def termsS (N : Nat) (up : Bool) (tests : List Int) (res : List (List Int)) (next : List Int) (gs : List Gt) (k S : Nat) : List Gt × List Int :=
  (List.range S).foldl (termStep N up tests res next k) (gs, [])
theorem termsS_succ (N : Nat) (up : Bool) (tests : List Int) (res : List (List Int)) (next : List Int) (gs : List Gt) (k S : Nat) :
    termsS N up tests res next gs k (S + 1) = termStep N up tests res next k (termsS N up tests res next gs k S) S := by
  simp [termsS, List.range_succ, List.foldl_append]
def orS (N : Nat) (p : List Gt × List Int) : List Gt × Int := if p.2.length = 0 then (p.1 ++ [⟨0, 0, 0⟩], wireF N p.1) else allS N 4 p.1 p.2
def resS (N : Nat) (up : Bool) (tests : List Int) (res : List (List Int)) (next : List Int) (S : Nat) (gs : List Gt) (k : Nat) : List Gt × Int := orS N (termsS N up tests res next gs k S)
def upN (x : Nd) : Bool := decide (1 < x.level)
def nodeS (t : Tre) (N b S : Nat) (tests : List (List Int)) (gs : List Gt) (res : List (List Int)) (i : Nat) : List Gt × List Int :=
  scan (fun g _ k => resS N (upN (t.nodes.getD i default)) (tests.getD ((t.hood.length : Int) - (t.nodes.getD i default).level).toNat []) res (t.nodes.getD i default).next S g k) gs b
def nodesS (t : Tre) (N b S : Nat) (tests : List (List Int)) (gs : List Gt) (m : Nat) : List Gt × List (List Int) := scan (fun g res i => nodeS t N b S tests g res i) gs m
def notsG (N : Nat) : List Gt := (List.range N).map (fun (j : Nat) => (⟨2, (j : Int), 0⟩ : Gt))
theorem notsG_succ (k : Nat) : notsG (k + 1) = notsG k ++ [⟨2, (k : Int), 0⟩] := by simp [notsG, List.range_succ]
theorem notsG_length (k : Nat) : (notsG k).length = k := by simp [notsG]
def lowN (t : Tre) : Nat := t.hood.length * bitsF t.states
def lowT (t : Tre) : List Gt × List (List Int) := testRows (lowN t) (bitsF t.states) t.states.toNat (notsG (lowN t)) t.hood.length
def lowM (t : Tre) (m : Nat) : List Gt × List (List Int) := nodesS t (lowN t) (bitsF t.states) t.states.toNat (lowT t).2 (lowT t).1 m
def lowErr (t : Tre) : Int := if rightT t = true then 0 else 11
def lowR (t : Tre) : Circ := if rightT t = true then ⟨lowN t, (lowM t t.nodes.length).1, (lowM t t.nodes.length).2.getD (t.nodes.length - 1) []⟩ else noCirc
end Go.Proofs.Ytamijjpnklbgnaa
