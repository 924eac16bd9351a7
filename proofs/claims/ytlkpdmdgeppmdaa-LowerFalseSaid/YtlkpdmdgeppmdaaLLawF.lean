/-
  The law LowerFalse: what it does.
-/
import Derived.Test.YtlkpdmdgeppmdaaLLawS
namespace Go.Proofs.Ytlkpdmdgeppmdaa
open Go.RowKit
set_option linter.unusedSimpArgs false
set_option linter.unusedVariables false

def wrongTo (t : Tre) (vs : List Bool) (i : Nat) : Bool := (List.range i).any (fun j => decide (t.states ≤ stF vs (bitsF t.states) j))
theorem wrongTo_succ (t : Tre) (vs : List Bool) (i : Nat) : wrongTo t vs (i + 1) = (wrongTo t vs i || decide (t.states ≤ stF vs (bitsF t.states) i)) := by
  simp [wrongTo, List.range_succ]
theorem wrongTo_low {t : Tre} (hr : rightT t = true) {vs : List Bool} (hv : vs.length = lowN t) (h : wrongTo t vs t.hood.length = true) : stateF (outsG evalB false (lowR t) vs) = 0 := by
  simp only [wrongTo, List.any_eq_true, List.mem_range, decide_eq_true_eq] at h
  obtain ⟨i, hi, hw⟩ := h
  exact low_false hr hv i hi hw
theorem Rd.part {w : World} {B n m b : Nat} {ad : Addr} {l : List Bool} (h : Rd w B 1 (some ad) n (bools l)) (hm : m + b ≤ n) : Rd w B 1 (some (ad.add m)) b (bools ((l.drop m).take b)) := by
  have hl : l.length = n := by have := h.1; rw [bools_length, Nat.mul_one] at this; exact this
  refine ⟨by simp; omega, fun hb => ⟨ad.add m, rfl, ?_, fun j u hu => ?_⟩⟩
  · obtain ⟨ad', e, hb', _⟩ := h.2 (by omega)
    cases e
    rw [add_block]; exact hb'
  · obtain ⟨ad', e, _, hc⟩ := h.2 (by omega)
    cases e
    rw [add_add']
    apply hc
    rw [← hu]
    have hj : j < b := by
      have := (List.getElem?_eq_some_iff.1 hu).1
      simp at this; omega
    simp [bools, List.getElem?_map, List.getElem?_take, hj]
set_option maxRecDepth 100000 in
set_option maxHeartbeats 4000000 in
theorem lawLowFalse_any (t : Tre) (HA NA IA : Option Addr) (hn hc nn nc n ic : Nat) (sl : List Sl) (vs : List Bool) (w : World) (h : TAt w t HA NA hn nn sl) (hI : Rd w w.heap.size 1 IA n (bools vs)) (hm : n ≤ maxLen) (hcap : n ≤ ic) (hcap2 : ic ≤ maxLen) :
    Calls Try.prog 6 #[.agg #[.int .i64 t.states, .slice HA hn hc, .slice NA nn nc], .slice IA n ic] w fun e w' => e = .returned (.bool true) ∧ Below w.heap.size w w' := by
  have A0 : Hid (TAt w t HA NA hn nn sl) := h
  have HI : Hid (Rd w w.heap.size 1 IA n (bools vs)) := hI
  have HLN : Hid (t.nodes.length = nn) := h.nl
  have HLH : Hid (t.hood.length = hn) := h.hl
  have HIL : Hid (vs.length = n) := by have := hI.1; rw [bools_length, Nat.mul_one] at this; exact this
  have HM : Hid (n ≤ maxLen) := hm
  unfold maxLen at hm hcap2
  have hmh := h.h63
  unfold maxLen at hmh
  clear h hI
  go_enter Try.func6, Try.ntmps6
  go_wp2_with fail
  refine (fewL_any t HA NA hn hc nn nc sl _ (A0.out.up (by go_grown))).mono ?_
  rintro e w1 ⟨rfl, hb⟩
  have RT : Hid (Row w1 w.heap.size 25 [.int .i64 t.states, .slice HA hn hc, .slice NA nn nc]) := rowCells (Row.new w 25 [.int .i64 t.states, .slice HA hn hc, .slice NA nn nc]) hb
  have HB : Hid (Below w.heap.size w w1) := below_next hb (by go_grown)
  have A := (show Hid (TAt w1 _ _ _ _ _ _) from A0.out.up HB.out)
  have HI := (show Hid (Rd w1 _ _ _ _ _) from HI.out.up HB.out)
  clear hb A0
  cases hf : fewL t
  · clear RT
    go_wp2_with fail
    refine (awake_any _).mono ?_
    rintro e w9 ⟨rfl, hb⟩
    have HBE : Hid (Below w.heap.size w w9) := below_on HB.out (by go_grown) hb
    clear hb
    go_wp2
    go_ret
    exact ⟨rfl, HBE.out⟩
  have HN60 : Hid (nn ≤ 60) := by
    have h1 := hf
    simp only [fewL, Bool.and_eq_true, decide_eq_true_eq] at h1
    show _ ≤ _
    rw [← HLN.out]; exact h1.2
  clear hf
  have k0 := RT.out.cell 0
  have k1 := RT.out.cell 1
  have k2 := RT.out.cell 2
  have kl := RT.out.lt
  simp only [List.getElem?_cons_zero, List.getElem?_cons_succ] at k0 k1 k2
  go_wp2_with fail
  refine (rTreeRight_any t HA NA hn hc nn nc sl _ A.out).mono ?_
  rintro e w2 ⟨rfl, hb⟩
  clear k0 k1 k2 kl
  have hn : Below w1.heap.size w1 w2 := below_next hb (by go_grown)
  have RT := (show Hid (Row _ _ _ _) from rowCells RT.out hn)
  have A := (show Hid (TAt w2 _ _ _ _ _ _) from A.out.up hn)
  have HI := (show Hid (Rd w2 _ _ _ _ _) from HI.out.up hn)
  have HB := (show Hid (Below w.heap.size w w2) from below_on2 HB.out hn)
  clear hb hn
  cases hr : rightT t
  · clear RT
    go_wp2_with fail
    refine (awake_any _).mono ?_
    rintro e w9 ⟨rfl, hb⟩
    have HBE : Hid (Below w.heap.size w w9) := below_on HB.out (by go_grown) hb
    clear hb
    go_wp2
    go_ret
    exact ⟨rfl, HBE.out⟩
  have HR : Hid (rightT t = true) := hr
  obtain ⟨hh, ⟨hst, _⟩, _⟩ := rightT_parts hr
  have hn25 : hn ≤ 25 := by
    simp only [hoodOk, Bool.and_eq_true, decide_eq_true_eq] at hh
    rw [HLH.out] at hh; omega
  have hb3 := bitsF_bd t.states
  have hb1 := bitsF_pos hst
  have HLE : Hid (lowErr t = 0) := by show _ = _; rw [lowErr, if_pos hr]
  generalize hbb : bitsF t.states = bb at hb3 hb1
  have HBB : Hid (bitsF t.states = bb) := hbb
  obtain ⟨N, hN⟩ : ∃ N : Nat, N = hn * bb := ⟨_, rfl⟩
  have hmul : (bb : Int) * (hn : Int) = (N : Int) := by rw [hN, Int.natCast_mul, Int.mul_comm]
  have hmul2 : (hn : Int) * (bb : Int) = (N : Int) := by rw [hN, Int.natCast_mul]
  have hNb : N ≤ 75 := by have := Nat.mul_le_mul hn25 hb3; omega
  have HNN : Hid (lowN t = N) := by show _ = _; rw [lowN, HLH.out, hbb, hN]
  have HMUL : Hid (N = hn * bb) := hN
  clear hr hh hbb hN
  have k0 := RT.out.cell 0
  have k1 := RT.out.cell 1
  have k2 := RT.out.cell 2
  have kl := RT.out.lt
  simp only [List.getElem?_cons_zero, List.getElem?_cons_succ] at k0 k1 k2
  cases hne : ((n : Int) != (N : Int))
  case true =>
    go_wp2_with (first
      | (go_at_call 15; refine (rBits_any _ _).mono ?_; rw [HBB.out]; rintro e w10 ⟨rfl, rfl⟩)
      | (go_at_call 8; refine (awake_any _).mono ?_; rintro e w10 ⟨rfl, hb⟩; have HB := (show Hid (Below w.heap.size w w10) from below_on HB.out (by go_grown) hb); clear hb))
    go_ret
    exact ⟨rfl, HB.out⟩
  have hqq : (n : Int) = (N : Int) := by simpa using hne
  obtain rfl : N = n := by omega
  clear hne hqq
  have hne : ((N : Int) != (N : Int)) = false := by simp
  go_wp2_with (go_at_call 15; refine (rBits_any _ _).mono ?_; rw [HBB.out]; rintro e w10 ⟨rfl, rfl⟩)
  clear k0 k1 k2 kl hne
  go_loopg [6, 7, 36] hn (fun gg s6 _ s36 wr => ∃ (i : Nat), i ≤ hn ∧ hn - i ≤ gg ∧ s36 = .int .i64 i ∧ s6 = .bool (wrongTo t vs i) ∧ Aside (Below w2.heap.size w2 wr))
  case atStart => exact ⟨0, Nat.zero_le _, by omega, rfl, rfl, Below.refl _ _⟩
  case round =>
    obtain ⟨i, hi, hgg, rfl, rfl, BW⟩ := hrel
    have RTi : Hid (Row wr w.heap.size 25 [.int .i64 t.states, .slice HA hn hc, .slice NA nn nc]) := rowCells RT.out BW.out
    by_cases hlt : i < hn
    · have hltz : (i : Int) < (hn : Int) := by omega
      have k0 := RTi.out.cell 0
      have k1 := RTi.out.cell 1
      have k2 := RTi.out.cell 2
      have kl := RTi.out.lt
      simp only [List.getElem?_cons_zero, List.getElem?_cons_succ] at k0 k1 k2
      have HW : Hid (wrongTo t vs (i + 1) = (wrongTo t vs i || decide (t.states ≤ stF vs bb i))) := by
        show _ = _
        rw [wrongTo_succ, HBB.out]
      generalize wrongTo t vs i = wg at HW
      cases wg
      · obtain ⟨m, hmm⟩ : ∃ m : Nat, m = i * bb := ⟨_, rfl⟩
        have hmi : (i : Int) * (bb : Int) = (m : Int) := by rw [hmm, Int.natCast_mul]
        have hmN : m + bb ≤ N := by
          have h1 := Nat.mul_le_mul_right bb (show i + 1 ≤ hn by omega)
          rw [Nat.add_mul, ← HMUL.out] at h1
          omega
        have HMM : Hid (m = i * bb) := hmm
        clear hmm
        obtain ⟨ad, rfl, _, _⟩ := HI.out.2 (by omega)
        have HP : Hid (Rd wr wr.heap.size 1 (some (ad.add m)) bb (bools ((vs.drop m).take bb))) := Rd.part (HI.out.up BW.out) hmN
        have HST : Hid (stateF ((vs.drop m).take bb) = stF vs bb i) := by
          show _ = _
          rw [stateF, if_neg (by rw [List.length_take]; omega), stF, HMM.out]
        have hz1 : (0 : Int) ≤ (m : Int) := by omega
        have hz2 : (m : Int) ≤ (m : Int) + (bb : Int) := by omega
        have hz3 : (m : Int) + (bb : Int) ≤ (ic : Int) := by omega
        have hwr1 : IntKind.i64.wrap (m : Int) = (m : Int) := IntWalk.i64_in _ (by omega)
        have hwr2 : IntKind.i64.wrap ((m : Int) + (bb : Int)) = (m : Int) + (bb : Int) := IntWalk.i64_in _ (by omega)
        have HK : Hid (∀ k, Calls Try.prog 13 #[.slice (some (ad.add m)) bb (ic - m)] (wr.drewN k) fun e w' => e = .returned (.int .i64 (stF vs bb i)) ∧ wr.drewN k = w') := fun k => by
          have h1 := rState_any (some (ad.add m)) bb (ic - m) ((vs.drop m).take bb) (wr.drewN k) (HP.out.drewN k) (by unfold maxLen; omega)
          rw [HST.out] at h1
          exact h1
        generalize stF vs bb i = st at HK HW
        have HW' : Hid (wrongTo t vs (i + 1) = decide (t.states ≤ st)) := by have := HW.out; rw [Bool.false_or] at this; exact this
        clear HW
        go_wp2_with fail
        go_quiet ((go_at_call 13; exact quiet_same (HK.out _)))
        go_wp2
        go_roundg (hn - (i + 1))
        case measure => omega
        case rel => exact ⟨i + 1, by omega, by omega, by go_num, by rw [HW'.out], below_drewN BW.out _⟩
      · go_wp2_with fail
        go_quiet (fail)
        go_wp2
        go_roundg (hn - (i + 1))
        case measure => omega
        case rel => exact ⟨i + 1, by omega, by omega, by go_num, by rw [HW.out]; rfl, below_drewN BW.out _⟩
    · have hltz : ¬ (i : Int) < (hn : Int) := by omega
      obtain rfl : hn = i := by omega
      have HB := (show Hid (Below w.heap.size w wr) from below_on2 HB.out BW.out)
      have A := (show Hid (TAt wr _ _ _ _ _ _) from A.out.up BW.out)
      have HI := (show Hid (Rd wr _ _ _ _ _) from HI.out.up BW.out)
      have HSTF : Hid (wrongTo t vs hn = true → stateF (outsG evalB false (lowR t) vs) = 0) := fun h1 => wrongTo_low HR.out (by rw [HIL.out, HNN.out]) (by rw [HLH.out]; exact h1)
      clear RT BW
      have RT : Hid (Row wr w.heap.size 25 [.int .i64 t.states, .slice HA hn hc, .slice NA nn nc]) := RTi
      clear RTi
      have k0 := RT.out.cell 0
      have k1 := RT.out.cell 1
      have k2 := RT.out.cell 2
      have kl := RT.out.lt
      simp only [List.getElem?_cons_zero, List.getElem?_cons_succ] at k0 k1 k2
      generalize wrongTo t vs hn = wg at HSTF
      obtain ⟨w1, rfl⟩ : ∃ w1 : World, w1 = wr := ⟨_, rfl⟩
      go_wp2_with fail
      refine (lower_any t HA NA hn hc nn nc sl _ A.out (by have := HN60.out; omega)).mono ?_
      rw [HLE.out]
      rintro e w3 ⟨GA, OA, gn, gc, on, oc, rfl, hc3, hb⟩
      have HC : Hid (CAt w3 (lowR t) GA OA gn on) := hc3
      clear k0 k1 k2 kl hc3
      have hn : Below w1.heap.size w1 w3 := below_next hb (by go_grown)
      have RT := (show Hid (Row _ _ _ _) from rowCells RT.out hn)
      have HI := (show Hid (Rd w3 _ _ _ _ _) from HI.out.up hn)
      have HB := (show Hid (Below w.heap.size w w3) from below_on2 HB.out hn)
      clear hb hn
      have HLL : Hid ((N : Int) = (lowR t).inputs) := by
        show _ = _
        rw [(lowR_len HR.out).2, HNN.out]
      go_wp2_with fail
      refine (rEval_ok (lowR t) GA OA IA gn gc on oc N ic vs _ (HC.out.up (by go_grown)) (HI.out.up (by go_grown)) (by
        have h1 := lowR_right HR.out (by have := HN60.out; rw [HLN.out]; omega)
        rw [okC, h1, Bool.true_and]
        exact decide_eq_true HLL.out)).mono ?_
      rintro e w5 ⟨v, rfl, hown, hb⟩
      obtain ⟨VA, vc, rfl, hrd⟩ := Rd.own hown
      have HV : Hid (Rd w5 w5.heap.size 1 VA on (bools (outsG evalB false (lowR t) vs))) := hrd
      have HON : Hid (on = bb) := by
        show _ = _
        rw [← HC.out.ol, (lowR_len HR.out).1, HBB.out]
      clear hown hrd
      have hn : Below w3.heap.size w3 w5 := below_next hb (by go_grown)
      have HB := (show Hid (Below w.heap.size w w5) from below_on2 HB.out hn)
      clear hb hn
      have hbn : ((on : Int) == (bb : Int)) = true := by rw [HON.out]; simp
      have hon3 : Hid (on ≤ maxLen) := by show _ ≤ _; rw [HON.out]; unfold maxLen; omega
      cases wg
      · go_wp2_with (first
          | (go_at_call 8; refine (awake_any _).mono ?_; rintro e w10 ⟨rfl, hb⟩; have HB := (show Hid (Below w.heap.size w w10) from below_on HB.out (by go_grown) hb); clear hb))
        all_goals
          go_ret
          exact ⟨rfl, HB.out⟩
      · have HST : Hid (stateF (outsG evalB false (lowR t) vs) = 0) := HSTF.out rfl
        go_wp2_with (first
          | (go_at_call 12; refine (lState_any VA on vc _ _ HV.out hon3.out).mono ?_; rw [HST.out]; rintro e w10 ⟨rfl, rfl⟩)
          | (go_at_call 8; refine (awake_any _).mono ?_; rintro e w10 ⟨rfl, hb⟩; have HB := (show Hid (Below w.heap.size w w10) from below_on HB.out (by go_grown) hb); clear hb))
        all_goals
          go_ret
          exact ⟨rfl, HB.out⟩
end Go.Proofs.Ytlkpdmdgeppmdaa
