/-
  Rule trees: tree.value, tree.Eval, and Quiet of the program and of the reference, walked.
-/
import Derived.Test.YtamijjpnklbgnaaZCR25
import Derived.Test.YtamijjpnklbgnaaZCR27
import Derived.Test.YtamijjpnklbgnaaZCR9
import Derived.Test.YtamijjpnklbgnaaZCR18
import Derived.Test.YtamijjpnklbgnaaZCR19
import Derived.Test.YtamijjpnklbgnaaZCR20
import Derived.Test.YtamijjpnklbgnaaZCR26
import Derived.Test.YtamijjpnklbgnaaZCR24
import Derived.Test.YtamijjpnklbgnaaZCR2
namespace Go.Proofs.Ytamijjpnklbgnaa
open Go.RowKit
set_option linter.unusedSimpArgs false
set_option linter.unusedVariables false

set_option maxRecDepth 100000 in
set_option maxHeartbeats 2000000 in
theorem value_any (t : Tre) (HA NA IA : Option Addr) (hn hc nn nc n ic : Nat) (sl : List Sl) (ins : List Int) (w : World) (h : TAt w t HA NA hn nn sl) (hI : Rd w w.heap.size 1 IA n (ints ins))
    (hr : rightT t = true) (hl : ins.length = t.hood.length) (hs : ins.all (stateIn t) = true) :
    Calls Try.prog 56 #[.agg #[.int .i64 t.states, .slice HA hn hc, .slice NA nn nc], .slice IA n ic] w fun e w' => e = .returned (.int .i64 (valueT t ins)) ∧ Below w.heap.size w w' := by
  have H : Hid (TAt w t HA NA hn nn sl) := h
  have HL : Hid (t.nodes.length = nn) := h.nl
  have HI : Hid (Rd w w.heap.size 1 IA n (ints ins)) := hI
  have HIL : Hid (ins.length = n) := by have := hI.1; simp at this; show _ = _; omega
  have hm2 := h.n63
  have HLI : Hid (ins.length = t.hood.length) := hl
  have HS : Hid (ins.all (stateIn t) = true) := hs
  obtain ⟨hh, ⟨_, k1, k2, _⟩, _⟩ := rightT_parts hr
  have hn25 : n ≤ 25 := by
    simp only [hoodOk, Bool.and_eq_true, decide_eq_true_eq] at hh
    rw [← HIL.out, hl]; omega
  have HR : Hid (rightT t = true) := hr
  rw [HL.out] at k1 k2
  have hk0 : IntKind.i64.wrap ((nn : Int) - 1) = (nn : Int) - 1 := IntWalk.i64_in _ (by omega)
  clear h hI hr hl hs hh hm2
  go_enter Try.func56, Try.ntmps56
  go_wp2
  go_loopg [5, 7, 14] n (fun gg s5 s7 s14 wr => ∃ (kk : Nat) (z : Int), kk ≤ n ∧ n - kk ≤ gg ∧ s14 = .int .i64 kk ∧ s5 = .int .i64 z ∧ Aside (z = walkT t ((t.nodes.length : Int) - 1) (ins.take kk)) ∧ Aside (Below w.heap.size (w.alloc (.cells #[.int .i64 t.states, .slice HA hn hc, .slice NA nn nc] 40)) wr) ∧ Aside (Row wr w.heap.size 40 [.int .i64 t.states, .slice HA hn hc, .slice NA nn nc]))
  case atStart => exact ⟨0, _, Nat.zero_le _, by omega, rfl, rfl, (show _ = _ by rw [HL.out]; rfl), Below.refl _ _, Row.new w _ _⟩
  case round =>
    obtain ⟨kk, z, hkk, hgg, rfl, rfl, HZ, BW, RW⟩ := hrel
    have HBr : Hid (Below w.heap.size w wr) := (show Below w.heap.size w (w.alloc (.cells #[.int .i64 t.states, .slice HA hn hc, .slice NA nn nc] 40)) by go_grown).trans BW.out
    by_cases hlt : kk < n
    · have hltz : (kk : Int) < (n : Int) := by omega
      obtain ⟨kn, sn, e1, e2, h1, h2, e3⟩ := walk_step HR.out ins HLI.out HS.out kk (by rw [HIL.out]; exact hlt)
      rw [HZ.out.symm] at e1
      subst e1
      rw [HL.out] at h1
      obtain ⟨ad, rfl, hb', g0, g1⟩ := (H.out.up HBr.out).node h1
      have HNX := (H.out.up HBr.out).next kn (by rw [HL.out]; exact h1)
      have hql2 : (t.nodes.getD kn default).next.length = (sl.getD kn default).len := by have := HNX.1.1; rw [ints_length, Nat.mul_one] at this; exact this
      rw [hql2] at h2
      generalize hq : sl.getD kn default = q at g1 HNX h2
      obtain ⟨qa, ql, qc⟩ := q
      dsimp only at HNX g1 h2
      obtain ⟨ad2, rfl, hb2, g2⟩ := HNX.1.int h2
      obtain ⟨ad3, rfl, hb3, g3⟩ := (HI.out.up HBr.out).int hlt
      rw [e2] at g3
      rw [← e3] at g2
      generalize hv : walkT t ((t.nodes.length : Int) - 1) (ins.take (kk + 1)) = v at g2
      have HV : Hid (v = walkT t ((t.nodes.length : Int) - 1) (ins.take (kk + 1))) := hv.symm
      have hi1 : (kn : Int) < (nn : Int) := by omega
      have hi2 : (0 : Int) ≤ (kn : Int) := by omega
      have hi3 : (sn : Int) < (ql : Int) := by omega
      have hi4 : (0 : Int) ≤ (sn : Int) := by omega
      clear hv hq hql2 HNX e2 e3 g0 HZ
      have k0 := RW.out.cell 0
      have k1 := RW.out.cell 1
      have k2 := RW.out.cell 2
      have kl := RW.out.lt
      simp only [List.getElem?_cons_zero, List.getElem?_cons_succ] at k0 k1 k2
      go_wp2_with fail
      try go_quiet (fail)
      go_wp2
      go_roundg (n - (kk + 1))
      case measure => omega
      case rel => exact ⟨kk + 1, v, by omega, by omega, by go_num, rfl, HV.out, (by first | exact below_drewN BW.out _ | exact BW.out), (by first | exact RW.out | exact RW.out.drewN _)⟩
    · have hltz : ¬ (kk : Int) < (n : Int) := by omega
      obtain rfl : kk = n := by omega
      go_wp2
      go_ret
      refine ⟨ret_i64 ?_, HBr.out⟩
      rw [HZ.out, valueT, List.take_of_length_le (by rw [HIL.out]; exact Nat.le_refl _)]

/-- The predicate that a state is none of the rule's. -/
theorem evalPred_any (t : Tre) (x : Int) (b : Nat) (HA NA : Option Addr) (hn hc nn nc : Nat) (w : World) (hc0 : w.cell? ⟨b, 0, none⟩ = some (.int .i64 t.states)) :
    Calls Try.prog 55 #[.int .i64 x, .pointer (some ⟨b, 0, none⟩)] w fun e w' => e = .returned (.bool (!stateIn t x)) ∧ w = w' := by
  by_cases h0 : x < 0
  · have d0 : decide (x < 0) = true := by simpa using h0
    have HK : Hid ((!stateIn t x) = true) := by show _ = _; simp [stateIn]; omega
    go_enter Try.func55, Try.ntmps55
    go_wp2
    go_ret
    exact ⟨ret_bool HK.out.symm, rfl⟩
  · have d0 : decide (x < 0) = false := by simpa using h0
    go_enter Try.func55, Try.ntmps55
    go_wp2
    go_ret
    refine ⟨ret_bool ?_, rfl⟩
    rw [Bool.eq_iff_iff]; simp [stateIn]; omega

set_option maxRecDepth 100000 in
set_option maxHeartbeats 2000000 in
theorem tEval_any (t : Tre) (HA NA IA : Option Addr) (hn hc nn nc n ic : Nat) (sl : List Sl) (ins : List Int) (w : World) (h : TAt w t HA NA hn nn sl) (hI : Rd w w.heap.size 1 IA n (ints ins)) (hm : n ≤ maxLen) :
    Calls Try.prog 28 #[.agg #[.int .i64 t.states, .slice HA hn hc, .slice NA nn nc], .slice IA n ic] w (TEvalPost t ins w) := by
  have H : Hid (TAt w t HA NA hn nn sl) := h
  have HLH : Hid (t.hood.length = hn) := h.hl
  have HI : Hid (Rd w w.heap.size 1 IA n (ints ins)) := hI
  have HIL : Hid (ins.length = n) := by have := hI.1; simp at this; show _ = _; omega
  have hm1 := h.h63
  clear h hI
  unfold maxLen at hm hm1
  go_enter Try.func28, Try.ntmps28
  go_wp2_with fail
  refine (treeRight_any t HA NA hn hc nn nc sl _ (H.out.up (by go_grown))).mono ?_
  rintro e w1 ⟨rfl, hb⟩
  have HB : Hid (Below w.heap.size w w1) := below_next hb (by go_grown)
  have RA : Hid (Row w1 w.heap.size 40 [.int .i64 t.states, .slice HA hn hc, .slice NA nn nc]) := rowCells (Row.new w 40 [.int .i64 t.states, .slice HA hn hc, .slice NA nn nc]) hb
  clear hb
  have k0 := RA.out.cell 0
  have k1 := RA.out.cell 1
  have k2 := RA.out.cell 2
  have kl := RA.out.lt
  simp only [List.getElem?_cons_zero, List.getElem?_cons_succ] at k0 k1 k2
  cases hr : rightT t
  · have HE : Hid (evalErr t ins = 11) := evalErr_11 hr
    clear hr
    go_wp2
    go_ret2
    exact tevalPost_err HE.out (by decide) HB.out
  have HR : Hid (rightT t = true) := hr
  clear hr
  cases hne : ((n : Int) != (hn : Int))
  case true =>
    have HE : Hid (evalErr t ins = 2) := evalErr_2 HR.out (by rw [HIL.out, HLH.out]; intro e; rw [e] at hne; simp at hne)
    go_wp2
    go_ret2
    exact tevalPost_err HE.out (by decide) HB.out
  have hqq : (n : Int) = (hn : Int) := by simpa using hne
  obtain rfl : n = hn := by omega
  clear hne hqq
  have HLI : Hid (ins.length = t.hood.length) := HIL.out.trans HLH.out.symm
  have hnn : ((n : Int) != (n : Int)) = false := by simp
  go_wp2_with fail
  refine (containsFunc_ints IA n ic ins _ _ (fun x => !stateIn t x) _ (enters Try.func55 (by kernel_rfl) rfl) (HI.out.up HB.out) (by omega) ?_).mono ?_
  · intro W x hx hb
    refine (evalPred_any t x w.heap.size HA NA n hc nn nc W ((rowCells RA.out hb).cell 0)).mono ?_
    rintro e w' ⟨rfl, rfl⟩
    exact ⟨rfl, hb⟩
  rintro e w2 ⟨rfl, hb⟩
  have HB2 : Hid (Below w.heap.size w w2) := below_on2 HB.out hb
  have RA := (show Hid (Row w2 _ _ _) from rowCells RA.out hb)
  have hall : ins.any (fun x => !stateIn t x) = !ins.all (stateIn t) := by simp [List.all_eq_not_any_not]
  rw [hall]
  clear hb hall k0 k1 k2 kl
  have k0 := RA.out.cell 0
  have k1 := RA.out.cell 1
  have k2 := RA.out.cell 2
  have kl := RA.out.lt
  simp only [List.getElem?_cons_zero, List.getElem?_cons_succ] at k0 k1 k2
  cases hs : ins.all (stateIn t)
  · have HE : Hid (evalErr t ins = 10) := evalErr_10 HR.out HLI.out hs
    clear hs
    go_wp2
    go_ret2
    exact tevalPost_err HE.out (by decide) HB2.out
  have HS : Hid (ins.all (stateIn t) = true) := hs
  clear hs
  go_wp2_with fail
  refine (value_any t HA NA IA n hc nn nc n ic sl ins _ (H.out.up HB2.out) (HI.out.up HB2.out) HR.out HLI.out HS.out).mono ?_
  rintro e w3 ⟨rfl, hb⟩
  have HB3 : Hid (Below w.heap.size w w3) := below_on2 HB2.out hb
  have HE : Hid (evalErr t ins = 0) := evalErr_0 HR.out HLI.out HS.out
  clear hb
  go_wp2
  go_ret2
  refine ⟨?_, HB3.out⟩
  rw [evalV, if_pos HE.out, HE.out]
  rfl
end Go.Proofs.Ytamijjpnklbgnaa

/-
  The law: the circuit of a rule, optimized, leads to the new states of the tree; walked.
-/
namespace Go.Proofs.Ytamijjpnklbgnaa
open Go.RowKit
set_option linter.unusedSimpArgs false
set_option linter.unusedVariables false
theorem evalErr_cases {t : Tre} {ins : List Int} (h : rightT t = true) : evalErr t ins = 0 ∨ evalErr t ins = 2 ∨ evalErr t ins = 10 := by
  by_cases hl : ins.length = t.hood.length
  · cases ha : ins.all (stateIn t) with
    | false => exact .inr (.inr (evalErr_10 h hl ha))
    | true => exact .inl (evalErr_0 h hl ha)
  · exact .inr (.inl (evalErr_2 h hl))
theorem lowR_in {t : Tre} (h : rightT t = true) : (lowR t).inputs = (lowN t : Int) := by rw [lowR, if_pos h]
theorem rules_value {t : Tre} {ins : List Int} (hr : rightT t = true) (hm : t.nodes.length ≤ 400) (h : evalErr t ins = 0) :
    stateF (outsG evalB false (allC (lowR t)) (inputsB t ins)) = evalV t ins := by
  rw [all_sem (lowR_right hr hm) (by rw [inputs_len h, lowR_in hr]), (low_same h).2, evalV, if_pos h]
set_option maxRecDepth 100000 in
set_option maxHeartbeats 8000000 in
theorem lawRules_any (t : Tre) (HA NA IA : Option Addr) (hn hc nn nc n ic : Nat) (sl : List Sl) (ins : List Int) (w : World) (h : TAt w t HA NA hn nn sl) (hI : Rd w w.heap.size 1 IA n (ints ins)) (hm : n ≤ maxLen) :
    Calls Try.prog 8 #[.agg #[.int .i64 t.states, .slice HA hn hc, .slice NA nn nc], .slice IA n ic] w fun e w' => e = .returned (.bool true) ∧ Below w.heap.size w w' := by
  have HT : Hid (TAt w t HA NA hn nn sl) := h
  have HLN : Hid (t.nodes.length = nn) := h.nl
  have HI : Hid (Rd w w.heap.size 1 IA n (ints ins)) := hI
  have HNM : Hid (n ≤ maxLen) := hm
  clear h hI hm
  go_enter Try.func8, Try.ntmps8
  go_upto_region 1 with fail
  have RT : Hid (Row (World.alloc w (.cells #[.int .i64 t.states, .slice HA hn hc, .slice NA nn nc] 40)) (w.heap.size) 40 [.int .i64 t.states, .slice HA hn hc, .slice NA nn nc]) := by
    have h0 := Row.new w 40 [.int .i64 t.states, .slice HA hn hc, .slice NA nn nc]
    try simp only [World.size_alloc] at h0
    exact h0
  have hgr9 : Below w.heap.size w (World.alloc w (.cells #[.int .i64 t.states, .slice HA hn hc, .slice NA nn nc] 40)) := by go_grown
  have B_w : Hid (Below w.heap.size w (World.alloc w (.cells #[.int .i64 t.states, .slice HA hn hc, .slice NA nn nc] 40))) := hgr9
  clear hgr9
  revert RT B_w
  generalize (World.alloc w (.cells #[.int .i64 t.states, .slice HA hn hc, .slice NA nn nc] 40)) = wa
  intro RT B_w
  have kR : Hid (Row wa (w.heap.size) 40 [.int .i64 t.states, .slice HA hn hc, .slice NA nn nc]) := RT.out
  have k0 := kR.out.cell 0
  have k1 := kR.out.cell 1
  have k2 := kR.out.cell 2
  have kl := kR.out.lt
  simp only [List.getElem?_cons_zero, List.getElem?_cons_succ] at k0 k1 k2
  clear kR
  go_wp2_with fail
  obtain ⟨q, hq⟩ : ∃ q, fewT t = q := ⟨_, rfl⟩
  have HQ : Hid (∀ _ : Unit, fewT t = q) := fun _ => hq
  have HC := fewT_any t HA NA hn hc nn nc sl wa (HT.out.up B_w.out)
  rw [hq] at HC
  clear hq
  refine HC.mono ?_
  clear HC
  rintro e w1 ⟨rfl, hb⟩
  have B_w : Hid (Below w.heap.size w w1) := below_on2 B_w.out hb
  have B_wa : Hid (Below wa.heap.size wa w1) := hb
  clear k0 k1 k2 kl
  clear hb
  cases q
  · go_wp2_with fail
    refine (awake_any w1).mono ?_
    rintro e y1 ⟨rfl, hb⟩
    have B_w : Hid (Below w.heap.size w y1) := below_on2 B_w.out hb
    have B_wa : Hid (Below wa.heap.size wa y1) := below_on2 B_wa.out hb
    have B_w1 : Hid (Below w1.heap.size w1 y1) := hb
    clear hb
    go_wp2_with fail
    go_ret
    exact ⟨rfl, B_w.out⟩
  clear HQ
  by_cases hnn : 40 < nn
  · have hd1 : decide ((40 : Int) < (nn : Int)) = true := decide_eq_true (by omega)
    have kR : Hid (Row w1 (w.heap.size) 40 [.int .i64 t.states, .slice HA hn hc, .slice NA nn nc]) := (rowCells RT.out B_wa.out)
    have k0 := kR.out.cell 0
    have k1 := kR.out.cell 1
    have k2 := kR.out.cell 2
    have kl := kR.out.lt
    simp only [List.getElem?_cons_zero, List.getElem?_cons_succ] at k0 k1 k2
    clear kR
    go_wp2_with fail
    refine (awake_any w1).mono ?_
    rintro e y1 ⟨rfl, hb⟩
    have B_w : Hid (Below w.heap.size w y1) := below_on2 B_w.out hb
    have B_wa : Hid (Below wa.heap.size wa y1) := below_on2 B_wa.out hb
    have B_w1 : Hid (Below w1.heap.size w1 y1) := hb
    clear k0 k1 k2 kl
    clear hb
    go_wp2_with fail
    go_ret
    exact ⟨rfl, B_w.out⟩
  have hd1 : decide ((40 : Int) < (nn : Int)) = false := decide_eq_false (by omega)
  by_cases hn40 : 40 < n
  · have hd2 : decide ((40 : Int) < (n : Int)) = true := decide_eq_true (by omega)
    have rt0 : Row w1 w.heap.size 40 [.int .i64 t.states, .slice HA hn hc, .slice NA nn nc] := (rowCells RT.out B_wa.out)
    have kk2 := rt0.cell 2
    have kkl := rt0.lt
    simp only [List.getElem?_cons_zero, List.getElem?_cons_succ] at kk2
    clear rt0
    go_wp2_with fail
    clear kk2 kkl
    refine (awake_any w1).mono ?_
    rintro e y1 ⟨rfl, hb⟩
    have B_w : Hid (Below w.heap.size w y1) := below_on2 B_w.out hb
    have B_wa : Hid (Below wa.heap.size wa y1) := below_on2 B_wa.out hb
    have B_w1 : Hid (Below w1.heap.size w1 y1) := hb
    clear hb
    go_wp2_with fail
    go_ret
    exact ⟨rfl, B_w.out⟩
  have hd2 : decide ((40 : Int) < (n : Int)) = false := decide_eq_false (by omega)
  obtain ⟨q, hq⟩ : ∃ q, rightT t = q := ⟨_, rfl⟩
  have HQ : Hid (∀ _ : Unit, rightT t = q) := fun _ => hq
  have kR : Hid (Row w1 (w.heap.size) 40 [.int .i64 t.states, .slice HA hn hc, .slice NA nn nc]) := (rowCells RT.out B_wa.out)
  have k0 := kR.out.cell 0
  have k1 := kR.out.cell 1
  have k2 := kR.out.cell 2
  have kl := kR.out.lt
  simp only [List.getElem?_cons_zero, List.getElem?_cons_succ] at k0 k1 k2
  clear kR
  go_wp2_with fail
  have HC := rTreeRight_any t HA NA hn hc nn nc sl w1 (HT.out.up B_w.out)
  rw [hq] at HC
  clear hq
  refine HC.mono ?_
  clear HC
  rintro e w2 ⟨rfl, hb⟩
  clear hd1 hd2
  have B_w : Hid (Below w.heap.size w w2) := below_on2 B_w.out hb
  have B_wa : Hid (Below wa.heap.size wa w2) := below_on2 B_wa.out hb
  have B_w1 : Hid (Below w1.heap.size w1 w2) := hb
  clear k0 k1 k2 kl
  clear hb
  cases q
  · go_wp2_with fail
    refine (awake_any w2).mono ?_
    rintro e y1 ⟨rfl, hb⟩
    have B_w : Hid (Below w.heap.size w y1) := below_on2 B_w.out hb
    have B_wa : Hid (Below wa.heap.size wa y1) := below_on2 B_wa.out hb
    have B_w1 : Hid (Below w1.heap.size w1 y1) := below_on2 B_w1.out hb
    have B_w2 : Hid (Below w2.heap.size w2 y1) := hb
    clear hb
    go_wp2_with fail
    go_ret
    exact ⟨rfl, B_w.out⟩
  have HR : Hid (rightT t = true) := HQ.out ()
  have HN4 : Hid (t.nodes.length ≤ 400) := (by have := HLN.out; show _ ≤ _; omega)
  clear HQ hn40
  have kR : Hid (Row w2 (w.heap.size) 40 [.int .i64 t.states, .slice HA hn hc, .slice NA nn nc]) := (rowCells RT.out B_wa.out)
  have k0 := kR.out.cell 0
  have k1 := kR.out.cell 1
  have k2 := kR.out.cell 2
  have kl := kR.out.lt
  simp only [List.getElem?_cons_zero, List.getElem?_cons_succ] at k0 k1 k2
  clear kR
  go_wp2_with fail
  obtain ⟨er, her⟩ : ∃ er, evalErr t ins = er := ⟨_, rfl⟩
  obtain ⟨ev, hev⟩ : ∃ ev, evalV t ins = ev := ⟨_, rfl⟩
  have HER : Hid (∀ _ : Unit, evalErr t ins = er) := fun _ => her
  have HEV : Hid (∀ _ : Unit, evalV t ins = ev) := fun _ => hev
  have HC := tEval_any t HA NA IA hn hc nn nc n ic sl ins w2 (HT.out.up B_w.out) (HI.out.up B_w.out) HNM.out
  unfold TEvalPost at HC
  have hcs := evalErr_cases (ins := ins) HR.out
  rw [her, hev] at HC
  rw [her] at hcs
  clear her hev
  refine HC.mono ?_
  clear HC
  rintro e w3 ⟨rfl, hb⟩
  have B_w : Hid (Below w.heap.size w w3) := below_on2 B_w.out hb
  have B_wa : Hid (Below wa.heap.size wa w3) := below_on2 B_wa.out hb
  have B_w1 : Hid (Below w1.heap.size w1 w3) := below_on2 B_w1.out hb
  have B_w2 : Hid (Below w2.heap.size w2 w3) := hb
  clear k0 k1 k2 kl
  clear hb
  rcases hcs with rfl | rfl | rfl
  rotate_left 1
  · go_wp2_with fail
    refine (awake_any w3).mono ?_
    rintro e y1 ⟨rfl, hb⟩
    have B_w : Hid (Below w.heap.size w y1) := below_on2 B_w.out hb
    have B_wa : Hid (Below wa.heap.size wa y1) := below_on2 B_wa.out hb
    have B_w1 : Hid (Below w1.heap.size w1 y1) := below_on2 B_w1.out hb
    have B_w2 : Hid (Below w2.heap.size w2 y1) := below_on2 B_w2.out hb
    have B_w3 : Hid (Below w3.heap.size w3 y1) := hb
    clear hb
    go_wp2_with fail
    go_ret
    exact ⟨rfl, B_w.out⟩
  · go_wp2_with fail
    refine (awake_any w3).mono ?_
    rintro e y1 ⟨rfl, hb⟩
    have B_w : Hid (Below w.heap.size w y1) := below_on2 B_w.out hb
    have B_wa : Hid (Below wa.heap.size wa y1) := below_on2 B_wa.out hb
    have B_w1 : Hid (Below w1.heap.size w1 y1) := below_on2 B_w1.out hb
    have B_w2 : Hid (Below w2.heap.size w2 y1) := below_on2 B_w2.out hb
    have B_w3 : Hid (Below w3.heap.size w3 y1) := hb
    clear hb
    go_wp2_with fail
    go_ret
    exact ⟨rfl, B_w.out⟩
  have kR : Hid (Row w3 (w.heap.size) 40 [.int .i64 t.states, .slice HA hn hc, .slice NA nn nc]) := (rowCells RT.out B_wa.out)
  have k0 := kR.out.cell 0
  have k1 := kR.out.cell 1
  have k2 := kR.out.cell 2
  have kl := kR.out.lt
  simp only [List.getElem?_cons_zero, List.getElem?_cons_succ] at k0 k1 k2
  clear kR
  go_wp2_with fail
  have HC := lower_any t HA NA hn hc nn nc sl w3 (HT.out.up B_w.out) (by omega)
  have hle : lowErr t = 0 := by rw [lowErr, if_pos HR.out]
  unfold CPost at HC
  rw [hle] at HC
  clear hle
  refine HC.mono ?_
  clear HC
  rintro e w4 ⟨GA, OA, gn, gc, on, oc, he, hca, hb⟩
  have he2 : e = .returned (.tuple #[.agg #[.int .i64 (lowR t).inputs, .slice GA gn gc, .slice OA on oc], .int .i64 0]) := he
  subst he2
  have HL : Hid (CAt w4 (lowR t) GA OA gn on) := hca
  clear he hca
  have B_w : Hid (Below w.heap.size w w4) := below_on2 B_w.out hb
  have B_wa : Hid (Below wa.heap.size wa w4) := below_on2 B_wa.out hb
  have B_w1 : Hid (Below w1.heap.size w1 w4) := below_on2 B_w1.out hb
  have B_w2 : Hid (Below w2.heap.size w2 w4) := below_on2 B_w2.out hb
  have B_w3 : Hid (Below w3.heap.size w3 w4) := hb
  clear k0 k1 k2 kl
  clear hb
  go_upto_region 7 with fail
  have RL : Hid (Row (World.alloc w4 (.cells #[.int .i64 (lowR t).inputs, .slice GA gn gc, .slice OA on oc] 25)) (w4.heap.size) 25 [.int .i64 (lowR t).inputs, .slice GA gn gc, .slice OA on oc]) := by
    have h0 := Row.new w4 25 [.int .i64 (lowR t).inputs, .slice GA gn gc, .slice OA on oc]
    try simp only [World.size_alloc] at h0
    exact h0
  have hgr9 : Below w4.heap.size w4 (World.alloc w4 (.cells #[.int .i64 (lowR t).inputs, .slice GA gn gc, .slice OA on oc] 25)) := by go_grown
  have B_w : Hid (Below w.heap.size w (World.alloc w4 (.cells #[.int .i64 (lowR t).inputs, .slice GA gn gc, .slice OA on oc] 25))) := below_on2 B_w.out hgr9
  have B_wa : Hid (Below wa.heap.size wa (World.alloc w4 (.cells #[.int .i64 (lowR t).inputs, .slice GA gn gc, .slice OA on oc] 25))) := below_on2 B_wa.out hgr9
  have B_w1 : Hid (Below w1.heap.size w1 (World.alloc w4 (.cells #[.int .i64 (lowR t).inputs, .slice GA gn gc, .slice OA on oc] 25))) := below_on2 B_w1.out hgr9
  have B_w2 : Hid (Below w2.heap.size w2 (World.alloc w4 (.cells #[.int .i64 (lowR t).inputs, .slice GA gn gc, .slice OA on oc] 25))) := below_on2 B_w2.out hgr9
  have B_w3 : Hid (Below w3.heap.size w3 (World.alloc w4 (.cells #[.int .i64 (lowR t).inputs, .slice GA gn gc, .slice OA on oc] 25))) := below_on2 B_w3.out hgr9
  have B_w4 : Hid (Below w4.heap.size w4 (World.alloc w4 (.cells #[.int .i64 (lowR t).inputs, .slice GA gn gc, .slice OA on oc] 25))) := hgr9
  clear hgr9
  revert RL B_w B_wa B_w1 B_w2 B_w3 B_w4
  generalize (World.alloc w4 (.cells #[.int .i64 (lowR t).inputs, .slice GA gn gc, .slice OA on oc] 25)) = w5
  intro RL B_w B_wa B_w1 B_w2 B_w3 B_w4
  have kR : Hid (Row w5 (w.heap.size) 40 [.int .i64 t.states, .slice HA hn hc, .slice NA nn nc]) := (rowCells RT.out B_wa.out)
  have k0 := kR.out.cell 0
  have k1 := kR.out.cell 1
  have k2 := kR.out.cell 2
  have kl := kR.out.lt
  simp only [List.getElem?_cons_zero, List.getElem?_cons_succ] at k0 k1 k2
  clear kR
  go_wp2_with fail
  have HC := lInputs_any t HA NA IA hn hc nn nc n ic sl ins w5 (HT.out.up B_w.out) (HI.out.up B_w.out) HNM.out
  unfold InputsPost at HC
  rw [HER.out ()] at HC
  refine HC.mono ?_
  clear HC
  rintro e w6 ⟨BA, bn, bc, rfl, hbd, hbm, hb⟩
  have HBD : Hid (Rd w6 w6.heap.size 1 BA bn (bools (inputsB t ins))) := (by
    show Rd _ _ _ _ _ _
    rw [inputsR, if_pos (HER.out ())] at hbd; exact hbd)
  have HBN : Hid (∀ _ : Unit, (bn : Int) = (lowR t).inputs) := fun _ => by
    have h1 := HBD.out.1
    have h2 := inputs_len (HER.out ())
    rw [lowR_in HR.out, ← h2]
    simp [bools] at h1
    omega
  clear hbd hbm
  have B_w : Hid (Below w.heap.size w w6) := below_on2 B_w.out hb
  have B_wa : Hid (Below wa.heap.size wa w6) := below_on2 B_wa.out hb
  have B_w1 : Hid (Below w1.heap.size w1 w6) := below_on2 B_w1.out hb
  have B_w2 : Hid (Below w2.heap.size w2 w6) := below_on2 B_w2.out hb
  have B_w3 : Hid (Below w3.heap.size w3 w6) := below_on2 B_w3.out hb
  have B_w4 : Hid (Below w4.heap.size w4 w6) := below_on2 B_w4.out hb
  have B_w5 : Hid (Below w5.heap.size w5 w6) := hb
  clear k0 k1 k2 kl
  clear hb
  have kR : Hid (Row w6 (w4.heap.size) 25 [.int .i64 (lowR t).inputs, .slice GA gn gc, .slice OA on oc]) := (rowCells RL.out B_w5.out)
  have k0 := kR.out.cell 0
  have k1 := kR.out.cell 1
  have k2 := kR.out.cell 2
  have kl := kR.out.lt
  simp only [List.getElem?_cons_zero, List.getElem?_cons_succ] at k0 k1 k2
  clear kR
  go_wp2_with fail
  have hlr := lowR_right HR.out HN4.out
  have HC := all_any (lowR t) GA OA gn gc on oc w6 (HL.out.up B_w4.out)
  have HAI : Hid (∀ _ : Unit, (allC (lowR t)).inputs = (lowR t).inputs) := fun _ => (all_io hlr).1
  have HAR : Hid (rightC (allC (lowR t)) = true) := all_right hlr
  have HVL : Hid (∀ _ : Unit, stateF (outsG evalB false (allC (lowR t)) (inputsB t ins)) = ev) := fun _ => (rules_value HR.out HN4.out (HER.out ())).trans (HEV.out ())
  clear hlr
  refine HC.mono ?_
  clear HC
  rintro e w7 ⟨DA, EA, dn, dc, en, ec, he, hca, -, -, hb⟩
  have he2 : e = .returned (.agg #[.int .i64 (allC (lowR t)).inputs, .slice DA dn dc, .slice EA en ec]) := he
  subst he2
  have HD : Hid (CAt w7 (allC (lowR t)) DA EA dn en) := hca
  have henm : en ≤ maxLen := hca.o63
  have HEN : Hid (en ≤ maxLen) := henm
  clear he hca henm
  have B_w : Hid (Below w.heap.size w w7) := below_on2 B_w.out hb
  have B_wa : Hid (Below wa.heap.size wa w7) := below_on2 B_wa.out hb
  have B_w1 : Hid (Below w1.heap.size w1 w7) := below_on2 B_w1.out hb
  have B_w2 : Hid (Below w2.heap.size w2 w7) := below_on2 B_w2.out hb
  have B_w3 : Hid (Below w3.heap.size w3 w7) := below_on2 B_w3.out hb
  have B_w4 : Hid (Below w4.heap.size w4 w7) := below_on2 B_w4.out hb
  have B_w5 : Hid (Below w5.heap.size w5 w7) := below_on2 B_w5.out hb
  have B_w6 : Hid (Below w6.heap.size w6 w7) := hb
  clear k0 k1 k2 kl
  clear hb
  go_wp2_with fail
  have HC := eval_right (allC (lowR t)) DA EA BA dn dc en ec bn bc (inputsB t ins) w7 HD.out (HBD.out.up B_w6.out) HAR.out (by rw [HAI.out ()]; exact HBN.out ())
  refine HC.mono ?_
  clear HC
  rintro e w8 ⟨g, rfl, hrow, hg, hb⟩
  have HG : Hid (Row w8 g 4 (bools (outsG evalB false (allC (lowR t)) (inputsB t ins)))) := hrow
  clear hrow hg
  have B_w : Hid (Below w.heap.size w w8) := below_on2 B_w.out hb
  have B_wa : Hid (Below wa.heap.size wa w8) := below_on2 B_wa.out hb
  have B_w1 : Hid (Below w1.heap.size w1 w8) := below_on2 B_w1.out hb
  have B_w2 : Hid (Below w2.heap.size w2 w8) := below_on2 B_w2.out hb
  have B_w3 : Hid (Below w3.heap.size w3 w8) := below_on2 B_w3.out hb
  have B_w4 : Hid (Below w4.heap.size w4 w8) := below_on2 B_w4.out hb
  have B_w5 : Hid (Below w5.heap.size w5 w8) := below_on2 B_w5.out hb
  have B_w6 : Hid (Below w6.heap.size w6 w8) := below_on2 B_w6.out hb
  have B_w7 : Hid (Below w7.heap.size w7 w8) := hb
  clear hb
  have HLO : Hid ((outsG evalB false (allC (lowR t)) (inputsB t ins)).length = en) := (by show _ = _; rw [outsG_len]; exact HD.out.ol)
  go_wp2_with fail
  have HC := lState_any (some ⟨g, 0, none⟩) en en (outsG evalB false (allC (lowR t)) (inputsB t ins)) w8 (Row.rd HG.out (by rw [bools_length, HLO.out]; omega)) HEN.out
  rw [HVL.out ()] at HC
  refine HC.mono ?_
  clear HC
  rintro e w9 ⟨rfl, rfl⟩
  go_wp2_with fail
  refine (awake_any w8).mono ?_
  rintro e y1 ⟨rfl, hb⟩
  have B_w : Hid (Below w.heap.size w y1) := below_on2 B_w.out hb
  have B_wa : Hid (Below wa.heap.size wa y1) := below_on2 B_wa.out hb
  have B_w1 : Hid (Below w1.heap.size w1 y1) := below_on2 B_w1.out hb
  have B_w2 : Hid (Below w2.heap.size w2 y1) := below_on2 B_w2.out hb
  have B_w3 : Hid (Below w3.heap.size w3 y1) := below_on2 B_w3.out hb
  have B_w4 : Hid (Below w4.heap.size w4 y1) := below_on2 B_w4.out hb
  have B_w5 : Hid (Below w5.heap.size w5 y1) := below_on2 B_w5.out hb
  have B_w6 : Hid (Below w6.heap.size w6 y1) := below_on2 B_w6.out hb
  have B_w7 : Hid (Below w7.heap.size w7 y1) := below_on2 B_w7.out hb
  have B_w8 : Hid (Below w8.heap.size w8 y1) := hb
  clear hb
  go_wp2_with fail
  go_ret
  exact ⟨rfl, B_w.out⟩
end Go.Proofs.Ytamijjpnklbgnaa

/-
  The row of OptimizeRules.
-/
namespace Go.Proofs.Ytamijjpnklbgnaa
open Go.RowKit Go.ChangeShapes Go.WideShapes Go.ChangeAt Go.Joins
set_option linter.unusedSimpArgs false
set_option linter.unusedVariables false

set_option maxRecDepth 100000 in
theorem optimizeRules_lifted (os : Os) (started : os.Started) (H : Type) (enc : TypeId × Value → H) :
    ReturnsInHanded {} Try.checked os 8 .any (Rows.optimizeRulesSpec.pre6 enc Try.prog Try.f8 Rows.optimizeRulesRow.domain false) (Rows.optimizeRulesSpec.post enc Try.prog Try.f8 false true false false) := by
  refine returnsInHanded_of_change (C := Try.checked) Try.own' started (by kernel_rfl) Try.func8
    (ChangeSpec.witness6 (enc := enc) (C := Try.checked) false ⟨#[], #[.agg #[.int .i64 0, .slice none 0 0, .slice none 0 0], .slice none 0 0], []⟩ 8 (by kernel_rfl) (by kernel_rfl) (by kernel_rfl) (by kernel_rfl)) ?_
  intro W base args ds gs before hval0 hW hcnd _
  have hval : ∀ (j : Nat) t v, Try.f8.params[j]? = some t → args[j]? = some v → Value.okWide Try.prog W .any base t v := hval0
  have hW' := hW
  obtain ⟨p, q, hA0, hV, rfl, hfz, hnd⟩ := hW
  have hA : DataW.TrodAll enc Try.prog W 0 (fun _ => true) true Try.f8.params.toList args.toList ds p := hA0
  rw [Try.params8] at hA hval
  obtain ⟨v0, v1, d0, d1, p0, p1, rfl, rfl, rfl, h0, h1⟩ := trodAll_two hA
  obtain ⟨rfl, rfl⟩ := trodVars_none hV
  have h0k := h0
  have hlt0 : ∀ x ∈ p0, x.block < W.heap.size := fun x hx => hW'.lt x (by simp [hx])
  have h1k := h1
  have hlt1 : ∀ x ∈ p1, x.block < W.heap.size := fun x hx => hW'.lt x (by simp [hx])
  obtain ⟨t0, HA0, hn0, hc0, NA0, nn0, nc0, sl0, rfl, hm0⟩ := open_tree (hval 0 40 v0 rfl rfl) h0
  obtain ⟨A1, n1, ac1, xs1, rfl, hm1, hn1⟩ := open_ints_arg (hval 1 23 v1 rfl rfl) h1
  clear hA0 hval0
  refine (lawRules_any t0 HA0 NA0 A1 hn0 hc0 nn0 nc0 n1 ac1 sl0 xs1 W hm0 hm1 hn1).mono fun e W' ⟨he, hb⟩ => ?_
  subst he
  exact ⟨_, rfl, law_post (pa := p0 ++ p1) (pv := []) hW' (fun _ _ _ => trodAll_mk1 (shut_bool Try.underlying4 true)) (trodAll_mk2 (Below.trod Try.laidOut' (by kernel_rfl) (of_decide_eq_true (by kernel_rfl)) h0k hb hlt0) (Below.trod Try.laidOut' (by kernel_rfl) (of_decide_eq_true (by kernel_rfl)) h1k hb hlt1)) rfl hb⟩

theorem optimizeRules_holds : Rows.OptimizeRulesSaid :=
  OpenClaim.holds_of_wide 8 Try.f8 rfl rfl rfl rfl rfl rfl rfl ⟨rfl, rfl, rfl, rfl, rfl⟩ rfl rfl rfl rfl rfl (by kernel_rfl) Try.func8 (by kernel_rfl)
    (of_decide_eq_true (by kernel_rfl)) (by unfold Func.isWrapper; first | (rw [if_pos (by decide +kernel)]; kernel_rfl) | (rw [if_neg (by decide +kernel)]; exact ⟨rfl, rfl⟩))
    (fun os started H enc _ => optimizeRules_lifted os started H enc)

end Go.Proofs.Ytamijjpnklbgnaa
