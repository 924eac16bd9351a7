/-
  Rule trees: tree.value, tree.Eval, and Quiet of the program and of the reference, walked.
-/
import Derived.Test.YtjacgoipfmiaiaaTEval
import Derived.Test.YtjacgoipfmiaiaaTSPlain
import Derived.Test.YtjacgoipfmiaiaaIndexFunc
namespace Go.Proofs.Ytjacgoipfmiaiaa
open Go.RowKit
set_option linter.unusedSimpArgs false
set_option linter.unusedVariables false

set_option maxRecDepth 100000 in
set_option maxHeartbeats 2000000 in
theorem value_any (t : Tre) (HA NA IA : Option Addr) (hn hc nn nc n ic : Nat) (sl : List Sl) (ins : List Int) (w : World) (h : TAt w t HA NA hn nn sl) (hI : Rd w w.heap.size 1 IA n (ints ins))
    (hr : rightT t = true) (hl : ins.length = t.hood.length) (hs : ins.all (stateIn t) = true) :
    Calls Try.prog 28 #[.agg #[.int .i64 t.states, .slice HA hn hc, .slice NA nn nc], .slice IA n ic] w fun e w' => e = .returned (.int .i64 (valueT t ins)) ∧ Below w.heap.size w w' := by
  have H : Hid (TAt w t HA NA hn nn sl) := h
  have HL : Hid (t.nodes.length = nn) := h.nl
  have HI : Hid (Rd w w.heap.size 1 IA n (ints ins)) := hI
  have HIL : Hid (ins.length = n) := by have := hI.1; simp at this; show _ = _; omega
  have hm2 := h.n63
  have HLI : Hid (ins.length = t.hood.length) := hl
  have HS : Hid (ins.all (stateIn t) = true) := hs
  obtain ⟨hh, ⟨_, k1, k2, _⟩, _⟩ := rightT_parts hr
  have hn25 : n ≤ 25 := by
    simp only [hoodOk, Bool.and_eq_true, decide_eq_true_eq] at hh
    rw [← HIL.out, hl]; omega
  have HR : Hid (rightT t = true) := hr
  rw [HL.out] at k1 k2
  have hk0 : IntKind.i64.wrap ((nn : Int) - 1) = (nn : Int) - 1 := IntWalk.i64_in _ (by omega)
  clear h hI hr hl hs hh hm2
  go_enter Try.func28, Try.ntmps28
  go_wp2
  go_loopg [5, 7, 14] n (fun gg s5 s7 s14 wr => ∃ (kk : Nat) (z : Int), kk ≤ n ∧ n - kk ≤ gg ∧ s14 = .int .i64 kk ∧ s5 = .int .i64 z ∧ Aside (z = walkT t ((t.nodes.length : Int) - 1) (ins.take kk)) ∧ Aside (Below w.heap.size (w.alloc (.cells #[.int .i64 t.states, .slice HA hn hc, .slice NA nn nc] 25)) wr) ∧ Aside (Row wr w.heap.size 25 [.int .i64 t.states, .slice HA hn hc, .slice NA nn nc]))
  case atStart => exact ⟨0, _, Nat.zero_le _, by omega, rfl, rfl, (show _ = _ by rw [HL.out]; rfl), Below.refl _ _, Row.new w _ _⟩
  case round =>
    obtain ⟨kk, z, hkk, hgg, rfl, rfl, HZ, BW, RW⟩ := hrel
    have HBr : Hid (Below w.heap.size w wr) := (show Below w.heap.size w (w.alloc (.cells #[.int .i64 t.states, .slice HA hn hc, .slice NA nn nc] 25)) by go_grown).trans BW.out
    by_cases hlt : kk < n
    · have hltz : (kk : Int) < (n : Int) := by omega
      obtain ⟨kn, sn, e1, e2, h1, h2, e3⟩ := walk_step HR.out ins HLI.out HS.out kk (by rw [HIL.out]; exact hlt)
      rw [HZ.out.symm] at e1
      subst e1
      rw [HL.out] at h1
      obtain ⟨ad, rfl, hb', g0, g1⟩ := (H.out.up HBr.out).node h1
      have HNX := (H.out.up HBr.out).next kn (by rw [HL.out]; exact h1)
      have hql2 : (t.nodes.getD kn default).next.length = (sl.getD kn default).len := by have := HNX.1.1; rw [ints_length, Nat.mul_one] at this; exact this
      rw [hql2] at h2
      generalize hq : sl.getD kn default = q at g1 HNX h2
      obtain ⟨qa, ql, qc⟩ := q
      dsimp only at HNX g1 h2
      obtain ⟨ad2, rfl, hb2, g2⟩ := HNX.1.int h2
      obtain ⟨ad3, rfl, hb3, g3⟩ := (HI.out.up HBr.out).int hlt
      rw [e2] at g3
      rw [← e3] at g2
      generalize hv : walkT t ((t.nodes.length : Int) - 1) (ins.take (kk + 1)) = v at g2
      have HV : Hid (v = walkT t ((t.nodes.length : Int) - 1) (ins.take (kk + 1))) := hv.symm
      have hi1 : (kn : Int) < (nn : Int) := by omega
      have hi2 : (0 : Int) ≤ (kn : Int) := by omega
      have hi3 : (sn : Int) < (ql : Int) := by omega
      have hi4 : (0 : Int) ≤ (sn : Int) := by omega
      clear hv hq hql2 HNX e2 e3 g0 HZ
      have k0 := RW.out.cell 0
      have k1 := RW.out.cell 1
      have k2 := RW.out.cell 2
      have kl := RW.out.lt
      simp only [List.getElem?_cons_zero, List.getElem?_cons_succ] at k0 k1 k2
      go_wp2_with fail
      try go_quiet (fail)
      go_wp2
      go_roundg (n - (kk + 1))
      case measure => omega
      case rel => exact ⟨kk + 1, v, by omega, by omega, by go_num, rfl, HV.out, (by first | exact below_drewN BW.out _ | exact BW.out), (by first | exact RW.out | exact RW.out.drewN _)⟩
    · have hltz : ¬ (kk : Int) < (n : Int) := by omega
      obtain rfl : kk = n := by omega
      go_wp2
      go_ret
      refine ⟨ret_i64 ?_, HBr.out⟩
      rw [HZ.out, valueT, List.take_of_length_le (by rw [HIL.out]; exact Nat.le_refl _)]

/-- The predicate that a state is none of the rule's. -/
theorem evalPred_any (t : Tre) (x : Int) (b : Nat) (HA NA : Option Addr) (hn hc nn nc : Nat) (w : World) (hc0 : w.cell? ⟨b, 0, none⟩ = some (.int .i64 t.states)) :
    Calls Try.prog 30 #[.int .i64 x, .pointer (some ⟨b, 0, none⟩)] w fun e w' => e = .returned (.bool (!stateIn t x)) ∧ w = w' := by
  by_cases h0 : x < 0
  · have d0 : decide (x < 0) = true := by simpa using h0
    have HK : Hid ((!stateIn t x) = true) := by show _ = _; simp [stateIn]; omega
    go_enter Try.func30, Try.ntmps30
    go_wp2
    go_ret
    exact ⟨ret_bool HK.out.symm, rfl⟩
  · have d0 : decide (x < 0) = false := by simpa using h0
    go_enter Try.func30, Try.ntmps30
    go_wp2
    go_ret
    refine ⟨ret_bool ?_, rfl⟩
    rw [Bool.eq_iff_iff]; simp [stateIn]; omega

set_option maxRecDepth 100000 in
set_option maxHeartbeats 2000000 in
theorem tEval_any (t : Tre) (HA NA IA : Option Addr) (hn hc nn nc n ic : Nat) (sl : List Sl) (ins : List Int) (w : World) (h : TAt w t HA NA hn nn sl) (hI : Rd w w.heap.size 1 IA n (ints ins)) (hm : n ≤ maxLen) :
    Calls Try.prog 18 #[.agg #[.int .i64 t.states, .slice HA hn hc, .slice NA nn nc], .slice IA n ic] w (TEvalPost t ins w) := by
  have H : Hid (TAt w t HA NA hn nn sl) := h
  have HLH : Hid (t.hood.length = hn) := h.hl
  have HI : Hid (Rd w w.heap.size 1 IA n (ints ins)) := hI
  have HIL : Hid (ins.length = n) := by have := hI.1; simp at this; show _ = _; omega
  have hm1 := h.h63
  clear h hI
  unfold maxLen at hm hm1
  go_enter Try.func18, Try.ntmps18
  go_wp2_with fail
  refine (treeRight_any t HA NA hn hc nn nc sl _ (H.out.up (by go_grown))).mono ?_
  rintro e w1 ⟨rfl, hb⟩
  have HB : Hid (Below w.heap.size w w1) := below_next hb (by go_grown)
  have RA : Hid (Row w1 w.heap.size 25 [.int .i64 t.states, .slice HA hn hc, .slice NA nn nc]) := rowCells (Row.new w 25 [.int .i64 t.states, .slice HA hn hc, .slice NA nn nc]) hb
  clear hb
  have k0 := RA.out.cell 0
  have k1 := RA.out.cell 1
  have k2 := RA.out.cell 2
  have kl := RA.out.lt
  simp only [List.getElem?_cons_zero, List.getElem?_cons_succ] at k0 k1 k2
  cases hr : rightT t
  · have HE : Hid (evalErr t ins = 11) := evalErr_11 hr
    clear hr
    go_wp2
    go_ret2
    exact tevalPost_err HE.out (by decide) HB.out
  have HR : Hid (rightT t = true) := hr
  clear hr
  cases hne : ((n : Int) != (hn : Int))
  case true =>
    have HE : Hid (evalErr t ins = 2) := evalErr_2 HR.out (by rw [HIL.out, HLH.out]; intro e; rw [e] at hne; simp at hne)
    go_wp2
    go_ret2
    exact tevalPost_err HE.out (by decide) HB.out
  have hqq : (n : Int) = (hn : Int) := by simpa using hne
  obtain rfl : n = hn := by omega
  clear hne hqq
  have HLI : Hid (ins.length = t.hood.length) := HIL.out.trans HLH.out.symm
  have hnn : ((n : Int) != (n : Int)) = false := by simp
  go_wp2_with fail
  refine (containsFunc_ints IA n ic ins _ _ (fun x => !stateIn t x) _ (enters Try.func30 (by kernel_rfl) rfl) (HI.out.up HB.out) (by omega) ?_).mono ?_
  · intro W x hx hb
    refine (evalPred_any t x w.heap.size HA NA n hc nn nc W ((rowCells RA.out hb).cell 0)).mono ?_
    rintro e w' ⟨rfl, rfl⟩
    exact ⟨rfl, hb⟩
  rintro e w2 ⟨rfl, hb⟩
  have HB2 : Hid (Below w.heap.size w w2) := below_on2 HB.out hb
  have RA := (show Hid (Row w2 _ _ _) from rowCells RA.out hb)
  have hall : ins.any (fun x => !stateIn t x) = !ins.all (stateIn t) := by simp [List.all_eq_not_any_not]
  rw [hall]
  clear hb hall k0 k1 k2 kl
  have k0 := RA.out.cell 0
  have k1 := RA.out.cell 1
  have k2 := RA.out.cell 2
  have kl := RA.out.lt
  simp only [List.getElem?_cons_zero, List.getElem?_cons_succ] at k0 k1 k2
  cases hs : ins.all (stateIn t)
  · have HE : Hid (evalErr t ins = 10) := evalErr_10 HR.out HLI.out hs
    clear hs
    go_wp2
    go_ret2
    exact tevalPost_err HE.out (by decide) HB2.out
  have HS : Hid (ins.all (stateIn t) = true) := hs
  clear hs
  go_wp2_with fail
  refine (value_any t HA NA IA n hc nn nc n ic sl ins _ (H.out.up HB2.out) (HI.out.up HB2.out) HR.out HLI.out HS.out).mono ?_
  rintro e w3 ⟨rfl, hb⟩
  have HB3 : Hid (Below w.heap.size w w3) := below_on2 HB2.out hb
  have HE : Hid (evalErr t ins = 0) := evalErr_0 HR.out HLI.out HS.out
  clear hb
  go_wp2
  go_ret2
  refine ⟨?_, HB3.out⟩
  rw [evalV, if_pos HE.out, HE.out]
  rfl
end Go.Proofs.Ytjacgoipfmiaiaa
