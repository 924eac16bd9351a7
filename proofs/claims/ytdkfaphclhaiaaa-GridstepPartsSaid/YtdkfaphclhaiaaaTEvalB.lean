/-
  Rule trees: the law's Few and the reference's Value, walked.
-/
import Derived.Test.YtdkfaphclhaiaaaTRefRight
namespace Go.Proofs.Ytdkfaphclhaiaaa
open Go.RowKit
set_option linter.unusedSimpArgs false
set_option linter.unusedVariables false

def fewT (t : Tre) : Bool := decide (t.hood.length ≤ 40 ∧ t.nodes.length ≤ 400 ∧ ∀ i, i < t.nodes.length → (t.nodes.getD i default).next.length ≤ 20)
theorem fewT_parts {t : Tre} (h : fewT t = true) : t.hood.length ≤ 40 ∧ t.nodes.length ≤ 400 := by
  have := of_decide_eq_true h
  exact ⟨this.1, this.2.1⟩
set_option maxHeartbeats 1000000 in
theorem fewT_any (t : Tre) (HA NA : Option Addr) (hn hc nn nc : Nat) (sl : List Sl) (w : World) (h : TAt w t HA NA hn nn sl) :
    Calls Try.prog 21 #[.agg #[.int .i64 t.states, .slice HA hn hc, .slice NA nn nc]] w fun e w' => e = .returned (.bool (fewT t)) ∧ Below w.heap.size w w' := by
  have H : Hid (TAt w t HA NA hn nn sl) := h
  have HL : Hid (t.nodes.length = nn) := h.nl
  have HLH : Hid (t.hood.length = hn) := h.hl
  have hm1 := h.h63
  have hm2 := h.n63
  clear h
  unfold maxLen at hm1 hm2
  by_cases q1 : 40 < hn
  · have HF : Hid (fewT t = false) := decide_eq_false (by rw [HLH.out]; omega)
    go_enter Try.func21, Try.ntmps21
    go_wp2
    go_ret
    exact ⟨ret_bool HF.out.symm, by go_grown⟩
  by_cases q2 : 400 < nn
  · have HF : Hid (fewT t = false) := decide_eq_false (by rw [HL.out]; omega)
    go_enter Try.func21, Try.ntmps21
    go_wp2
    go_ret
    exact ⟨ret_bool HF.out.symm, by go_grown⟩
  go_enter Try.func21, Try.ntmps21
  go_wp2
  go_loopg [3, 17] nn (fun gg _ s17 wr => ∃ kk : Nat, kk ≤ nn ∧ nn - kk ≤ gg ∧ s17 = .int .i64 kk ∧ wr = w.alloc (.cells #[.int .i64 t.states, .slice HA hn hc, .slice NA nn nc] 25) ∧ Aside (∀ j, j < kk → (t.nodes.getD j default).next.length ≤ 20))
  case atStart => exact ⟨0, Nat.zero_le _, by omega, rfl, rfl, fun j hj => absurd hj (Nat.not_lt_zero _)⟩
  case round =>
    obtain ⟨kk, hkk, hgg, rfl, rfl, AA⟩ := hrel
    by_cases hlt : kk < nn
    · have hltz : (kk : Int) < (nn : Int) := by omega
      obtain ⟨ad, rfl, hb', g0, g1⟩ := H.out.node hlt
      have HNX := H.out.next kk (by rw [HL.out]; exact hlt)
      have hadz : (ad.add (kk * 2)).block < w.heap.size := by rw [add_block]; exact hb'
      generalize hq : sl.getD kk default = q at g1 HNX
      obtain ⟨qa, ql, qc⟩ := q
      dsimp only at HNX g1
      obtain ⟨hnx, hql⟩ := HNX
      have HNL : Hid ((t.nodes.getD kk default).next.length = ql) := by have := hnx.1; rw [ints_length, Nat.mul_one] at this; exact this
      unfold maxLen at hql
      clear hq hnx g0
      by_cases q3 : 20 < ql
      · have HF : Hid (fewT t = false) := decide_eq_false (fun h => by
          have := h.2.2 kk (by rw [HL.out]; exact hlt)
          rw [HNL.out] at this; omega)
        go_wp2
        go_ret
        exact ⟨ret_bool HF.out.symm, by go_grown⟩
      · go_wp2
        go_roundg (nn - (kk + 1))
        case measure => omega
        case rel =>
          refine ⟨kk + 1, by omega, by omega, by go_num, rfl, (show Aside _ from fun j hj => ?_)⟩
          by_cases e : j = kk
          · subst e; rw [HNL.out]; omega
          · exact AA.out j (by omega)
    · have hltz : ¬ (kk : Int) < (nn : Int) := by omega
      obtain rfl : kk = nn := by omega
      have HF : Hid (fewT t = true) := decide_eq_true ⟨by rw [HLH.out]; omega, by rw [HL.out]; omega, fun i hi => AA.out i (by rw [HL.out] at hi; omega)⟩
      go_wp2
      go_ret
      exact ⟨ret_bool HF.out.symm, by go_grown⟩

theorem il_snoc (l : List Int) (k : Nat) (h : k < l.length) : l.take (k + 1) = l.take k ++ [l.getD k 0] := by
  rw [List.take_succ_eq_append_getElem h, List.getD_eq_getElem?_getD, List.getElem?_eq_getElem h]; rfl
/-- One step of the walk through a valid tree. -/
theorem walk_step {t : Tre} (hr : rightT t = true) (ins : List Int) (hl : ins.length = t.hood.length) (hs : ins.all (stateIn t) = true) (j : Nat) (hj : j < ins.length) :
    ∃ (kn sn : Nat), walkT t ((t.nodes.length : Int) - 1) (ins.take j) = (kn : Int) ∧ ins.getD j 0 = (sn : Int) ∧ kn < t.nodes.length ∧ sn < (t.nodes.getD kn default).next.length ∧
      walkT t ((t.nodes.length : Int) - 1) (ins.take (j + 1)) = (t.nodes.getD kn default).next.getD sn 0 := by
  have h1 := (walkT_at hr ins hl (fun j hj => stateIn_at hs hj) j (by omega)).1 hj
  have h2 := stateIn_at hs hj
  have e : walkT t ((t.nodes.length : Int) - 1) (ins.take (j + 1)) = stepT t (walkT t ((t.nodes.length : Int) - 1) (ins.take j)) (ins.getD j 0) := by rw [il_snoc _ _ hj, walkT_snoc]
  obtain ⟨kn, hk⟩ : ∃ kn : Nat, walkT t ((t.nodes.length : Int) - 1) (ins.take j) = (kn : Int) := ⟨_, (Int.toNat_of_nonneg h1.1).symm⟩
  obtain ⟨sn, hsn⟩ : ∃ sn : Nat, ins.getD j 0 = (sn : Int) := ⟨_, (Int.toNat_of_nonneg h2.1).symm⟩
  rw [hk, hsn] at e
  rw [hk] at h1
  rw [hsn] at h2
  obtain ⟨_, _, hn⟩ := rightT_parts hr
  have hkn : kn < t.nodes.length := by omega
  have hlen := (nodeOk_parts (hn kn hkn)).1.2.2
  refine ⟨kn, sn, hk, hsn, hkn, by omega, ?_⟩
  rw [e]; simp [stepT]

set_option maxRecDepth 100000 in
set_option maxHeartbeats 2000000 in
theorem rValue_any (t : Tre) (HA NA IA : Option Addr) (hn hc nn nc n ic : Nat) (sl : List Sl) (ins : List Int) (w : World) (h : TAt w t HA NA hn nn sl) (hI : Rd w w.heap.size 1 IA n (ints ins))
    (hr : rightT t = true) (hl : ins.length = t.hood.length) (hs : ins.all (stateIn t) = true) :
    Calls Try.prog 37 #[.agg #[.int .i64 t.states, .slice HA hn hc, .slice NA nn nc], .slice IA n ic] w fun e w' => e = .returned (.int .i64 (valueT t ins)) ∧ Below w.heap.size w w' := by
  have H : Hid (TAt w t HA NA hn nn sl) := h
  have HL : Hid (t.nodes.length = nn) := h.nl
  have HI : Hid (Rd w w.heap.size 1 IA n (ints ins)) := hI
  have HIL : Hid (ins.length = n) := by have := hI.1; simp at this; show _ = _; omega
  have hm2 := h.n63
  have HLI : Hid (ins.length = t.hood.length) := hl
  have HS : Hid (ins.all (stateIn t) = true) := hs
  obtain ⟨hh, ⟨_, k1, k2, _⟩, _⟩ := rightT_parts hr
  have hn25 : n ≤ 25 := by
    simp only [hoodOk, Bool.and_eq_true, decide_eq_true_eq] at hh
    rw [← HIL.out, hl]; omega
  have HR : Hid (rightT t = true) := hr
  rw [HL.out] at k1 k2
  have hk0 : IntKind.i64.wrap ((nn : Int) - 1) = (nn : Int) - 1 := IntWalk.i64_in _ (by omega)
  clear h hI hr hl hs hh hm2
  go_enter Try.func37, Try.ntmps37
  go_wp2
  go_loopg [5, 6] n (fun gg s5 s6 wr => ∃ (kk : Nat) (z : Int), kk ≤ n ∧ n - kk ≤ gg ∧ s6 = .int .i64 kk ∧ s5 = .int .i64 z ∧ Aside (z = walkT t ((t.nodes.length : Int) - 1) (ins.take kk)) ∧ Aside (Below w.heap.size (w.alloc (.cells #[.int .i64 t.states, .slice HA hn hc, .slice NA nn nc] 25)) wr) ∧ Aside (Row wr w.heap.size 25 [.int .i64 t.states, .slice HA hn hc, .slice NA nn nc]))
  case atStart => exact ⟨0, _, Nat.zero_le _, by omega, rfl, rfl, (show _ = _ by rw [HL.out]; rfl), Below.refl _ _, Row.new w _ _⟩
  case round =>
    obtain ⟨kk, z, hkk, hgg, rfl, rfl, HZ, BW, RW⟩ := hrel
    have HBr : Hid (Below w.heap.size w wr) := (show Below w.heap.size w (w.alloc (.cells #[.int .i64 t.states, .slice HA hn hc, .slice NA nn nc] 25)) by go_grown).trans BW.out
    by_cases hlt : kk < n
    · have hltz : (kk : Int) < (n : Int) := by omega
      obtain ⟨kn, sn, e1, e2, h1, h2, e3⟩ := walk_step HR.out ins HLI.out HS.out kk (by rw [HIL.out]; exact hlt)
      rw [HZ.out.symm] at e1
      subst e1
      rw [HL.out] at h1
      obtain ⟨ad, rfl, hb', g0, g1⟩ := (H.out.up HBr.out).node h1
      have HNX := (H.out.up HBr.out).next kn (by rw [HL.out]; exact h1)
      have hql2 : (t.nodes.getD kn default).next.length = (sl.getD kn default).len := by have := HNX.1.1; rw [ints_length, Nat.mul_one] at this; exact this
      rw [hql2] at h2
      generalize hq : sl.getD kn default = q at g1 HNX h2
      obtain ⟨qa, ql, qc⟩ := q
      dsimp only at HNX g1 h2
      obtain ⟨ad2, rfl, hb2, g2⟩ := HNX.1.int h2
      obtain ⟨ad3, rfl, hb3, g3⟩ := (HI.out.up HBr.out).int hlt
      rw [e2] at g3
      rw [← e3] at g2
      generalize hv : walkT t ((t.nodes.length : Int) - 1) (ins.take (kk + 1)) = v at g2
      have HV : Hid (v = walkT t ((t.nodes.length : Int) - 1) (ins.take (kk + 1))) := hv.symm
      have hi1 : (kn : Int) < (nn : Int) := by omega
      have hi2 : (0 : Int) ≤ (kn : Int) := by omega
      have hi3 : (sn : Int) < (ql : Int) := by omega
      have hi4 : (0 : Int) ≤ (sn : Int) := by omega
      clear hv hq hql2 HNX e2 e3 g0 HZ
      have k0 := RW.out.cell 0
      have k1 := RW.out.cell 1
      have k2 := RW.out.cell 2
      have kl := RW.out.lt
      simp only [List.getElem?_cons_zero, List.getElem?_cons_succ] at k0 k1 k2
      go_wp2_with fail
      go_quiet (fail)
      go_wp2
      go_roundg (n - (kk + 1))
      case measure => omega
      case rel => exact ⟨kk + 1, v, by omega, by omega, by go_num, rfl, HV.out, below_drewN BW.out _, RW.out.drewN _⟩
    · have hltz : ¬ (kk : Int) < (n : Int) := by omega
      obtain rfl : kk = n := by omega
      go_wp2
      go_ret
      refine ⟨ret_i64 ?_, HBr.out⟩
      rw [HZ.out, valueT, List.take_of_length_le (by rw [HIL.out]; exact Nat.le_refl _)]

end Go.Proofs.Ytdkfaphclhaiaaa
