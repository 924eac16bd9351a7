/-
  lower.Inputs and the reference's Inputs, walked.
-/
import Derived.Test.YtlkpdmdgeppmdaaTEval
import Derived.Test.YtlkpdmdgeppmdaaLSmall
namespace Go.Proofs.Ytlkpdmdgeppmdaa
open Go.RowKit
set_option linter.unusedSimpArgs false
set_option linter.unusedVariables false

def InputsPost (t : Tre) (ins : List Int) (w : World) (e : Ending) (w' : World) : Prop :=
  ∃ (A : Option Addr) (n c : Nat), e = .returned (.tuple #[.slice A n c, .int .i64 (evalErr t ins)]) ∧ Rd w' w'.heap.size 1 A n (bools (inputsR t ins)) ∧ n ≤ maxLen ∧ Below w.heap.size w w'
theorem inputsPost_err {t : Tre} {ins : List Int} {w w' : World} {k : Int} (h : evalErr t ins = k) (h0 : k ≠ 0) (hb : Below w.heap.size w w') : InputsPost t ins w (.returned (.tuple #[.slice none 0 0, .int .i64 k])) w' := by
  refine ⟨none, 0, 0, by rw [h], ?_, by unfold maxLen; omega, hb⟩
  rw [inputsR, if_neg (by rw [h]; exact h0)]
  exact Rd.empty none
theorem bool_infoL : (Try.prog.info? 4).map (fun i => (i.zero, i.size, i.bytes)) = some (some (.bool false), 1, 1) := by kernel_rfl
theorem bitsOf_get' (b : Nat) (v : Int) (k : Nat) (h : k < b) : (bitsOf b v).getD k false = bitI v k := by
  simp [bitsOf, List.getD_eq_getElem?_getD, List.getElem?_map, List.getElem?_range h]

set_option maxRecDepth 100000 in
set_option maxHeartbeats 4000000 in
theorem lInputs_any (t : Tre) (HA NA IA : Option Addr) (hn hc nn nc n ic : Nat) (sl : List Sl) (ins : List Int) (w : World) (h : TAt w t HA NA hn nn sl) (hI : Rd w w.heap.size 1 IA n (ints ins)) (hm : n ≤ maxLen) :
    Calls Try.prog 9 #[.agg #[.int .i64 t.states, .slice HA hn hc, .slice NA nn nc], .slice IA n ic] w (InputsPost t ins w) := by
  have H : Hid (TAt w t HA NA hn nn sl) := h
  have HLH : Hid (t.hood.length = hn) := h.hl
  have HI : Hid (Rd w w.heap.size 1 IA n (ints ins)) := hI
  have HIL : Hid (ins.length = n) := by have := hI.1; rw [ints_length, Nat.mul_one] at this; exact this
  have hm1 := h.h63
  clear h hI
  unfold maxLen at hm hm1
  go_enter Try.func9, Try.ntmps9
  go_wp2_with fail
  refine (treeRight_any t HA NA hn hc nn nc sl _ (H.out.up (by go_grown))).mono ?_
  rintro e w1 ⟨rfl, hb⟩
  have HB : Hid (Below w.heap.size w w1) := below_next hb (by go_grown)
  have RA : Hid (Row w1 w.heap.size 25 [.int .i64 t.states, .slice HA hn hc, .slice NA nn nc]) := rowCells (Row.new w 25 [.int .i64 t.states, .slice HA hn hc, .slice NA nn nc]) hb
  clear hb
  have k0 := RA.out.cell 0
  have k1 := RA.out.cell 1
  have k2 := RA.out.cell 2
  have kl := RA.out.lt
  simp only [List.getElem?_cons_zero, List.getElem?_cons_succ] at k0 k1 k2
  cases hr : rightT t
  · have HE : Hid (evalErr t ins = 11) := evalErr_11 hr
    clear hr
    go_wp2
    go_ret2
    exact inputsPost_err HE.out (by decide) HB.out
  have HR : Hid (rightT t = true) := hr
  clear hr
  cases hne : ((n : Int) != (hn : Int))
  case true =>
    have HE : Hid (evalErr t ins = 2) := evalErr_2 HR.out (by rw [HIL.out, HLH.out]; intro e; rw [e] at hne; simp at hne)
    go_wp2
    go_ret2
    exact inputsPost_err HE.out (by decide) HB.out
  have hqq : (n : Int) = (hn : Int) := by simpa using hne
  obtain rfl : n = hn := by omega
  clear hne hqq
  have HLI : Hid (ins.length = t.hood.length) := HIL.out.trans HLH.out.symm
  have hn25 : n ≤ 25 := by
    have hh := (rightT_parts HR.out).1
    simp only [hoodOk, Bool.and_eq_true, decide_eq_true_eq] at hh
    rw [HLH.out] at hh; omega
  have hst : 2 ≤ t.states ∧ t.states ≤ 8 := (rightT_parts HR.out).2.1.1
  have hnn : ((n : Int) != (n : Int)) = false := by simp
  go_wp2
  clear hnn k0 k1 k2 kl
  generalize hbb : bitsF t.states = b at *
  have HBB : Hid (bitsF t.states = b) := hbb
  have hb3 : b ≤ 3 := by rw [← hbb]; exact bitsF_bd _
  clear hbb
  go_loopg [6, 8, 9, 21] n (fun gg s6 _ _ s21 wr => ∃ kk : Nat, kk ≤ n ∧ n - kk ≤ gg ∧ s21 = .int .i64 kk ∧ Aside (Below w1.heap.size w1 wr) ∧ Aside (wr.ownsRow w1.heap.size 4 1 s6 (kk * b) (bools ((ins.take kk).flatMap (bitsOf b)))) ∧ Aside (∀ j, j < kk → stateIn t (ins.getD j 0) = true))
  case atStart => exact ⟨0, Nat.zero_le _, by omega, rfl, Below.refl _ _, (by show World.ownsRow _ _ _ _ _ _ _; simpa [bools] using World.ownsRow_nil _ _ _ _), fun j hj => absurd hj (Nat.not_lt_zero _)⟩
  case round =>
    obtain ⟨kk, hkk, hgg, rfl, BW, OW, AA⟩ := hrel
    have RW : Hid (Row wr w.heap.size 25 [.int .i64 t.states, .slice HA n hc, .slice NA nn nc]) := rowCells RA.out BW.out
    have HBr : Hid (Below w.heap.size w wr) := below_on2 HB.out BW.out
    have k0 := RW.out.cell 0
    have k1 := RW.out.cell 1
    have k2 := RW.out.cell 2
    have kl := RW.out.lt
    simp only [List.getElem?_cons_zero, List.getElem?_cons_succ] at k0 k1 k2
    by_cases hlt : kk < n
    · have hltz : (kk : Int) < (n : Int) := by omega
      obtain ⟨ad, rfl, hb', hz⟩ := (HI.out.up HBr.out).int hlt
      generalize hzz : ins.getD kk 0 = z at hz
      have HZ : Hid (ins.getD kk 0 = z) := hzz
      clear hzz
      by_cases a1 : z < 0
      · have HE : Hid (evalErr t ins = 10) := evalErr_10 HR.out HLI.out (all_false_at _ _ kk (by rw [HIL.out]; exact hlt) (by rw [HZ.out]; exact decide_eq_false (by omega)))
        have d1 : decide (z < 0) = true := by simpa using a1
        go_wp2
        go_ret2
        exact inputsPost_err HE.out (by decide) HBr.out
      have d1 : decide (z < 0) = false := by simpa using a1
      by_cases a2 : t.states ≤ z
      · have HE : Hid (evalErr t ins = 10) := evalErr_10 HR.out HLI.out (all_false_at _ _ kk (by rw [HIL.out]; exact hlt) (by rw [HZ.out]; exact decide_eq_false (by omega)))
        have d2 : decide (t.states ≤ z) = true := by simpa using a2
        go_wp2
        go_ret2
        exact inputsPost_err HE.out (by decide) HBr.out
      have d2 : decide (t.states ≤ z) = false := by simpa using a2
      have HK : Hid (stateIn t z = true) := decide_eq_true (by omega)
      have z0 : 0 ≤ z := by omega
      have z7 : z ≤ 7 := by omega
      go_wp2_with (go_at_call 14; refine (lBits_any _ _).mono ?_; rw [HBB.out]; rintro e w4 ⟨rfl, rfl⟩)
      obtain ⟨wo, rfl⟩ : ∃ wo : World, wo = wr := ⟨_, rfl⟩
      go_loopg [6, 9, 36] b (fun gg s6 _ s36 wi => ∃ j : Nat, j ≤ b ∧ b - j ≤ gg ∧ s36 = .int .i64 j ∧ Aside (Below w1.heap.size w1 wi) ∧ Aside (wi.ownsRow w1.heap.size 4 1 s6 (kk * b + j) (bools ((ins.take kk).flatMap (bitsOf b) ++ (bitsOf b z).take j))))
      case atStart => exact ⟨0, Nat.zero_le _, by omega, rfl, BW.out, (by show World.ownsRow _ _ _ _ _ _ _; simpa using OW.out)⟩
      case round =>
        clear OW BW RW k0 k1 k2 kl hz HBr
        obtain ⟨j, hj, hgj, rfl, BW, OW⟩ := hrel
        have RW : Hid (Row wr w.heap.size 25 [.int .i64 t.states, .slice HA n hc, .slice NA nn nc]) := rowCells RA.out BW.out
        have HBr : Hid (Below w.heap.size w wr) := below_on2 HB.out BW.out
        have k0 := RW.out.cell 0
        have k1 := RW.out.cell 1
        have k2 := RW.out.cell 2
        have kl := RW.out.lt
        simp only [List.getElem?_cons_zero, List.getElem?_cons_succ] at k0 k1 k2
        have hbs : w1.heap.size ≤ wr.heap.size := BW.out.size
        by_cases hlj : j < b
        · have hljz : (j : Int) < (b : Int) := by omega
          have hbit : (bits BinOp.and IntKind.i64 (z / 2 ^ j) 1 == 1) = bitI z j := by rw [bit_run z j z0 z7]; rfl
          have HT : Hid ((bitsOf b z).take (j + 1) = (bitsOf b z).take j ++ [bitI z j]) := by
            show _ = _
            rw [bl_snoc _ _ (by rw [bitsOf_length]; exact hlj), bitsOf_get' b z j hlj]
          have hkb : kk * b ≤ 75 := by have := Nat.mul_le_mul (show kk ≤ 25 by omega) hb3; omega
          have hkj : kk * b + j ≤ 100 := by omega
          generalize hp : kk * b + j = p at OW hkj
          have HP : Hid (kk * b + j = p) := hp
          generalize hxs : (ins.take kk).flatMap (bitsOf b) ++ (bitsOf b z).take j = xs at OW
          have HX : Hid ((ins.take kk).flatMap (bitsOf b) ++ (bitsOf b z).take j = xs) := hxs
          clear hp hxs hkb
          go_wp2_with (at_builtin; refine wpList_app rfl (.tmp 39) (.tmp 45) 27 rfl w1.heap.size 4 (.bool false) 1 1 Try.underlying27 bool_infoL rfl (by decide) (by decide) u6 (p) (bools xs) rfl ?own (wr.heap.size + 1) (some ⟨wr.heap.size, 0, none⟩) 1 1 [.bool (bitI z j)] rfl ?rd ?one ?hb ?hbase ?_)
          case own => exact (OW.out).alloc _
          case rd => exact Rd.lit wr #[.bool (bitI z j)] 4 (sz := 1) (m := 1) rfl
          case one => intro u hu; simp at hu; subst hu; rfl
          case hb => omega
          case hbase => simp; omega
          intro v' w' hown' hgrow' hat'
          have BB := BW.out
          have B3 : Below w1.heap.size w1 (wr.alloc (.cells #[.bool (bitI z j)] 4)) := by go_grown
          have HB4 : Aside (Below w1.heap.size w1 w') := B3.grown hgrow' (by simp; omega) (fun k hk => (OW.out.lt k hk).1)
          have HOWN' : Aside (w'.ownsRow w1.heap.size 4 1 v' (p + 1) (bools (xs ++ [bitI z j]))) := by
            show w'.ownsRow _ _ _ _ _ _
            simpa [bools] using hown'
          clear B3 BB hown' hgrow' hat' hbit
          go_wp2
          go_roundg (b - (j + 1))
          case measure => omega
          case rel =>
            refine ⟨j + 1, by omega, by omega, by go_num, HB4.out, ?_⟩
            show World.ownsRow _ _ _ _ _ _ _
            rw [HT.out, ← List.append_assoc, HX.out, ← Nat.add_assoc, HP.out]
            exact HOWN'.out
        · have hljz : ¬ (j : Int) < (b : Int) := by omega
          obtain rfl : j = b := by omega
          have OW' : Aside (wr.ownsRow w1.heap.size 4 1 u6 ((kk + 1) * j) (bools ((ins.take (kk + 1)).flatMap (bitsOf j)))) := by
            show World.ownsRow _ _ _ _ _ _ _
            have := OW.out
            have e9 : (bitsOf j z).take j = bitsOf j z := List.take_of_length_le (by rw [bitsOf_length]; exact Nat.le_refl _)
            rw [e9] at this
            rw [il_snoc _ _ (by rw [HIL.out]; exact hlt), List.flatMap_append, HZ.out, Nat.add_mul, Nat.one_mul]
            simpa using this
          go_wp2
          go_roundg (n - (kk + 1))
          case measure => omega
          case rel =>
            refine ⟨kk + 1, by omega, by omega, by go_num, BW.out, OW'.out, (show Aside _ from fun i hi => ?_)⟩
            by_cases e : i = kk
            · subst e; rw [HZ.out]; exact HK.out
            · exact AA.out i (by omega)
    · have hltz : ¬ (kk : Int) < (n : Int) := by omega
      obtain rfl : kk = n := by omega
      have HAL : Hid (ins.all (stateIn t) = true) := all_true_at _ _ (fun j hj => AA.out j (by rw [HIL.out] at hj; exact hj))
      have HE : Hid (evalErr t ins = 0) := evalErr_0 HR.out HLI.out HAL.out
      obtain ⟨VA, vc, rfl, hrd⟩ := Rd.own OW.out
      have HRD : Hid (Rd wr wr.heap.size 1 VA (kk * b) (bools (inputsR t ins))) := by
        show Rd _ _ _ _ _ _
        rw [inputsR, if_pos HE.out, inputsB, HBB.out]
        rw [List.take_of_length_le (by rw [HIL.out]; exact Nat.le_refl _)] at hrd
        exact hrd
      clear hrd OW
      have hkb : Hid (kk * b ≤ 75) := by have := Nat.mul_le_mul (show kk ≤ 25 by omega) hb3; show _ ≤ _; omega
      go_wp2
      go_ret2
      exact ⟨VA, kk * b, vc, by rw [HE.out]; rfl, HRD.out, by have := hkb.out; unfold maxLen; omega, HBr.out⟩

set_option maxRecDepth 100000 in
set_option maxHeartbeats 4000000 in
theorem rInputs_any (t : Tre) (HA NA IA : Option Addr) (hn hc nn nc n ic : Nat) (sl : List Sl) (ins : List Int) (w : World) (h : TAt w t HA NA hn nn sl) (hI : Rd w w.heap.size 1 IA n (ints ins)) (hm : n ≤ maxLen) :
    Calls Try.prog 10 #[.agg #[.int .i64 t.states, .slice HA hn hc, .slice NA nn nc], .slice IA n ic] w (InputsPost t ins w) := by
  have H : Hid (TAt w t HA NA hn nn sl) := h
  have HLH : Hid (t.hood.length = hn) := h.hl
  have HI : Hid (Rd w w.heap.size 1 IA n (ints ins)) := hI
  have HIL : Hid (ins.length = n) := by have := hI.1; rw [ints_length, Nat.mul_one] at this; exact this
  have hm1 := h.h63
  clear h hI
  unfold maxLen at hm hm1
  go_enter Try.func10, Try.ntmps10
  go_wp2_with fail
  refine (rTreeRight_any t HA NA hn hc nn nc sl _ (H.out.up (by go_grown))).mono ?_
  rintro e w1 ⟨rfl, hb⟩
  have HB : Hid (Below w.heap.size w w1) := below_next hb (by go_grown)
  have RA : Hid (Row w1 w.heap.size 25 [.int .i64 t.states, .slice HA hn hc, .slice NA nn nc]) := rowCells (Row.new w 25 [.int .i64 t.states, .slice HA hn hc, .slice NA nn nc]) hb
  clear hb
  have k0 := RA.out.cell 0
  have k1 := RA.out.cell 1
  have k2 := RA.out.cell 2
  have kl := RA.out.lt
  simp only [List.getElem?_cons_zero, List.getElem?_cons_succ] at k0 k1 k2
  cases hr : rightT t
  · have HE : Hid (evalErr t ins = 11) := evalErr_11 hr
    clear hr
    go_wp2
    go_ret2
    exact inputsPost_err HE.out (by decide) HB.out
  have HR : Hid (rightT t = true) := hr
  clear hr
  cases hne : ((n : Int) != (hn : Int))
  case true =>
    have HE : Hid (evalErr t ins = 2) := evalErr_2 HR.out (by rw [HIL.out, HLH.out]; intro e; rw [e] at hne; simp at hne)
    go_wp2
    go_ret2
    exact inputsPost_err HE.out (by decide) HB.out
  have hqq : (n : Int) = (hn : Int) := by simpa using hne
  obtain rfl : n = hn := by omega
  clear hne hqq
  have HLI : Hid (ins.length = t.hood.length) := HIL.out.trans HLH.out.symm
  have hn25 : n ≤ 25 := by
    have hh := (rightT_parts HR.out).1
    simp only [hoodOk, Bool.and_eq_true, decide_eq_true_eq] at hh
    rw [HLH.out] at hh; omega
  have hst : 2 ≤ t.states ∧ t.states ≤ 8 := (rightT_parts HR.out).2.1.1
  have hnn : ((n : Int) != (n : Int)) = false := by simp
  go_wp2
  clear hnn k0 k1 k2 kl
  generalize hbb : bitsF t.states = b at *
  have HBB : Hid (bitsF t.states = b) := hbb
  have hb3 : b ≤ 3 := by rw [← hbb]; exact bitsF_bd _
  clear hbb
  go_loopg [6, 7, 8] n (fun gg s6 s7 _ wr => ∃ kk : Nat, kk ≤ n ∧ n - kk ≤ gg ∧ s7 = .int .i64 kk ∧ Aside (Below w1.heap.size w1 wr) ∧ Aside (wr.ownsRow w1.heap.size 4 1 s6 (kk * b) (bools ((ins.take kk).flatMap (bitsOf b)))) ∧ Aside (∀ j, j < kk → stateIn t (ins.getD j 0) = true))
  case atStart => exact ⟨0, Nat.zero_le _, by omega, rfl, Below.refl _ _, (by show World.ownsRow _ _ _ _ _ _ _; simpa [bools] using World.ownsRow_nil _ _ _ _), fun j hj => absurd hj (Nat.not_lt_zero _)⟩
  case round =>
    obtain ⟨kk, hkk, hgg, rfl, BW, OW, AA⟩ := hrel
    have RW : Hid (Row wr w.heap.size 25 [.int .i64 t.states, .slice HA n hc, .slice NA nn nc]) := rowCells RA.out BW.out
    have HBr : Hid (Below w.heap.size w wr) := below_on2 HB.out BW.out
    have k0 := RW.out.cell 0
    have k1 := RW.out.cell 1
    have k2 := RW.out.cell 2
    have kl := RW.out.lt
    simp only [List.getElem?_cons_zero, List.getElem?_cons_succ] at k0 k1 k2
    by_cases hlt : kk < n
    · have hltz : (kk : Int) < (n : Int) := by omega
      obtain ⟨ad, rfl, hb', hz⟩ := (HI.out.up HBr.out).int hlt
      generalize hzz : ins.getD kk 0 = z at hz
      have HZ : Hid (ins.getD kk 0 = z) := hzz
      clear hzz
      by_cases a1 : z < 0
      · have HE : Hid (evalErr t ins = 10) := evalErr_10 HR.out HLI.out (all_false_at _ _ kk (by rw [HIL.out]; exact hlt) (by rw [HZ.out]; exact decide_eq_false (by omega)))
        have d1 : decide (z < 0) = true := by simpa using a1
        go_wp2_with fail
        go_quiet (fail)
        go_wp2
        go_ret2
        exact inputsPost_err HE.out (by decide) (below_drewN HBr.out _)
      have d1 : decide (z < 0) = false := by simpa using a1
      by_cases a2 : t.states ≤ z
      · have HE : Hid (evalErr t ins = 10) := evalErr_10 HR.out HLI.out (all_false_at _ _ kk (by rw [HIL.out]; exact hlt) (by rw [HZ.out]; exact decide_eq_false (by omega)))
        have d2 : decide (t.states ≤ z) = true := by simpa using a2
        go_wp2_with fail
        go_quiet (fail)
        go_wp2
        go_ret2
        exact inputsPost_err HE.out (by decide) (below_drewN HBr.out _)
      have d2 : decide (t.states ≤ z) = false := by simpa using a2
      have HK : Hid (stateIn t z = true) := decide_eq_true (by omega)
      have z0 : 0 ≤ z := by omega
      have z7 : z ≤ 7 := by omega
      go_wp2_with fail
      go_quiet (fail)
      go_wp2
      obtain ⟨wo, rfl⟩ : ∃ wo : World, wo = wr := ⟨_, rfl⟩
      have OW := (show Aside ((wo.drewN nq).ownsRow w1.heap.size 4 1 u6 (kk * b) (bools ((ins.take kk).flatMap (bitsOf b)))) from OW.out)
      have BW := (show Aside (Below w1.heap.size w1 (wo.drewN nq)) from below_drewN BW.out _)
      go_loopg [6, 8] b (fun gg s6 s8 wi => ∃ j : Nat, j ≤ b ∧ b - j ≤ gg ∧ s8 = .int .i64 j ∧ Aside (Below w1.heap.size w1 wi) ∧ Aside (wi.ownsRow w1.heap.size 4 1 s6 (kk * b + j) (bools ((ins.take kk).flatMap (bitsOf b) ++ (bitsOf b z).take j))))
      case atStart => exact ⟨0, Nat.zero_le _, by omega, rfl, BW.out, (by show World.ownsRow _ _ _ _ _ _ _; simpa using OW.out)⟩
      case round =>
        clear OW BW RW k0 k1 k2 kl hz HBr
        obtain ⟨j, hj, hgj, rfl, BW, OW⟩ := hrel
        have RW : Hid (Row wr w.heap.size 25 [.int .i64 t.states, .slice HA n hc, .slice NA nn nc]) := rowCells RA.out BW.out
        have HBr : Hid (Below w.heap.size w wr) := below_on2 HB.out BW.out
        have k0 := RW.out.cell 0
        have k1 := RW.out.cell 1
        have k2 := RW.out.cell 2
        have kl := RW.out.lt
        simp only [List.getElem?_cons_zero, List.getElem?_cons_succ] at k0 k1 k2
        have hbs : w1.heap.size ≤ wr.heap.size := BW.out.size
        by_cases hlj : j < b
        · have hljz : (j : Int) < (b : Int) := by omega
          have hbit : (bits BinOp.and IntKind.i64 (z / 2 ^ j) 1 == 1) = bitI z j := by rw [bit_run z j z0 z7]; rfl
          have HT : Hid ((bitsOf b z).take (j + 1) = (bitsOf b z).take j ++ [bitI z j]) := by
            show _ = _
            rw [bl_snoc _ _ (by rw [bitsOf_length]; exact hlj), bitsOf_get' b z j hlj]
          have hkb : kk * b ≤ 75 := by have := Nat.mul_le_mul (show kk ≤ 25 by omega) hb3; omega
          have hkj : kk * b + j ≤ 100 := by omega
          generalize hp : kk * b + j = p at OW hkj
          have HP : Hid (kk * b + j = p) := hp
          generalize hxs : (ins.take kk).flatMap (bitsOf b) ++ (bitsOf b z).take j = xs at OW
          have HX : Hid ((ins.take kk).flatMap (bitsOf b) ++ (bitsOf b z).take j = xs) := hxs
          clear hp hxs hkb
          obtain ⟨ad9, e9, hb9, hz⟩ := (HI.out.up HBr.out).int hlt
          cases e9
          rw [HZ.out] at hz

          go_wp2_with (first | (go_at_call 15; refine (rBits_any _ _).mono ?_; rw [HBB.out]; rintro e w4 ⟨rfl, rfl⟩) | (go_at_call 24; refine (rBit_any z j _ z0 z7 (by omega)).mono ?_; rintro e w4 ⟨rfl, rfl⟩) | (at_builtin; refine wpList_app rfl (.tmp 45) (.tmp 52) 27 rfl w1.heap.size 4 (.bool false) 1 1 Try.underlying27 bool_infoL rfl (by decide) (by decide) u6 (p) (bools xs) rfl ?own (wr.heap.size + 1) (some ⟨wr.heap.size, 0, none⟩) 1 1 [.bool (bitI z j)] rfl ?rd ?one ?hb ?hbase ?_))
          case own => exact (OW.out).alloc _
          case rd => exact Rd.lit wr #[.bool (bitI z j)] 4 (sz := 1) (m := 1) rfl
          case one => intro u hu; simp at hu; subst hu; rfl
          case hb => omega
          case hbase => simp; omega
          intro v' w' hown' hgrow' hat'
          have BB := BW.out
          have B3 : Below w1.heap.size w1 (wr.alloc (.cells #[.bool (bitI z j)] 4)) := by go_grown
          have HB4 : Aside (Below w1.heap.size w1 w') := B3.grown hgrow' (by simp; omega) (fun k hk => (OW.out.lt k hk).1)
          have HOWN' : Aside (w'.ownsRow w1.heap.size 4 1 v' (p + 1) (bools (xs ++ [bitI z j]))) := by
            show w'.ownsRow _ _ _ _ _ _
            simpa [bools] using hown'
          clear B3 BB hown' hgrow' hat' hbit
          go_wp2
          go_roundg (b - (j + 1))
          case measure => omega
          case rel =>
            refine ⟨j + 1, by omega, by omega, by go_num, HB4.out, ?_⟩
            show World.ownsRow _ _ _ _ _ _ _
            rw [HT.out, ← List.append_assoc, HX.out, ← Nat.add_assoc, HP.out]
            exact HOWN'.out
        · have hljz : ¬ (j : Int) < (b : Int) := by omega
          obtain rfl : j = b := by omega
          have OW' : Aside (wr.ownsRow w1.heap.size 4 1 u6 ((kk + 1) * j) (bools ((ins.take (kk + 1)).flatMap (bitsOf j)))) := by
            show World.ownsRow _ _ _ _ _ _ _
            have := OW.out
            have e9 : (bitsOf j z).take j = bitsOf j z := List.take_of_length_le (by rw [bitsOf_length]; exact Nat.le_refl _)
            rw [e9] at this
            rw [il_snoc _ _ (by rw [HIL.out]; exact hlt), List.flatMap_append, HZ.out, Nat.add_mul, Nat.one_mul]
            simpa using this
          go_wp2_with (go_at_call 15; refine (rBits_any _ _).mono ?_; rw [HBB.out]; rintro e w4 ⟨rfl, rfl⟩)
          go_wp2
          go_roundg (n - (kk + 1))
          case measure => omega
          case rel =>
            refine ⟨kk + 1, by omega, by omega, by go_num, BW.out, OW'.out, (show Aside _ from fun i hi => ?_)⟩
            by_cases e : i = kk
            · subst e; rw [HZ.out]; exact HK.out
            · exact AA.out i (by omega)
    · have hltz : ¬ (kk : Int) < (n : Int) := by omega
      obtain rfl : kk = n := by omega
      have HAL : Hid (ins.all (stateIn t) = true) := all_true_at _ _ (fun j hj => AA.out j (by rw [HIL.out] at hj; exact hj))
      have HE : Hid (evalErr t ins = 0) := evalErr_0 HR.out HLI.out HAL.out
      obtain ⟨VA, vc, rfl, hrd⟩ := Rd.own OW.out
      have HRD : Hid (Rd wr wr.heap.size 1 VA (kk * b) (bools (inputsR t ins))) := by
        show Rd _ _ _ _ _ _
        rw [inputsR, if_pos HE.out, inputsB, HBB.out]
        rw [List.take_of_length_le (by rw [HIL.out]; exact Nat.le_refl _)] at hrd
        exact hrd
      clear hrd OW
      have hkb : Hid (kk * b ≤ 75) := by have := Nat.mul_le_mul (show kk ≤ 25 by omega) hb3; show _ ≤ _; omega
      go_wp2
      go_ret2
      exact ⟨VA, kk * b, vc, by rw [HE.out]; rfl, HRD.out, by have := hkb.out; unfold maxLen; omega, HBr.out⟩
end Go.Proofs.Ytlkpdmdgeppmdaa
