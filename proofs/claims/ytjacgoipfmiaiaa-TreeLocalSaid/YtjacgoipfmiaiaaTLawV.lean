/-
  The law TreeValues: what it does.
-/
import Derived.Test.YtjacgoipfmiaiaaTAwake
namespace Go.Proofs.Ytjacgoipfmiaiaa
open Go.RowKit
set_option linter.unusedSimpArgs false
set_option linter.unusedVariables false
theorem eval_zero {t : Tre} {ins : List Int} (h : evalErr t ins = 0) : rightT t = true ∧ ins.length = t.hood.length ∧ ins.all (stateIn t) = true := by
  unfold evalErr at h
  split at h
  · split at h
    · split at h
      · exact ⟨by assumption, by assumption, by assumption⟩
      · omega
    · omega
  · omega
theorem const_value {st z : Int} {l : List Pt} (h : constErr st l z = 0) (ins : List Int) (he : evalErr (constR st l z) ins = 0) : evalV (constR st l z) ins = z := by
  have e : constR st l z = constT st l z := by unfold constR; rw [h]; rfl
  rw [evalV, if_pos he]
  rw [e] at he ⊢
  obtain ⟨_, h1, h2⟩ := eval_zero he
  exact (const_good h).2.2 ins h1 h2
theorem const_facts {st z : Int} {l : List Pt} (h : constErr st l z = 0) : rightT (constR st l z) = true ∧ (constR st l z).nodes.length = l.length := by
  have e : constR st l z = constT st l z := by unfold constR; rw [h]; rfl
  rw [e]
  exact ⟨(const_good h).1, (const_good h).2.1⟩
theorem read_value {st : Int} {k : Nat} {l : List Pt} (h : readErr st l k = 0) (ins : List Int) (he : evalErr (readR st l k) ins = 0) : evalV (readR st l k) ins = ins.getD k 0 := by
  have e : readR st l (k : Int) = readT st l k := by unfold readR; rw [h, Int.toNat_natCast]; rfl
  rw [evalV, if_pos he]
  rw [e] at he ⊢
  obtain ⟨_, h1, h2⟩ := eval_zero he
  exact (read_good h).2.2 ins h1 h2
theorem read_facts {st : Int} {k : Nat} {l : List Pt} (h : readErr st l k = 0) : rightT (readR st l k) = true ∧ (readR st l k).nodes.length = k + 1 + (l.length - k - 1) * st.toNat ∧ k < l.length ∧ l.length ≤ 25 ∧ 2 ≤ st ∧ st ≤ 8 := by
  have e : readR st l (k : Int) = readT st l k := by unfold readR; rw [h, Int.toNat_natCast]; rfl
  rw [e]
  obtain ⟨h1, h2, h3, h4⟩ := readErr_parts h
  have := statesOk_parts h1
  exact ⟨(read_good h).1, (read_good h).2.1, by omega, (hoodOk_len h2).2, by omega, by omega⟩

set_option maxRecDepth 100000 in
set_option maxHeartbeats 8000000 in
theorem lawTValues_any (st : Int) (l : List Pt) (LA IA : Option Addr) (ln lc n ic : Nat) (ins : List Int) (w : World) (hr : Rd w w.heap.size 2 LA ln (hoodCells l)) (hm : ln ≤ maxLen) (hI : Rd w w.heap.size 1 IA n (ints ins)) (hm2 : n ≤ maxLen) :
    Calls Try.prog 7 #[.int .i64 st, .slice LA ln lc, .slice IA n ic] w fun e w' => e = .returned (.bool true) ∧ Below w.heap.size w w' := by
  have HR : Hid (Rd w w.heap.size 2 LA ln (hoodCells l)) := hr
  have HLL : Hid (l.length = ln) := by have := hr.1; rw [hoodCells, flat2_length _ (fun _ => rfl)] at this; show _ = _; omega
  have HI : Hid (Rd w w.heap.size 1 IA n (ints ins)) := hI
  have HIL : Hid (ins.length = n) := by have := hI.1; rw [ints_length, Nat.mul_one] at this; exact this
  have HM : Hid (ln ≤ maxLen ∧ n ≤ maxLen) := ⟨hm, hm2⟩
  have HB : Hid (Below w.heap.size w w) := Below.refl _ _
  clear hr hI
  unfold maxLen at hm hm2
  go_enter Try.func7, Try.ntmps7
  by_cases h40 : 40 < ln
  ·
    go_wp2_with fail
    refine (awake_any _).mono ?_
    rintro e w9 ⟨rfl, hb⟩
    have HBE : Hid (Below w.heap.size w w9) := below_on HB.out (by go_grown) hb
    clear hb
    go_wp2
    go_ret
    exact ⟨rfl, HBE.out⟩
  by_cases h41 : 40 < n
  ·
    go_wp2_with fail
    refine (awake_any _).mono ?_
    rintro e w9 ⟨rfl, hb⟩
    have HBE : Hid (Below w.heap.size w w9) := below_on HB.out (by go_grown) hb
    clear hb
    go_wp2
    go_ret
    exact ⟨rfl, HBE.out⟩
  go_wp2
  go_loopg [7, 8, 9, 10, 11, 12, 13, 14, 15, 27] n (fun gg _ _ _ _ _ _ _ _ _ s27 wr => ∃ kk : Nat, kk ≤ n ∧ n - kk ≤ gg ∧ s27 = .int .i64 kk ∧ Aside (Below w.heap.size w wr))
  case atStart => exact ⟨0, Nat.zero_le _, by omega, rfl, Below.refl _ _⟩
  case round =>
    clear HB
    obtain ⟨kk, hkk, hgg, rfl, BW⟩ := hrel
    have HB : Hid (Below w.heap.size w wr) := BW.out
    by_cases hlt : kk < n
    case neg =>
      have hltz : ¬ (kk : Int) < (n : Int) := by omega
      go_wp2_with fail
      refine (awake_any _).mono ?_
      rintro e w9 ⟨rfl, hb⟩
      have HBE : Hid (Below w.heap.size w w9) := below_on HB.out (by go_grown) hb
      clear hb
      go_wp2
      go_ret
      exact ⟨rfl, HBE.out⟩
    have hltz : (kk : Int) < (n : Int) := by omega
    obtain ⟨ad, rfl, hbk, hz⟩ := (HI.out.up HB.out).int hlt
    have hbk' : ad.block < w.heap.size := by
      obtain ⟨ad', e, h1, _⟩ := HI.out.int hlt
      cases e
      exact h1
    generalize hzz : ins.getD kk 0 = z at hz
    have HZ : Hid (ins.getD kk 0 = z) := hzz
    have HZC : Hid (∀ w9, Below w.heap.size w w9 → w9.cell? (ad.add kk) = some (.int .i64 z)) := fun w9 h9 => by
      obtain ⟨ad', e, h1, h2⟩ := (HI.out.up h9).int hlt
      cases e
      rw [h2, hzz]
    clear hzz BW
    go_wp2_with fail
    refine (tConst_any st z l LA ln lc _ (HR.out.up HB.out) HM.out.1).mono ?_
    rintro e w1 ⟨TA, NA, tn, tc, mn, mc, sl, rfl, ht, hb⟩
    have HT : Hid (TAt w1 (constR st l z) TA NA tn mn sl) := ht
    have HB := (show Hid (Below w.heap.size w w1) from below_on2 HB.out hb)
    clear hb ht hz
    go_wp2_with fail
    refine (tRead_any st (kk : Int) l LA ln lc _ (HR.out.up (below_on2 HB.out (by go_grown))) HM.out.1).mono ?_
    rintro e w2 ⟨XA, YA, xn, xc, yn, yc, sx, rfl, hx, hb⟩
    have HX : Hid (TAt w2 (readR st l (kk : Int)) XA YA xn yn sx) := hx
    clear hx
    have RT : Hid (Row w2 (w1.heap.size) 25 [.int .i64 (constR st l z).states, .slice TA tn tc, .slice NA mn mc]) := by
      have h0 := Row.new w1 25 [.int .i64 (constR st l z).states, .slice TA tn tc, .slice NA mn mc]
      try simp only [World.size_alloc] at h0
      exact rowCells h0 hb
    have hn : Below w1.heap.size w1 w2 := below_next hb (by go_grown)
    have HT := (show Hid (TAt w2 _ _ _ _ _ _) from HT.out.up hn)
    have HB := (show Hid (Below w.heap.size w w2) from below_on2 HB.out hn)
    clear hb hn
    generalize hce : constErr st l z = ce
    have HCE : Hid (constErr st l z = ce) := hce
    generalize hre : readErr st l (kk : Int) = re
    have HRE : Hid (readErr st l (kk : Int) = re) := hre
    clear hce hre
    cases hq : (ce == 0)
    case false =>
      cases hp : (re == 0)
      case false =>
        go_wp2
        go_roundg (n - (kk + 1))
        case measure => omega
        case rel => exact ⟨kk + 1, by omega, by omega, by go_num, by show Below _ _ _; exact below_on2 HB.out (by go_grown)⟩
      case true =>
        have hre0 : re = 0 := by simpa using hp
        obtain ⟨hr9, hn9, hk9, hl9, hs9, hs8⟩ := read_facts (HRE.out.trans hre0)
        have HFX : Hid (rightT (readR st l (kk : Int)) = true ∧ (readR st l (kk : Int)).nodes.length = kk + 1 + (l.length - kk - 1) * st.toNat) := ⟨hr9, hn9⟩
        rw [HLL.out] at hn9 hk9 hl9
        obtain ⟨M, hM⟩ : ∃ M : Nat, M = (ln - kk - 1) * st.toNat := ⟨_, rfl⟩
        have hM9 : M ≤ 24 * 8 := by rw [hM]; exact Nat.mul_le_mul (by omega) (by omega)
        have hyn : yn = kk + 1 + M := by rw [← HX.out.nl, hn9, hM]
        have hMz : ((ln : Int) - (kk : Int) - 1) * st = (M : Int) := by
          rw [hM, Int.natCast_mul, show ((ln - kk - 1 : Nat) : Int) = (ln : Int) - (kk : Int) - 1 by omega, show ((st.toNat : Nat) : Int) = st by omega]
        have hwM : IntKind.i64.wrap (M : Int) = (M : Int) := IntWalk.i64_in _ (by omega)
        clear hr9 hn9 hM
        subst hyn

        go_wp2_with fail
        refine (tEval_any (readR st l (kk : Int)) XA YA (some ad) xn xc (kk + 1 + M) yc n ic sx ins _ (HX.out.up (by go_grown)) (HI.out.up (below_on2 HB.out (by go_grown))) HM.out.2).mono ?_
        rintro e w3 ⟨rfl, hb⟩
        have RX : Hid (Row w3 (w2.heap.size) 25 [.int .i64 (readR st l (kk : Int)).states, .slice XA xn xc, .slice YA (kk + 1 + M) yc]) := by
          have h0 := Row.new w2 25 [.int .i64 (readR st l (kk : Int)).states, .slice XA xn xc, .slice YA (kk + 1 + M) yc]
          try simp only [World.size_alloc] at h0
          exact rowCells h0 hb
        have hn : Below w2.heap.size w2 w3 := below_next hb (by go_grown)
        have HX := (show Hid (TAt w3 _ _ _ _ _ _) from HX.out.up hn)
        have HB := (show Hid (Below w.heap.size w w3) from below_on2 HB.out hn)
        clear hb hn
        generalize hev : evalV (readR st l (kk : Int)) ins = ev
        have HEV : Hid (evalV (readR st l (kk : Int)) ins = ev) := hev
        generalize her0 : evalErr (readR st l (kk : Int)) ins = er
        have HER : Hid (evalErr (readR st l (kk : Int)) ins = er) := her0
        clear hev her0
        have k0 := RX.out.cell 0
        have k1 := RX.out.cell 1
        have k2 := RX.out.cell 2
        have kl := RX.out.lt
        simp only [List.getElem?_cons_zero, List.getElem?_cons_succ] at k0 k1 k2
        go_wp2_with fail
        refine (treeRight_any (readR st l (kk : Int)) XA YA xn xc (kk + 1 + M) yc sx _ HX.out).mono ?_
        rw [HFX.out.1]
        rintro e w4 ⟨rfl, hb⟩
        clear k0 k1 k2 kl
        have hn : Below w3.heap.size w3 w4 := below_next hb (by go_grown)
        have RX := (show Hid (Row _ _ _ _) from rowCells RX.out hn)
        have HX := (show Hid (TAt w4 _ _ _ _ _ _) from HX.out.up hn)
        have HB := (show Hid (Below w.heap.size w w4) from below_on2 HB.out hn)
        clear hb hn
        have k0 := RX.out.cell 0
        have k1 := RX.out.cell 1
        have k2 := RX.out.cell 2
        have kl := RX.out.lt
        simp only [List.getElem?_cons_zero, List.getElem?_cons_succ] at k0 k1 k2
        have hz := HZC.out w4 HB.out

        have hval : (er == 0) = true → (ev != z) = false := fun he => by
          have he0 : evalErr (readR st l (kk : Int)) ins = 0 := by rw [HER.out]; simpa using he
          rw [← HEV.out, read_value (HRE.out.trans hre0) ins he0, HZ.out]
          simp
        cases her : (er == 0)
        case' true => have hne := hval her
        all_goals clear hval
        all_goals
          go_wp2
          go_roundg (n - (kk + 1))
          case measure => omega
          case rel => exact ⟨kk + 1, by omega, by omega, by go_num, by show Below _ _ _; exact HB.out⟩
    case true =>
      have hce0 : ce = 0 := by simpa using hq
      obtain ⟨hr9, hn9⟩ := const_facts (HCE.out.trans hce0)
      have HFT : Hid (rightT (constR st l z) = true ∧ (constR st l z).nodes.length = l.length) := ⟨hr9, hn9⟩
      obtain rfl : ln = mn := by rw [← HT.out.nl, hn9, HLL.out]
      clear hr9 hn9
      cases hp : (re == 0)
      case false =>
        have k0 := RT.out.cell 0
        have k1 := RT.out.cell 1
        have k2 := RT.out.cell 2
        have kl := RT.out.lt
        simp only [List.getElem?_cons_zero, List.getElem?_cons_succ] at k0 k1 k2
        go_wp2_with fail
        refine (tEval_any (constR st l z) TA NA (some ad) tn tc ln mc n ic sl ins _ (HT.out.up (by go_grown)) (HI.out.up (below_on2 HB.out (by go_grown))) HM.out.2).mono ?_
        rintro e w3 ⟨rfl, hb⟩
        clear k0 k1 k2 kl
        have RX : Hid (Row w3 (w2.heap.size) 25 [.int .i64 (readR st l (kk : Int)).states, .slice XA xn xc, .slice YA yn yc]) := by
          have h0 := Row.new w2 25 [.int .i64 (readR st l (kk : Int)).states, .slice XA xn xc, .slice YA yn yc]
          try simp only [World.size_alloc] at h0
          exact rowCells h0 hb
        have hn : Below w2.heap.size w2 w3 := below_next hb (by go_grown)
        have RT := (show Hid (Row _ _ _ _) from rowCells RT.out hn)
        have HT := (show Hid (TAt w3 _ _ _ _ _ _) from HT.out.up hn)
        have HB := (show Hid (Below w.heap.size w w3) from below_on2 HB.out hn)
        clear hb hn
        generalize hev : evalV (constR st l z) ins = ev
        have HEV : Hid (evalV (constR st l z) ins = ev) := hev
        generalize her0 : evalErr (constR st l z) ins = er
        have HER : Hid (evalErr (constR st l z) ins = er) := her0
        clear hev her0
        have k0 := RT.out.cell 0
        have k1 := RT.out.cell 1
        have k2 := RT.out.cell 2
        have kl := RT.out.lt
        simp only [List.getElem?_cons_zero, List.getElem?_cons_succ] at k0 k1 k2
        go_wp2_with fail
        refine (treeRight_any (constR st l z) TA NA tn tc ln mc sl _ HT.out).mono ?_
        rw [HFT.out.1]
        rintro e w4 ⟨rfl, hb⟩
        clear k0 k1 k2 kl
        have hn : Below w3.heap.size w3 w4 := below_next hb (by go_grown)
        have RT := (show Hid (Row _ _ _ _) from rowCells RT.out hn)
        have RX := (show Hid (Row _ _ _ _) from rowCells RX.out hn)
        have HT := (show Hid (TAt w4 _ _ _ _ _ _) from HT.out.up hn)
        have HB := (show Hid (Below w.heap.size w w4) from below_on2 HB.out hn)
        clear hb hn
        have k0 := RT.out.cell 0
        have k1 := RT.out.cell 1
        have k2 := RT.out.cell 2
        have kl := RT.out.lt
        simp only [List.getElem?_cons_zero, List.getElem?_cons_succ] at k0 k1 k2
        have hz := HZC.out w4 HB.out

        have hval : (er == 0) = true → (ev != z) = false := fun he => by
          have he0 : evalErr (constR st l z) ins = 0 := by rw [HER.out]; simpa using he
          rw [← HEV.out, const_value (HCE.out.trans hce0) ins he0]
          simp
        cases her : (er == 0)
        case' true => have hne := hval her
        all_goals clear hval
        all_goals
          go_wp2
          go_roundg (n - (kk + 1))
          case measure => omega
          case rel => exact ⟨kk + 1, by omega, by omega, by go_num, by show Below _ _ _; exact HB.out⟩
      case true =>
        have hre0 : re = 0 := by simpa using hp
        obtain ⟨hr9, hn9, hk9, hl9, hs9, hs8⟩ := read_facts (HRE.out.trans hre0)
        have HFX : Hid (rightT (readR st l (kk : Int)) = true ∧ (readR st l (kk : Int)).nodes.length = kk + 1 + (l.length - kk - 1) * st.toNat) := ⟨hr9, hn9⟩
        rw [HLL.out] at hn9 hk9 hl9
        obtain ⟨M, hM⟩ : ∃ M : Nat, M = (ln - kk - 1) * st.toNat := ⟨_, rfl⟩
        have hM9 : M ≤ 24 * 8 := by rw [hM]; exact Nat.mul_le_mul (by omega) (by omega)
        have hyn : yn = kk + 1 + M := by rw [← HX.out.nl, hn9, hM]
        have hMz : ((ln : Int) - (kk : Int) - 1) * st = (M : Int) := by
          rw [hM, Int.natCast_mul, show ((ln - kk - 1 : Nat) : Int) = (ln : Int) - (kk : Int) - 1 by omega, show ((st.toNat : Nat) : Int) = st by omega]
        have hwM : IntKind.i64.wrap (M : Int) = (M : Int) := IntWalk.i64_in _ (by omega)
        clear hr9 hn9 hM
        subst hyn
        have k0 := RT.out.cell 0
        have k1 := RT.out.cell 1
        have k2 := RT.out.cell 2
        have kl := RT.out.lt
        simp only [List.getElem?_cons_zero, List.getElem?_cons_succ] at k0 k1 k2
        go_wp2_with fail
        refine (tEval_any (constR st l z) TA NA (some ad) tn tc ln mc n ic sl ins _ (HT.out.up (by go_grown)) (HI.out.up (below_on2 HB.out (by go_grown))) HM.out.2).mono ?_
        rintro e w3 ⟨rfl, hb⟩
        clear k0 k1 k2 kl
        have RX : Hid (Row w3 (w2.heap.size) 25 [.int .i64 (readR st l (kk : Int)).states, .slice XA xn xc, .slice YA (kk + 1 + M) yc]) := by
          have h0 := Row.new w2 25 [.int .i64 (readR st l (kk : Int)).states, .slice XA xn xc, .slice YA (kk + 1 + M) yc]
          try simp only [World.size_alloc] at h0
          exact rowCells h0 hb
        have hn : Below w2.heap.size w2 w3 := below_next hb (by go_grown)
        have RT := (show Hid (Row _ _ _ _) from rowCells RT.out hn)
        have HT := (show Hid (TAt w3 _ _ _ _ _ _) from HT.out.up hn)
        have HX := (show Hid (TAt w3 _ _ _ _ _ _) from HX.out.up hn)
        have HB := (show Hid (Below w.heap.size w w3) from below_on2 HB.out hn)
        clear hb hn
        generalize hev : evalV (constR st l z) ins = ev
        have HEV : Hid (evalV (constR st l z) ins = ev) := hev
        generalize her0 : evalErr (constR st l z) ins = er
        have HER : Hid (evalErr (constR st l z) ins = er) := her0
        clear hev her0
        have k0 := RT.out.cell 0
        have k1 := RT.out.cell 1
        have k2 := RT.out.cell 2
        have kl := RT.out.lt
        simp only [List.getElem?_cons_zero, List.getElem?_cons_succ] at k0 k1 k2
        go_wp2_with fail
        refine (treeRight_any (constR st l z) TA NA tn tc ln mc sl _ HT.out).mono ?_
        rw [HFT.out.1]
        rintro e w4 ⟨rfl, hb⟩
        clear k0 k1 k2 kl
        have hn : Below w3.heap.size w3 w4 := below_next hb (by go_grown)
        have RT := (show Hid (Row _ _ _ _) from rowCells RT.out hn)
        have RX := (show Hid (Row _ _ _ _) from rowCells RX.out hn)
        have HT := (show Hid (TAt w4 _ _ _ _ _ _) from HT.out.up hn)
        have HX := (show Hid (TAt w4 _ _ _ _ _ _) from HX.out.up hn)
        have HB := (show Hid (Below w.heap.size w w4) from below_on2 HB.out hn)
        clear hb hn
        have k0 := RT.out.cell 0
        have k1 := RT.out.cell 1
        have k2 := RT.out.cell 2
        have kl := RT.out.lt
        simp only [List.getElem?_cons_zero, List.getElem?_cons_succ] at k0 k1 k2
        have hz := HZC.out w4 HB.out

        have hval : (er == 0) = true → (ev != z) = false := fun he => by
          have he0 : evalErr (constR st l z) ins = 0 := by rw [HER.out]; simpa using he
          rw [← HEV.out, const_value (HCE.out.trans hce0) ins he0]
          simp
        cases her : (er == 0)
        case' true => have hne := hval her
        all_goals clear hval k0 k1 k2 kl
        all_goals
          clear HEV HER
          have m0 := RT.out.cell 0
          have m1 := RT.out.cell 1
          have m2 := RT.out.cell 2
          have ml := RT.out.lt
          simp only [List.getElem?_cons_zero, List.getElem?_cons_succ] at m0 m1 m2
          have k0 := RX.out.cell 0
          have k1 := RX.out.cell 1
          have k2 := RX.out.cell 2
          have kl := RX.out.lt
          simp only [List.getElem?_cons_zero, List.getElem?_cons_succ] at k0 k1 k2
          go_wp2_with fail
          refine (tEval_any (readR st l (kk : Int)) XA YA (some ad) xn xc (kk + 1 + M) yc n ic sx ins _ (HX.out.up (by go_grown)) (HI.out.up (below_on2 HB.out (by go_grown))) HM.out.2).mono ?_
          rintro e w5 ⟨rfl, hb⟩
          clear k0 k1 k2 kl
          have hn : Below w4.heap.size w4 w5 := below_next hb (by go_grown)
          have RX := (show Hid (Row _ _ _ _) from rowCells RX.out hn)
          have HX := (show Hid (TAt w5 _ _ _ _ _ _) from HX.out.up hn)
          have HB := (show Hid (Below w.heap.size w w5) from below_on2 HB.out hn)
          clear hb hn
          generalize hev : evalV (readR st l (kk : Int)) ins = ev
          have HEV : Hid (evalV (readR st l (kk : Int)) ins = ev) := hev
          generalize her0 : evalErr (readR st l (kk : Int)) ins = er
          have HER : Hid (evalErr (readR st l (kk : Int)) ins = er) := her0
          clear hev her0
          have k0 := RX.out.cell 0
          have k1 := RX.out.cell 1
          have k2 := RX.out.cell 2
          have kl := RX.out.lt
          simp only [List.getElem?_cons_zero, List.getElem?_cons_succ] at k0 k1 k2
          go_wp2_with fail
          refine (treeRight_any (readR st l (kk : Int)) XA YA xn xc (kk + 1 + M) yc sx _ HX.out).mono ?_
          rw [HFX.out.1]
          rintro e w6 ⟨rfl, hb⟩
          clear k0 k1 k2 kl
          have hn : Below w5.heap.size w5 w6 := below_next hb (by go_grown)
          have RX := (show Hid (Row _ _ _ _) from rowCells RX.out hn)
          have HX := (show Hid (TAt w6 _ _ _ _ _ _) from HX.out.up hn)
          have HB := (show Hid (Below w.heap.size w w6) from below_on2 HB.out hn)
          clear hb hn
          have k0 := RX.out.cell 0
          have k1 := RX.out.cell 1
          have k2 := RX.out.cell 2
          have kl := RX.out.lt
          simp only [List.getElem?_cons_zero, List.getElem?_cons_succ] at k0 k1 k2
          have hz := HZC.out w6 HB.out

          have hval : (er == 0) = true → (ev != z) = false := fun he => by
            have he0 : evalErr (readR st l (kk : Int)) ins = 0 := by rw [HER.out]; simpa using he
            rw [← HEV.out, read_value (HRE.out.trans hre0) ins he0, HZ.out]
            simp
          cases her2 : (er == 0)
          case' true => have hne2 := hval her2
          all_goals clear hval
          all_goals
            go_wp2
            go_roundg (n - (kk + 1))
            case measure => omega
            case rel => exact ⟨kk + 1, by omega, by omega, by go_num, by show Below _ _ _; exact HB.out⟩
end Go.Proofs.Ytjacgoipfmiaiaa
