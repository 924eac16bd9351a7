/-
  Valid formulas and variables, of the program and of the reference, walked.
-/
import Derived.Test.YtofflkfkakddkaaEMem
import Derived.Test.YtofflkfkakddkaaIndexFunc
import Derived.Deep.QuietTactic
import Derived.BigQuiet
namespace Go.Proofs.Ytofflkfkakddkaa
open Go.RowKit
set_option linter.unusedSimpArgs false
set_option linter.unusedVariables false
theorem litOk_parts {v x : Int} (h : litOk v x = true) : x ≠ 0 ∧ -v ≤ x ∧ x ≤ v := by simpa [litOk] using h
theorem litOk_not {v x : Int} (h : litOk v x = false) : x = 0 ∨ x ≠ 0 ∧ (v < x ∨ x ≤ v ∧ x < -v) := by
  have : ¬ (x ≠ 0 ∧ -v ≤ x ∧ x ≤ v) := by simpa [litOk] using h
  omega
theorem rows_all_false (l : List (List Int)) (p : List Int → Bool) (k : Nat) (hk : k < l.length) (h : p (l.getD k []) = false) : l.all p = false := by
  rw [List.all_eq_false]
  refine ⟨l.getD k [], ?_, by rw [h]; simp⟩
  rw [List.getD_eq_getElem?_getD, List.getElem?_eq_getElem hk]
  exact List.getElem_mem hk
theorem rows_all_true (l : List (List Int)) (p : List Int → Bool) (h : ∀ k, k < l.length → p (l.getD k []) = true) : l.all p = true := by
  rw [List.all_eq_true]
  intro x hx
  obtain ⟨k, hk, rfl⟩ := List.getElem_of_mem hx
  have := h k hk
  rw [List.getD_eq_getElem?_getD, List.getElem?_eq_getElem hk] at this
  exact this
set_option maxHeartbeats 1000000 in
theorem proper_any (V : Int) (A : Option Addr) (n c : Nat) (l : List Int) (w : World) (h : Rd w w.heap.size 1 A n (ints l)) (hn : n ≤ maxLen) (h0 : 0 ≤ V) (h1 : V ≤ 65536) :
    Calls Try.prog 44 #[.int .i64 V, .slice A n c] w fun e w' => e = .returned (.bool (l.all (litOk V))) ∧ w = w' := by
  have H : Hid (Rd w w.heap.size 1 A n (ints l)) := h
  have HL : Hid (l.length = n) := by have := h.1; rw [ints_length, Nat.mul_one] at this; exact this
  unfold maxLen at hn
  clear h
  go_enter Try.func44, Try.ntmps44
  go_wp2
  go_loopg [6, 9] n (fun gg _ s9 wr => ∃ k : Nat, k ≤ n ∧ n - k ≤ gg ∧ s9 = .int .i64 k ∧ Aside (w = wr) ∧ Aside (∀ j, j < k → litOk V (l.getD j 0) = true))
  case atStart => exact ⟨0, Nat.zero_le _, by omega, rfl, rfl, fun j hj => absurd hj (Nat.not_lt_zero _)⟩
  case round =>
    obtain ⟨k, hk, hgg, rfl, BW, AL⟩ := hrel
    obtain rfl := BW.out
    by_cases hlt : k < n
    · have hltz : (k : Int) < (n : Int) := by omega
      obtain ⟨ad, rfl, _, hc⟩ := H.out.int hlt
      cases hl : litOk V (l.getD k 0)
      · have HF : Hid (l.all (litOk V) = false) := all_false_at _ _ k (by rw [HL.out]; exact hlt) hl
        have hq := litOk_not hl
        clear hl
        generalize l.getD k 0 = x at hc hq
        rcases hq with rfl | ⟨q1, q2 | ⟨q2, q3⟩⟩
        · go_wp2
          go_ret
          exact ⟨ret_bool HF.out.symm, rfl⟩
        · have hx : (x == 0) = false := by simpa using q1
          go_wp2
          go_ret
          exact ⟨ret_bool HF.out.symm, rfl⟩
        · have hx : (x == 0) = false := by simpa using q1
          go_wp2
          go_ret
          exact ⟨ret_bool HF.out.symm, rfl⟩
      · obtain ⟨q1, q2, q3⟩ := litOk_parts hl
        have HK : Hid (litOk V (l.getD k 0) = true) := hl
        clear hl
        generalize hx0 : l.getD k 0 = x at hc q1 q2 q3
        have hx : (x == 0) = false := by simpa using q1
        clear hx0
        go_wp2
        go_roundg (n - (k + 1))
        case measure => omega
        case rel => exact ⟨k + 1, by omega, by omega, by go_num, rfl, (show Aside _ from fun j hj => by
          by_cases e : j = k
          · rw [e]; exact HK.out
          · exact AL.out j (by omega))⟩
    · have hltz : ¬ (k : Int) < (n : Int) := by omega
      have HT : Hid (l.all (litOk V) = true) := all_true_at _ _ (fun j hj => AL.out j (by rw [HL.out] at hj; omega))
      go_wp2
      go_ret
      exact ⟨ret_bool HT.out.symm, rfl⟩
theorem sizes_not {f : Fml} (h : sizesF f = false) : f.vars < 0 ∨ 0 ≤ f.vars ∧ (65536 < f.vars ∨ f.vars ≤ 65536 ∧ (262144 : Int) < (f.cls.length : Int)) := by
  have : ¬ (0 ≤ f.vars ∧ f.vars ≤ 65536 ∧ f.cls.length ≤ 262144) := by simpa [sizesF] using h
  omega
theorem sizes_parts {f : Fml} (h : sizesF f = true) : 0 ≤ f.vars ∧ f.vars ≤ 65536 ∧ f.cls.length ≤ 262144 := by simpa [sizesF] using h
theorem rightF_sizes {f : Fml} (h : sizesF f = false) : rightF f = false := by unfold rightF; rw [h]; rfl
theorem rightF_rows {f : Fml} (h : sizesF f = true) : rightF f = f.cls.all (fun c => c.all (litOk f.vars)) := by unfold rightF; rw [h]; rfl
set_option maxRecDepth 100000 in
set_option maxHeartbeats 2000000 in
theorem fRight_any (f : Fml) (A : Option Addr) (n c : Nat) (sl : List Sl) (w : World) (h : FAt w f A n sl) :
    Calls Try.prog 28 #[.agg #[.int .i64 f.vars, .slice A n c]] w fun e w' => e = .returned (.bool (rightF f)) ∧ Below w.heap.size w w' := by
  have H : Hid (FAt w f A n sl) := h
  have HWL : Hid (f.cls.length = n) := h.wl
  have hm := h.n63
  unfold maxLen at hm
  clear h
  cases hs : sizesF f
  · have HF : Hid (rightF f = false) := rightF_sizes hs
    have hq := sizes_not hs
    rw [HWL.out] at hq
    clear hs
    rcases hq with q1 | ⟨q1, q2 | ⟨q2, q3⟩⟩
    · go_enter Try.func28, Try.ntmps28
      go_wp2
      go_ret
      exact ⟨ret_bool HF.out.symm, by go_grown⟩
    · go_enter Try.func28, Try.ntmps28
      go_wp2
      go_ret
      exact ⟨ret_bool HF.out.symm, by go_grown⟩
    · go_enter Try.func28, Try.ntmps28
      go_wp2
      go_ret
      exact ⟨ret_bool HF.out.symm, by go_grown⟩
  have HR : Hid (rightF f = f.cls.all (fun c => c.all (litOk f.vars))) := rightF_rows hs
  obtain ⟨q1, q2, q3⟩ := sizes_parts hs
  rw [HWL.out] at q3
  clear hs
  go_enter Try.func28, Try.ntmps28
  go_wp2
  have RX : Hid (Row (World.alloc w (.cells #[.int .i64 f.vars, .slice A n c] 30)) w.heap.size 30 [.int .i64 f.vars, .slice A n c]) := Row.new w 30 [.int .i64 f.vars, .slice A n c]
  have HB : Hid (Below w.heap.size w (World.alloc w (.cells #[.int .i64 f.vars, .slice A n c] 30))) := (show Below _ _ _ by go_grown)
  revert RX HB
  generalize World.alloc w (.cells #[.int .i64 f.vars, .slice A n c] 30) = w1
  intro RX HB
  go_loopg [4, 22] n (fun gg _ s22 wr => ∃ k : Nat, k ≤ n ∧ n - k ≤ gg ∧ s22 = .int .i64 k ∧ Aside (w1 = wr) ∧ Aside (∀ j, j < k → (f.cls.getD j []).all (litOk f.vars) = true))
  case atStart => exact ⟨0, Nat.zero_le _, by omega, rfl, rfl, fun j hj => absurd hj (Nat.not_lt_zero _)⟩
  case round =>
    obtain ⟨k, hk, hgg, rfl, BW, AL⟩ := hrel
    obtain rfl := BW.out
    have k0 := RX.out.cell 0
    have k1 := RX.out.cell 1
    have kl := RX.out.lt
    simp only [List.getElem?_cons_zero, List.getElem?_cons_succ] at k0 k1
    by_cases hlt : k < n
    · have hltz : (k : Int) < (n : Int) := by omega
      obtain ⟨ad, rfl, hbl, hc, hrd, hlm, hle⟩ := (H.out.up HB.out).row hlt
      generalize sl.getD k default = s at hc hrd hlm hle
      obtain ⟨sa, sn, sc⟩ := s
      dsimp only at hc hrd hlm hle
      go_wp2_with fail
      refine (proper_any f.vars sa sn sc (f.cls.getD k []) _ hrd hlm q1 q2).mono ?_
      cases hl : (f.cls.getD k []).all (litOk f.vars)
      · have HF : Hid (rightF f = false) := HR.out.trans (rows_all_false _ _ k (by rw [HWL.out]; exact hlt) hl)
        clear hl
        rintro e w2 ⟨rfl, rfl⟩
        go_wp2
        go_ret
        exact ⟨ret_bool HF.out.symm, HB.out⟩
      · have HK : Hid ((f.cls.getD k []).all (litOk f.vars) = true) := hl
        clear hl
        rintro e w2 ⟨rfl, rfl⟩
        go_wp2
        go_roundg (n - (k + 1))
        case measure => omega
        case rel => exact ⟨k + 1, by omega, by omega, by go_num, rfl, (show Aside _ from fun j hj => by
          by_cases e : j = k
          · rw [e]; exact HK.out
          · exact AL.out j (by omega))⟩
    · have hltz : ¬ (k : Int) < (n : Int) := by omega
      have HT : Hid (rightF f = true) := HR.out.trans (rows_all_true _ _ (fun j hj => AL.out j (by rw [HWL.out] at hj; omega)))
      go_wp2
      go_ret
      exact ⟨ret_bool HT.out.symm, HB.out⟩
theorem literal_any (x V : Int) (w : World) (h0 : 0 ≤ V) (h1 : V ≤ 65536) :
    Calls Try.prog 47 #[.int .i64 x, .int .i64 V] w fun e w' => e = .returned (.bool (litOk V x)) ∧ w = w' := by
  by_cases q1 : x = 0
  · subst q1
    go_enter Try.func47, Try.ntmps47
    go_wp2
    go_ret
    exact ⟨ret_bool (by unfold litOk; rw [decide_eq_false (by omega)]), rfl⟩
  · have hx : (x != 0) = true := by simpa using q1
    by_cases q2 : -V ≤ x
    · by_cases q3 : x ≤ V
      · have HV : Hid (litOk V x = true) := decide_eq_true ⟨q1, q2, q3⟩
        go_enter Try.func47, Try.ntmps47
        go_wp2
        go_ret
        exact ⟨ret_bool HV.out.symm, rfl⟩
      · have HV : Hid (litOk V x = false) := decide_eq_false (fun h => q3 h.2.2)
        have q4 : V < x := by omega
        clear q3
        go_enter Try.func47, Try.ntmps47
        go_wp2
        go_ret
        exact ⟨ret_bool (by rw [HV.out]; exact decide_eq_false (by omega)), rfl⟩
    · have HV : Hid (litOk V x = false) := decide_eq_false (fun h => q2 h.2.1)
      have q4 : x < -V := by omega
      clear q2
      go_enter Try.func47, Try.ntmps47
      go_wp2
      go_ret
      exact ⟨ret_bool HV.out.symm, rfl⟩
set_option maxRecDepth 100000 in
set_option maxHeartbeats 2000000 in
theorem rFRight_any (f : Fml) (A : Option Addr) (n c : Nat) (sl : List Sl) (w : World) (h : FAt w f A n sl) :
    Calls Try.prog 34 #[.agg #[.int .i64 f.vars, .slice A n c]] w fun e w' => e = .returned (.bool (rightF f)) ∧ Below w.heap.size w w' := by
    have H : Hid (FAt w f A n sl) := h
    have HWL : Hid (f.cls.length = n) := h.wl
    have hm := h.n63
    unfold maxLen at hm
    clear h
    cases hs : sizesF f
    · have HF : Hid (rightF f = false) := rightF_sizes hs
      have hq := sizes_not hs
      rw [HWL.out] at hq
      clear hs
      rcases hq with q1 | ⟨q1, q2 | ⟨q2, q3⟩⟩
      · go_enter Try.func34, Try.ntmps34
        go_wp2
        go_ret
        exact ⟨ret_bool HF.out.symm, by go_grown⟩
      · go_enter Try.func34, Try.ntmps34
        go_wp2
        go_ret
        exact ⟨ret_bool HF.out.symm, by go_grown⟩
      · go_enter Try.func34, Try.ntmps34
        go_wp2
        go_ret
        exact ⟨ret_bool HF.out.symm, by go_grown⟩
    have HR : Hid (rightF f = f.cls.all (fun c => c.all (litOk f.vars))) := rightF_rows hs
    obtain ⟨q1, q2, q3⟩ := sizes_parts hs
    rw [HWL.out] at q3
    clear hs
    go_enter Try.func34, Try.ntmps34
    go_wp2
    have RX : Hid (Row (World.alloc w (.cells #[.int .i64 f.vars, .slice A n c] 30)) w.heap.size 30 [.int .i64 f.vars, .slice A n c]) := Row.new w 30 [.int .i64 f.vars, .slice A n c]
    have HB : Hid (Below w.heap.size w (World.alloc w (.cells #[.int .i64 f.vars, .slice A n c] 30))) := (show Below _ _ _ by go_grown)
    revert RX HB
    generalize World.alloc w (.cells #[.int .i64 f.vars, .slice A n c] 30) = w1
    intro RX HB
    go_loopg [3, 4] n (fun gg s3 _ wr => ∃ k : Nat, k ≤ n ∧ n - k ≤ gg ∧ s3 = .int .i64 k ∧ Aside (Below w1.heap.size w1 wr) ∧ Aside (∀ j, j < k → (f.cls.getD j []).all (litOk f.vars) = true))
    case atStart => exact ⟨0, Nat.zero_le _, by omega, rfl, Below.refl _ _, fun j hj => absurd hj (Nat.not_lt_zero _)⟩
    case round =>
      obtain ⟨k, hk, hgg, rfl, BW, AL⟩ := hrel
      have RXr : Hid (Row wr w.heap.size 30 [.int .i64 f.vars, .slice A n c]) := rowCells RX.out BW.out
      have k0 := RXr.out.cell 0
      have k1 := RXr.out.cell 1
      have kl := RXr.out.lt
      simp only [List.getElem?_cons_zero, List.getElem?_cons_succ] at k0 k1
      by_cases hlt : k < n
      · have hltz : (k : Int) < (n : Int) := by omega
        go_wp2
        have BWo : Hid (Below w1.heap.size w1 wr) := BW.out
        clear k0 k1 kl RXr BW
        obtain ⟨wo, rfl⟩ : ∃ wo : World, wo = wr := ⟨_, rfl⟩
        have HWL' : Hid ((f.cls.getD k []).length = (f.cls.getD k []).length) := rfl
        obtain ⟨m, hm9⟩ : ∃ m, m = (f.cls.getD k []).length := ⟨_, rfl⟩
        have HM : Hid ((f.cls.getD k []).length = m) := hm9.symm
        clear hm9 HWL'
        go_loopg [4] m (fun gg s4 wr => ∃ i : Nat, i ≤ m ∧ m - i ≤ gg ∧ s4 = .int .i64 i ∧ Aside (Below w1.heap.size w1 wr) ∧ Aside (∀ j, j < i → litOk f.vars ((f.cls.getD k []).getD j 0) = true))
        case atStart => exact ⟨0, Nat.zero_le _, by omega, rfl, BWo.out, fun j hj => absurd hj (Nat.not_lt_zero _)⟩
        case round =>
          clear BWo
          obtain ⟨i, hi, hgi, rfl, BW, AI⟩ := hrel
          have RXr : Hid (Row wr w.heap.size 30 [.int .i64 f.vars, .slice A n c]) := rowCells RX.out BW.out
          have HBr : Hid (Below w.heap.size w wr) := below_on2 HB.out BW.out
          have k0 := RXr.out.cell 0
          have k1 := RXr.out.cell 1
          have kl := RXr.out.lt
          simp only [List.getElem?_cons_zero, List.getElem?_cons_succ] at k0 k1
          obtain ⟨ad, rfl, hbl, hc, hrd, hlm, hle⟩ := (H.out.up HBr.out).row hlt
          rw [HM.out] at hle
          generalize sl.getD k default = s at hc hrd hlm hle
          obtain ⟨sa, sn, sc⟩ := s
          dsimp only at hc hrd hlm hle
          obtain rfl : m = sn := hle
          unfold maxLen at hlm
          by_cases hli : i < m
          · have hliz : (i : Int) < (m : Int) := by omega
            obtain ⟨rd, rfl, hrb, hrc⟩ := hrd.int hli
            obtain ⟨b, hb9⟩ : ∃ b, litOk f.vars ((f.cls.getD k []).getD i 0) = b := ⟨_, rfl⟩
            have HBV : Hid (litOk f.vars ((f.cls.getD k []).getD i 0) = b) := hb9
            generalize (f.cls.getD k []).getD i 0 = x at hrc hb9
            have HX : Hid (litOk f.vars x = b) := hb9
            clear hb9
            go_wp2_with fail
            go_quiet ((go_at_call 47; exact quiet_same ((literal_any x f.vars _ q1 q2).mono fun e w' h => ⟨by rw [h.1, HX.out], h.2⟩)))
            cases b
            · have HF : Hid (rightF f = false) := HR.out.trans (rows_all_false _ _ k (by rw [HWL.out]; exact hlt) (all_false_at _ _ i (by rw [HM.out]; exact hli) HBV.out))
              go_wp2
              go_ret
              exact ⟨ret_bool HF.out.symm, below_drewN HBr.out _⟩
            · go_wp2
              go_roundg (m - (i + 1))
              case measure => omega
              case rel => exact ⟨i + 1, by omega, by omega, by go_num, below_drewN BW.out _, (show Aside _ from fun j hj => by
                by_cases e : j = i
                · rw [e]; exact HBV.out
                · exact AI.out j (by omega))⟩
          · have hliz : ¬ (i : Int) < (m : Int) := by omega
            have HK : Hid ((f.cls.getD k []).all (litOk f.vars) = true) := all_true_at _ _ (fun j hj => AI.out j (by rw [HM.out] at hj; omega))
            go_wp2
            go_roundg (n - (k + 1))
            case measure => omega
            case rel => exact ⟨k + 1, by omega, by omega, by go_num, BW, (show Aside _ from fun j hj => by
              by_cases e : j = k
              · rw [e]; exact HK.out
              · exact AL.out j (by omega))⟩
      · have hltz : ¬ (k : Int) < (n : Int) := by omega
        have HT : Hid (rightF f = true) := HR.out.trans (rows_all_true _ _ (fun j hj => AL.out j (by rw [HWL.out] at hj; omega)))
        go_wp2
        go_ret
        exact ⟨ret_bool HT.out.symm, below_on2 HB.out BW.out⟩
end Go.Proofs.Ytofflkfkakddkaa
