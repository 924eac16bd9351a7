/-
  Variables of a formula, sizes, and add, walked.
-/
import Derived.Test.YtofflkfkakddkaaERight
namespace Go.Proofs.Ytofflkfkakddkaa
open Go.RowKit
set_option linter.unusedSimpArgs false
set_option linter.unusedVariables false
theorem anyNot_varsOk (V : Int) (l : List Int) : l.any (fun x => !varOk V x) = !varsOk V l := by
  unfold varsOk
  induction l with
  | nil => rfl
  | cons a l ih => rw [List.any_cons, List.all_cons, ih]; cases varOk V a <;> simp
set_option maxHeartbeats 400000 in
theorem eVar_any (x V : Int) (pb : Nat) (w : World) (h : w.cell? ⟨pb, 0, none⟩ = some (.int .i64 V)) :
    Calls Try.prog 45 #[.int .i64 x, .pointer (some ⟨pb, 0, none⟩)] w fun e w' => e = .returned (.bool (!varOk V x)) ∧ w = w' := by
  by_cases q1 : x < 1
  · have HV : Hid ((!varOk V x) = true) := by show _ = _; unfold varOk; rw [decide_eq_false (by omega)]; rfl
    go_enter Try.func45, Try.ntmps45
    go_wp2
    go_ret
    exact ⟨ret_bool HV.out.symm, rfl⟩
  · by_cases q2 : V < x
    · have HV : Hid ((!varOk V x) = true) := by show _ = _; unfold varOk; rw [decide_eq_false (by omega)]; rfl
      go_enter Try.func45, Try.ntmps45
      go_wp2
      go_ret
      exact ⟨ret_bool HV.out.symm, rfl⟩
    · have HV : Hid ((!varOk V x) = false) := by show _ = _; unfold varOk; rw [decide_eq_true (by omega)]; rfl
      go_enter Try.func45, Try.ntmps45
      go_wp2
      go_ret
      exact ⟨ret_bool (by first | exact HV.out.symm | (rw [HV.out]; simp; omega)), rfl⟩
set_option maxHeartbeats 1000000 in
theorem eVars_any (V : Int) (v : Value) (A : Option Addr) (n c : Nat) (l : List Int) (w : World) (h : Rd w w.heap.size 1 A n (ints l)) (hn : n ≤ maxLen) :
    Calls Try.prog 29 #[.agg #[.int .i64 V, v], .slice A n c] w fun e w' => e = .returned (.bool (varsOk V l)) ∧ Below w.heap.size w w' := by
  have H : Hid (Rd w w.heap.size 1 A n (ints l)) := h
  have hm := hn
  unfold maxLen at hm
  clear h hn
  go_enter Try.func29, Try.ntmps29
  go_wp2_with fail
  refine (containsFunc_ints A n c l _ _ (fun x => !varOk V x) _ (enters Try.func45 (by kernel_rfl) rfl) (H.out.up (by go_grown)) (by omega) ?_).mono ?_
  · intro W x hx hb
    have h0 := Row.new w 30 [.int .i64 V, v]
    refine (eVar_any x V w.heap.size W (by rw [(rowCells h0 hb).cell]; rfl)).mono ?_
    rintro e w' ⟨rfl, rfl⟩
    exact ⟨rfl, hb⟩
  rintro e w1 ⟨rfl, hb⟩
  have HB : Hid (Below w.heap.size w w1) := below_next hb (by go_grown)
  clear hb
  go_wp2
  go_ret
  exact ⟨ret_bool (by rw [anyNot_varsOk]; simp), HB.out⟩
theorem varOk_not {v x : Int} (h : varOk v x = false) : x < 1 ∨ ¬ x < 1 ∧ v < x := by
  have : ¬ (1 ≤ x ∧ x ≤ v) := by simpa [varOk] using h
  omega
set_option maxRecDepth 100000 in
set_option maxHeartbeats 1000000 in
theorem rVars_any (V : Int) (v : Value) (A : Option Addr) (n c : Nat) (l : List Int) (w : World) (h : Rd w w.heap.size 1 A n (ints l)) (hn : n ≤ maxLen) :
    Calls Try.prog 35 #[.agg #[.int .i64 V, v], .slice A n c] w fun e w' => e = .returned (.bool (varsOk V l)) ∧ Below w.heap.size w w' := by
  have H : Hid (Rd w w.heap.size 1 A n (ints l)) := h
  have HL : Hid (l.length = n) := by have := h.1; rw [ints_length, Nat.mul_one] at this; exact this
  have hm := hn
  unfold maxLen at hm
  clear h hn
  go_enter Try.func35, Try.ntmps35
  go_wp2
  have RX : Hid (Row (World.alloc w (.cells #[.int .i64 V, v] 30)) w.heap.size 30 [.int .i64 V, v]) := Row.new w 30 [.int .i64 V, v]
  have HB : Hid (Below w.heap.size w (World.alloc w (.cells #[.int .i64 V, v] 30))) := (show Below _ _ _ by go_grown)
  revert RX HB
  generalize World.alloc w (.cells #[.int .i64 V, v] 30) = w1
  intro RX HB
  go_loopg [5] n (fun gg s5 wr => ∃ k : Nat, k ≤ n ∧ n - k ≤ gg ∧ s5 = .int .i64 k ∧ Aside (Below w1.heap.size w1 wr) ∧ Aside (∀ j, j < k → varOk V (l.getD j 0) = true))
  case atStart => exact ⟨0, Nat.zero_le _, by omega, rfl, Below.refl _ _, fun j hj => absurd hj (Nat.not_lt_zero _)⟩
  case round =>
    obtain ⟨k, hk, hgg, rfl, BW, AL⟩ := hrel
    have RXr : Hid (Row wr w.heap.size 30 [.int .i64 V, v]) := rowCells RX.out BW.out
    have HBr : Hid (Below w.heap.size w wr) := below_on2 HB.out BW.out
    have k0 := RXr.out.cell 0
    have k1 := RXr.out.cell 1
    have kl := RXr.out.lt
    simp only [List.getElem?_cons_zero, List.getElem?_cons_succ] at k0 k1
    by_cases hlt : k < n
    · have hltz : (k : Int) < (n : Int) := by omega
      obtain ⟨ad, rfl, _, hc⟩ := (H.out.up HBr.out).int hlt
      cases hl : varOk V (l.getD k 0)
      · have HF : Hid (varsOk V l = false) := all_false_at _ _ k (by rw [HL.out]; exact hlt) hl
        have hq := varOk_not hl
        clear hl
        generalize l.getD k 0 = x at hc hq
        rcases hq with q1 | ⟨q0, q1⟩
        · have hd : decide (x < 1) = true := decide_eq_true q1
          go_wp2_with fail
          go_quiet (fail)
          go_wp2
          go_ret
          exact ⟨ret_bool HF.out.symm, below_drewN HBr.out _⟩
        · have hd : decide (x < 1) = false := decide_eq_false q0
          have hd2 : decide (V < x) = true := decide_eq_true q1
          go_wp2_with fail
          go_quiet (fail)
          go_wp2
          go_ret
          exact ⟨ret_bool HF.out.symm, below_drewN HBr.out _⟩
      · have hq : 1 ≤ l.getD k 0 ∧ l.getD k 0 ≤ V := by simpa [varOk] using hl
        have HK : Hid (varOk V (l.getD k 0) = true) := hl
        clear hl
        generalize hx0 : l.getD k 0 = x at hc hq
        clear hx0
        have hd : decide (x < 1) = false := decide_eq_false (by omega)
        have hd2 : decide (V < x) = false := decide_eq_false (by omega)
        clear hq
        go_wp2_with fail
        go_quiet (fail)
        go_wp2
        go_roundg (n - (k + 1))
        case measure => omega
        case rel => exact ⟨k + 1, by omega, by omega, by go_num, below_drewN BW.out _, (show Aside _ from fun j hj => by
          by_cases e : j = k
          · rw [e]; exact HK.out
          · exact AL.out j (by omega))⟩
    · have hltz : ¬ (k : Int) < (n : Int) := by omega
      have HT : Hid (varsOk V l = true) := all_true_at _ _ (fun j hj => AL.out j (by rw [HL.out] at hj; omega))
      go_wp2
      go_ret
      exact ⟨ret_bool HT.out.symm, HBr.out⟩
set_option maxRecDepth 100000 in
set_option maxHeartbeats 1000000 in
theorem eFits_any (V : Int) (A : Option Addr) (n c : Nat) (w : World) (hn : n ≤ maxLen) :
    Calls Try.prog 33 #[.agg #[.int .i64 V, .slice A n c]] w fun e w' => e = .returned (.tuple #[if V ≤ 65536 ∧ n ≤ 262144 then .agg #[.int .i64 V, .slice A n c] else .agg #[.int .i64 0, .slice none 0 0], .int .i64 (if V ≤ 65536 ∧ n ≤ 262144 then 0 else 6)]) ∧ w.grownBy w' none := by
  unfold maxLen at hn
  by_cases q1 : V ≤ 65536
  · by_cases q2 : n ≤ 262144
    · have q2z : (n : Int) ≤ 262144 := by omega
      have HC : Hid (V ≤ 65536 ∧ n ≤ 262144) := ⟨q1, q2⟩
      go_enter Try.func33, Try.ntmps33
      go_wp2
      refine bodyPost_ret (v := .tuple #[.agg #[.int .i64 V, .slice A n c], .int .i64 0]) (by simp [results, Try.results33, go_sem]) rfl ⟨?_, ?_⟩
      · first | rfl | rw [if_pos HC.out, if_pos HC.out]
      · first | exact (World.grownBy_alloc _ _ _).trans (World.grownBy_alloc _ _ _) | skip
    · have q2z : 262144 < (n : Int) := by omega
      have HC : Hid (¬ (V ≤ 65536 ∧ n ≤ 262144)) := fun h => q2 h.2
      go_enter Try.func33, Try.ntmps33
      go_wp2
      refine bodyPost_ret (v := .tuple #[.agg #[.int .i64 0, .slice none 0 0], .int .i64 6]) (by simp [results, Try.results33, go_sem]) rfl ⟨?_, ?_⟩
      · first | rfl | rw [if_neg HC.out, if_neg HC.out]
      · first | exact (World.grownBy_alloc _ _ _).trans (World.grownBy_alloc _ _ _) | skip
  · have q1z : 65536 < V := by omega
    have HC : Hid (¬ (V ≤ 65536 ∧ n ≤ 262144)) := fun h => q1 h.1
    go_enter Try.func33, Try.ntmps33
    go_wp2
    refine bodyPost_ret (v := .tuple #[.agg #[.int .i64 0, .slice none 0 0], .int .i64 6]) (by simp [results, Try.results33, go_sem]) rfl ⟨?_, ?_⟩
    · first | rfl | rw [if_neg HC.out, if_neg HC.out]
    · first | exact (World.grownBy_alloc _ _ _).trans (World.grownBy_alloc _ _ _) | skip
set_option maxRecDepth 100000 in
set_option maxHeartbeats 1000000 in
theorem rFits_any (V : Int) (A : Option Addr) (n c : Nat) (w : World) (hn : n ≤ maxLen) :
    Calls Try.prog 27 #[.agg #[.int .i64 V, .slice A n c]] w fun e w' => e = .returned (.tuple #[if V ≤ 65536 ∧ n ≤ 262144 then .agg #[.int .i64 V, .slice A n c] else .agg #[.int .i64 0, .slice none 0 0], .int .i64 (if V ≤ 65536 ∧ n ≤ 262144 then 0 else 6)]) ∧ w.grownBy w' none := by
  unfold maxLen at hn
  by_cases q1 : V ≤ 65536
  · by_cases q2 : n ≤ 262144
    · have q2z : (n : Int) ≤ 262144 := by omega
      have HC : Hid (V ≤ 65536 ∧ n ≤ 262144) := ⟨q1, q2⟩
      go_enter Try.func27, Try.ntmps27
      go_wp2
      refine bodyPost_ret (v := .tuple #[.agg #[.int .i64 V, .slice A n c], .int .i64 0]) (by simp [results, Try.results27, go_sem]) rfl ⟨?_, ?_⟩
      · first | rfl | rw [if_pos HC.out, if_pos HC.out]
      · first | exact (World.grownBy_alloc _ _ _).trans (World.grownBy_alloc _ _ _) | skip
    · have q2z : 262144 < (n : Int) := by omega
      have HC : Hid (¬ (V ≤ 65536 ∧ n ≤ 262144)) := fun h => q2 h.2
      go_enter Try.func27, Try.ntmps27
      go_wp2
      refine bodyPost_ret (v := .tuple #[.agg #[.int .i64 0, .slice none 0 0], .int .i64 6]) (by simp [results, Try.results27, go_sem]) rfl ⟨?_, ?_⟩
      · first | rfl | rw [if_neg HC.out, if_neg HC.out]
      · first | exact (World.grownBy_alloc _ _ _).trans (World.grownBy_alloc _ _ _) | skip
  · have q1z : 65536 < V := by omega
    have HC : Hid (¬ (V ≤ 65536 ∧ n ≤ 262144)) := fun h => q1 h.1
    go_enter Try.func27, Try.ntmps27
    go_wp2
    refine bodyPost_ret (v := .tuple #[.agg #[.int .i64 0, .slice none 0 0], .int .i64 6]) (by simp [results, Try.results27, go_sem]) rfl ⟨?_, ?_⟩
    · first | rfl | rw [if_neg HC.out, if_neg HC.out]
    · first | exact (World.grownBy_alloc _ _ _).trans (World.grownBy_alloc _ _ _) | skip
end Go.Proofs.Ytofflkfkakddkaa
