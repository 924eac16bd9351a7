/-
  Bits of numbers: lower.Bits, the reference's Bits and bit, both State, walked.
-/
import Derived.Test.YtlkpdmdgeppmdaaLPlain
import Derived.Test.YtlkpdmdgeppmdaaPt
import Derived.Test.YtlkpdmdgeppmdaaApp
namespace Go.Proofs.Ytlkpdmdgeppmdaa
open Go.RowKit
set_option linter.unusedSimpArgs false
set_option linter.unusedVariables false

set_option maxHeartbeats 400000 in
theorem lBits_any (x : Int) (w : World) : Calls Try.prog 14 #[.int .i64 x] w fun e w' => e = .returned (.int .i64 (bitsF x)) ∧ w = w' := by
  have hb : Hid (x = 2 ∨ x = 3 ∨ x = 4 ∨ (x ≠ 2 ∧ x ≠ 3 ∧ x ≠ 4)) := by show _ ∨ _; omega
  rcases hb.out with rfl | rfl | rfl | h
  · go_enter Try.func14, Try.ntmps14
    go_wp2
    go_ret
    exact ⟨rfl, rfl⟩
  · go_enter Try.func14, Try.ntmps14
    go_wp2
    go_ret
    exact ⟨rfl, rfl⟩
  · go_enter Try.func14, Try.ntmps14
    go_wp2
    go_ret
    exact ⟨rfl, rfl⟩
  · have h2 : (x == 2) = false := by simpa using h.1
    have h3 : (x == 3) = false := by simpa using h.2.1
    have h4 : (x == 4) = false := by simpa using h.2.2
    have HX : Hid (x ≠ 2 ∧ x ≠ 3 ∧ x ≠ 4) := h
    clear h hb
    go_enter Try.func14, Try.ntmps14
    go_wp2
    all_goals go_ret
    all_goals refine ⟨ret_i64 ?_, rfl⟩
    all_goals
      have := HX.out
      unfold bitsF
      rw [if_neg (by omega), if_neg (by omega)]
      first
        | rw [if_pos (by omega)]; rfl
        | rw [if_neg (by omega)]; rfl

set_option maxHeartbeats 400000 in
theorem rBits_any (x : Int) (w : World) : Calls Try.prog 15 #[.int .i64 x] w fun e w' => e = .returned (.int .i64 (bitsF x)) ∧ w = w' := by
  have hb : Hid (x = 2 ∨ x = 3 ∨ x = 4 ∨ (x ≠ 2 ∧ x ≠ 3 ∧ x ≠ 4)) := by show _ ∨ _; omega
  rcases hb.out with rfl | rfl | rfl | h
  · go_enter Try.func15, Try.ntmps15
    go_wp2
    go_ret
    exact ⟨rfl, rfl⟩
  · go_enter Try.func15, Try.ntmps15
    go_wp2
    go_ret
    exact ⟨rfl, rfl⟩
  · go_enter Try.func15, Try.ntmps15
    go_wp2
    go_ret
    exact ⟨rfl, rfl⟩
  · have h2 : (x == 2) = false := by simpa using h.1
    have h3 : (x == 3) = false := by simpa using h.2.1
    have h4 : (x == 4) = false := by simpa using h.2.2
    have HX : Hid (x ≠ 2 ∧ x ≠ 3 ∧ x ≠ 4) := h
    clear h hb
    go_enter Try.func15, Try.ntmps15
    go_wp2
    all_goals go_ret
    all_goals refine ⟨ret_i64 ?_, rfl⟩
    all_goals
      have := HX.out
      unfold bitsF
      rw [if_neg (by omega), if_neg (by omega)]
      first
        | rw [if_pos (by omega)]; rfl
        | rw [if_neg (by omega)]; rfl

theorem bit_and (v : Int) (h0 : 0 ≤ v) (h1 : v ≤ 7) : bits BinOp.and IntKind.i64 v 1 = v % 2 := by
  have : v = 0 ∨ v = 1 ∨ v = 2 ∨ v = 3 ∨ v = 4 ∨ v = 5 ∨ v = 6 ∨ v = 7 := by omega
  rcases this with rfl | rfl | rfl | rfl | rfl | rfl | rfl | rfl <;> decide
theorem bit_run (x : Int) (k : Nat) (h0 : 0 ≤ x) (h1 : x ≤ 7) : bits BinOp.and IntKind.i64 (x / 2 ^ k) 1 = x / 2 ^ k % 2 := by
  have hp : (0 : Int) < 2 ^ k := Int.pow_pos (by omega)
  have h2 : x / 2 ^ k ≤ x := Int.ediv_le_self _ h0
  have h3 : 0 ≤ x / 2 ^ k := Int.ediv_nonneg h0 (by omega)
  exact bit_and _ h3 (by omega)
theorem bit_cases (x : Int) (k : Nat) : x / 2 ^ k % 2 = if bitI x k = true then 1 else 0 := by
  unfold bitI
  split <;> simp_all <;> omega

set_option maxHeartbeats 400000 in
theorem rBit_any (x : Int) (k : Nat) (w : World) (h0 : 0 ≤ x) (h1 : x ≤ 7) (hk : k ≤ 10) : Calls Try.prog 24 #[.int .i64 x, .int .i64 k] w fun e w' => e = .returned (.bool (bitI x k)) ∧ w = w' := by
  go_enter Try.func24, Try.ntmps24
  go_wp2
  go_ret
  refine ⟨ret_bool ?_, rfl⟩
  rw [bit_run x k h0 h1]; rfl

theorem or_pow (n : Int) (k : Nat) (h0 : 0 ≤ n) (h1 : n < 2 ^ k) (hk : k ≤ 7) : bits BinOp.or IntKind.i64 n (2 ^ k) = n + 2 ^ k := by
  have key : ∀ k : Fin 8, ∀ n : Fin 128, n.val < 2 ^ k.val → bits BinOp.or IntKind.i64 (n.val : Int) (2 ^ k.val) = (n.val : Int) + 2 ^ k.val := by decide +kernel
  obtain ⟨m, rfl⟩ : ∃ m : Nat, n = (m : Int) := ⟨n.toNat, by omega⟩
  have hm : m < 2 ^ k := by
    have : ((2 ^ k : Nat) : Int) = 2 ^ k := by simp
    omega
  have hm2 : m < 128 := by
    have : 2 ^ k ≤ 2 ^ 7 := Nat.pow_le_pow_right (by omega) hk
    omega
  exact key ⟨k, by omega⟩ ⟨m, hm2⟩ hm

theorem pow_le8 (m : Nat) (h : m ≤ 8) : (2 : Int) ^ m ≤ 256 := by
  have h1 : 2 ^ m ≤ 2 ^ 8 := Nat.pow_le_pow_right (by omega) h
  have h2 : ((2 ^ m : Nat) : Int) = 2 ^ m := by simp
  omega
theorem bl_snoc (l : List Bool) (k : Nat) (h : k < l.length) : l.take (k + 1) = l.take k ++ [l.getD k false] := by
  rw [List.take_succ_eq_append_getElem h, List.getD_eq_getElem?_getD, List.getElem?_eq_getElem h]; rfl
theorem stateF_big {l : List Bool} (h : 8 < l.length) : stateF l = 0 := by rw [stateF, if_pos h]
theorem stateF_small {l : List Bool} (h : ¬ 8 < l.length) : stateF l = valB l := by rw [stateF, if_neg h]

set_option maxHeartbeats 1000000 in
theorem lState_any (A : Option Addr) (n c : Nat) (l : List Bool) (w : World) (h : Rd w w.heap.size 1 A n (bools l)) (hm : n ≤ maxLen) : Calls Try.prog 12 #[.slice A n c] w fun e w' => e = .returned (.int .i64 (stateF l)) ∧ w = w' := by
  have H : Hid (Rd w w.heap.size 1 A n (bools l)) := h
  have HL : Hid (l.length = n) := by have := h.1; rw [bools_length, Nat.mul_one] at this; exact this
  unfold maxLen at hm
  clear h
  by_cases hb : 8 < n
  · have HE : Hid (stateF l = 0) := stateF_big (by rw [HL.out]; exact hb)
    go_enter Try.func12, Try.ntmps12
    go_wp2
    go_ret
    exact ⟨ret_i64 HE.out.symm, rfl⟩
  have HE : Hid (stateF l = valB l) := stateF_small (by rw [HL.out]; exact hb)
  go_enter Try.func12, Try.ntmps12
  go_wp2
  go_loopg [3, 4, 5, 11] n (fun gg s3 _ _ s11 wr => ∃ (kk : Nat) (z : Int), kk ≤ n ∧ n - kk ≤ gg ∧ s11 = .int .i64 kk ∧ s3 = .int .i64 z ∧ wr = w ∧ Aside (z = valB (l.take kk)))
  case atStart => exact ⟨0, 0, Nat.zero_le _, by omega, rfl, rfl, rfl, (show _ = _ by simp [valB])⟩
  case round =>
    obtain ⟨kk, z, hkk, hgg, rfl, rfl, rfl, HZ⟩ := hrel
    by_cases hlt : kk < n
    · have hltz : (kk : Int) < (n : Int) := by omega
      obtain ⟨ad, rfl, hb', hz⟩ := H.out.bool hlt
      have hbd := valB_bd (l.take kk)
      rw [← HZ.out, List.length_take, HL.out, Nat.min_eq_left hkk] at hbd
      have HS : Hid (valB (l.take (kk + 1)) = z + if l.getD kk false = true then 2 ^ kk else 0) := by
        show _ = _
        rw [bl_snoc l kk (by rw [HL.out]; exact hlt), valB_snoc, ← HZ.out, List.length_take, HL.out, Nat.min_eq_left hkk]
      generalize l.getD kk false = b at hz HS
      have hor := or_pow z kk hbd.1 hbd.2 (by omega)
      have hpw : Hid ((1 : Int) ≤ 2 ^ kk ∧ (2 : Int) ^ kk ≤ 128) := by
        have hx : kk = 0 ∨ kk = 1 ∨ kk = 2 ∨ kk = 3 ∨ kk = 4 ∨ kk = 5 ∨ kk = 6 ∨ kk = 7 := by omega
        rcases hx with rfl | rfl | rfl | rfl | rfl | rfl | rfl | rfl <;> exact ⟨by decide, by decide⟩
      have hwr : IntKind.i64.wrap (2 ^ kk) = 2 ^ kk := IntWalk.i64_in _ (by have := hpw.out; omega)
      have h2p : (2 : Int) ^ kk ≤ 128 := hpw.out.2
      have h1p : (1 : Int) ≤ 2 ^ kk := hpw.out.1
      have hk7 : kk ≤ 7 := by omega
      clear hbd
      cases b
      · go_wp2
        go_roundg (n - (kk + 1))
        case measure => omega
        case rel => exact ⟨kk + 1, z, by omega, by omega, by go_num, rfl, rfl, (show _ = _ by rw [HS.out]; simp)⟩
      · go_wp2
        go_roundg (n - (kk + 1))
        case measure => omega
        case rel => exact ⟨kk + 1, z + 2 ^ kk, by omega, by omega, by go_num, by first | rfl | (rw [hor]; done) | simp [hor], rfl, (show _ = _ by rw [HS.out]; simp)⟩
    · have hltz : ¬ (kk : Int) < (n : Int) := by omega
      obtain rfl : kk = n := by omega
      go_wp2
      go_ret
      refine ⟨ret_i64 ?_, rfl⟩
      rw [HE.out, HZ.out, List.take_of_length_le (by rw [HL.out]; exact Nat.le_refl _)]

theorem valB_drop (l : List Bool) (k : Nat) (h : k < l.length) : valB (l.drop k) = (if l.getD k false = true then 1 else 0) + 2 * valB (l.drop (k + 1)) := by
  rw [List.drop_eq_getElem_cons h, valB, List.getD_eq_getElem?_getD, List.getElem?_eq_getElem h]; rfl

set_option maxHeartbeats 1000000 in
theorem rState_any (A : Option Addr) (n c : Nat) (l : List Bool) (w : World) (h : Rd w w.heap.size 1 A n (bools l)) (hm : n ≤ maxLen) : Calls Try.prog 13 #[.slice A n c] w fun e w' => e = .returned (.int .i64 (stateF l)) ∧ w = w' := by
  have H : Hid (Rd w w.heap.size 1 A n (bools l)) := h
  have HL : Hid (l.length = n) := by have := h.1; rw [bools_length, Nat.mul_one] at this; exact this
  unfold maxLen at hm
  clear h
  by_cases hb : 8 < n
  · have HE : Hid (stateF l = 0) := stateF_big (by rw [HL.out]; exact hb)
    go_enter Try.func13, Try.ntmps13
    go_wp2
    go_ret
    exact ⟨ret_i64 HE.out.symm, rfl⟩
  have HE : Hid (stateF l = valB l) := stateF_small (by rw [HL.out]; exact hb)
  go_enter Try.func13, Try.ntmps13
  go_wp2
  go_loopg [3, 4] n (fun gg s3 s4 wr => ∃ (kk : Nat) (z : Int), kk ≤ n ∧ kk ≤ gg ∧ s4 = .int .i64 ((kk : Int) - 1) ∧ s3 = .int .i64 z ∧ wr = w ∧ Aside (z = valB (l.drop kk)) ∧ 0 ≤ z ∧ z < 256)
  case atStart => exact ⟨n, 0, Nat.le_refl _, by omega, rfl, rfl, rfl, (show _ = _ by rw [List.drop_of_length_le (by rw [HL.out]; exact Nat.le_refl _)]; rfl), by omega, by omega⟩
  case round =>
    obtain ⟨kk, z, hkk, hgg, rfl, rfl, rfl, HZ, z0, z1⟩ := hrel
    by_cases hlt : 0 < kk
    · obtain ⟨j, rfl⟩ : ∃ j, kk = j + 1 := ⟨kk - 1, by omega⟩
      have hltz : (0 : Int) ≤ (j : Int) := by omega
      have hjn : (j : Int) < (n : Int) := by omega
      have hs : ((j + 1 : Nat) : Int) - 1 = (j : Int) := by omega
      rw [hs]
      obtain ⟨ad, rfl, hb', hz⟩ := H.out.bool (show j < n by omega)
      have HS : Hid (valB (l.drop j) = (if l.getD j false = true then 1 else 0) + 2 * z) := by
        show _ = _
        rw [valB_drop l j (by rw [HL.out]; omega), HZ.out]
      have hbd : Hid (0 ≤ valB (l.drop j) ∧ valB (l.drop j) < 256) := by
        have h1 := valB_bd (l.drop j)
        rw [List.length_drop, HL.out] at h1
        have h2 : (2 : Int) ^ (n - j) ≤ 256 := pow_le8 (n - j) (by omega)
        exact ⟨h1.1, by omega⟩
      generalize l.getD j false = b at hz HS
      clear hs
      cases b
      · go_wp2
        go_roundg j
        case measure => omega
        case rel => exact ⟨j, 2 * z, by omega, by omega, by first | rfl | (go_num; done), rfl, rfl, (show _ = _ by rw [HS.out]; simp), by omega, by have h1 := HS.out; have h2 := hbd.out; simp at h1; omega⟩
      · go_wp2
        go_roundg j
        case measure => omega
        case rel => exact ⟨j, 2 * z + 1, by omega, by omega, by first | rfl | (go_num; done), rfl, rfl, (show _ = _ by rw [HS.out]; simp; omega), by omega, by have h1 := HS.out; have h2 := hbd.out; simp at h1; omega⟩
    · obtain rfl : kk = 0 := by omega
      go_wp2
      go_ret
      refine ⟨ret_i64 ?_, rfl⟩
      rw [HE.out, HZ.out, List.drop_zero]
end Go.Proofs.Ytlkpdmdgeppmdaa
