/-
  Bits of words as the walk spells them; words and bit of package plane and of its reference, walked.
-/
import Derived.Test.YtfknooffjhncgaaPSame
import Derived.Test.YtfknooffjhncgaaPLaw
import Derived.Laws.BitsAllLaws
namespace Go.Proofs.Ytfknooffjhncgaa
open Go.RowKit
set_option linter.unusedSimpArgs false
set_option linter.unusedVariables false
theorem w64_and (x y : BitVec 64) : bits .and .u64 (x.toNat : Int) (y.toNat : Int) = ((x &&& y).toNat : Int) := by
  rw [u64_and_nat _ _ x.isLt y.isLt, BitVec.toNat_and]
theorem w64_or (x y : BitVec 64) : bits .or .u64 (x.toNat : Int) (y.toNat : Int) = ((x ||| y).toNat : Int) := by
  rw [u64_or_nat _ _ x.isLt y.isLt, BitVec.toNat_or]
theorem w64_andNot (x y : BitVec 64) : bits .andNot .u64 (x.toNat : Int) (y.toNat : Int) = ((x &&& ~~~y).toNat : Int) := by
  rw [u64_andNot_nat _ _ x.isLt y.isLt, BitVec.toNat_and, BitVec.toNat_not]
theorem w64_shr (x : BitVec 64) (k : Nat) : (x.toNat : Int) / 2 ^ k = ((x >>> k).toNat : Int) := by
  rw [BitVec.toNat_ushiftRight, Nat.shiftRight_eq_div_pow, Int.natCast_ediv, Int.natCast_pow]; rfl
theorem w64_bit (x : BitVec 64) (b : Nat) : bits .and .u64 ((x.toNat : Int) / 2 ^ b) 1 = if x.getLsbD b = true then 1 else 0 := by
  rw [w64_shr]
  have h1 : (1 : Int) = (((1#64 : BitVec 64).toNat : Nat) : Int) := rfl
  rw [h1, w64_and]
  have e : x >>> b &&& 1#64 = if x.getLsbD b = true then 1#64 else 0#64 := by
    apply word_ext
    intro i hi
    rw [BitVec.getLsbD_and, BitVec.getLsbD_ushiftRight, BitVec.getLsbD_one]
    by_cases h0 : i = 0
    · subst h0
      cases hb : x.getLsbD b <;> simp [hb]
    · cases hb : x.getLsbD b <;> simp [hb, h0]
  rw [e]
  split <;> rfl
theorem ret_u64 {a b : Int} (h : a = b) : Ending.returned (.int .u64 a) = .returned (.int .u64 b) := by rw [h]
theorem wprI (W : Nat) : ((W : Int) + 63) / 64 = ((wpr W : Nat) : Int) := by unfold wpr; omega

theorem words_any (W : Nat) (w : World) (h : W ≤ 1000) : Calls Try.prog 29 #[.int .i64 W] w fun e w' => e = .returned (.int .i64 (wpr W)) ∧ w = w' := by
  go_enter Try.func29, Try.ntmps29
  go_wp2
  go_ret
  exact ⟨ret_i64 (wprI W), rfl⟩
theorem rWords_any (W : Nat) (w : World) (h : W ≤ 1000) : Calls Try.prog 30 #[.int .i64 W] w fun e w' => e = .returned (.int .i64 (wpr W)) ∧ w = w' := by
  go_enter Try.func30, Try.ntmps30
  go_wp2
  go_ret
  exact ⟨ret_i64 (wprI W), rfl⟩

def b01 (b : Bool) : Int := if b = true then 1 else 0
theorem i64_and1 (n : Int) : bits .and .i64 n 1 = n % 2 := by
  have h1 : (BitVec.ofInt 64 1).toNat = 2 ^ 1 - 1 := by decide
  have key : (BitVec.ofInt 64 n &&& BitVec.ofInt 64 1).toNat = (n % ((2 ^ 64 : Nat) : Int)).toNat % 2 ^ 1 := by
    rw [BitVec.toNat_and, BitVec.toNat_ofInt, h1, Nat.and_two_pow_sub_one_eq_mod]
  show IntKind.i64.wrap ((BitVec.ofInt 64 n &&& BitVec.ofInt 64 1).toNat : Nat) = n % 2
  rw [key, IntKind.wrap_i64]
  omega
theorem shr_mod2 (v : BitVec 64) (r : Nat) : ((v.toNat : Int) / 2 ^ r) % 2 = b01 (v.getLsbD r) := by
  have h1 : ((v.toNat : Int) / 2 ^ r) % 2 = ((v.toNat / 2 ^ r % 2 : Nat) : Int) := by simp
  rw [h1, b01, ← BitVec.testBit_toNat, Nat.testBit_eq_decide_div_mod_eq]
  have h2 := Nat.mod_two_eq_zero_or_one (v.toNat / 2 ^ r)
  rcases h2 with e | e <;> rw [e] <;> simp
theorem wrap_mod2 (z : Int) : wrap64 z % 2 = z % 2 := by unfold wrap64; omega
theorem bit_i64 (v : BitVec 64) (r : Nat) : bits .and .i64 (wrap64 ((v.toNat : Int) / 2 ^ r)) 1 = b01 (v.getLsbD r) := by
  rw [i64_and1, wrap_mod2, shr_mod2]
set_option maxHeartbeats 1000000 in
theorem pbit_any (l : List (BitVec 64)) (x n c : Nat) (A : Option Addr) (w : World) (h : Rd w w.heap.size 1 A n (w64s l)) (hx : x / 64 < n) (hx2 : x ≤ 100000) (hn : n ≤ maxLen) :
    Calls Try.prog 46 #[.slice A n c, .int .i64 x] w fun e w' => e = .returned (.int .u64 (b01 ((l.getD (x / 64) 0#64).getLsbD (x % 64)))) ∧ w = w' := by
  unfold maxLen at hn
  obtain ⟨q, hq⟩ : ∃ q, q = x / 64 := ⟨_, rfl⟩
  obtain ⟨r, hr⟩ : ∃ r, r = x % 64 := ⟨_, rfl⟩
  rw [← hq] at hx
  rw [← hq, ← hr]
  have hqz : (x : Int) / 64 = (q : Int) := by omega
  have hrz : (x : Int) % 64 = (r : Int) := by omega
  have hr64 : r < 64 := by omega
  obtain ⟨ad, rfl, hb, hc⟩ := h.word hx
  unfold w64 at hc
  generalize l.getD q 0#64 = v at hc
  have HW : Hid (∀ b, bits .and .u64 ((v.toNat : Int) / 2 ^ b) 1 = if v.getLsbD b = true then 1 else 0) := w64_bit v
  have hxq : (q : Int) < (n : Int) := by omega
  clear hq hr h hx
  go_enter Try.func46, Try.ntmps46
  go_wp2
  go_ret
  refine ⟨ret_u64 ?_, rfl⟩
  rw [HW.out, b01]

set_option maxRecDepth 100000 in
set_option maxHeartbeats 1000000 in
/-- One bit of a cell, by the reference. -/
theorem rbit_any (p : Pln) (A : Option Addr) (n c : Nat) (sl : List Sl) (W b x y : Nat) (w : World) (h : PAt w p A n sl) (hW : p.w = (W : Int)) (hW1 : W ≤ 256) (hb : b < n) (hi : y * wpr W + x / 64 < (p.words.getD b []).length) (hx2 : x ≤ 100000) (hy2 : y * wpr W ≤ 100000) (hy3 : y ≤ 100000) :
    Calls Try.prog 34 #[.agg #[.int .i64 p.w, .int .i64 p.h, .int .i64 p.edge, .slice A n c], .int .i64 b, .int .i64 x, .int .i64 y] w fun e w' => e = .returned (.int .i64 (b01 (bitW (wpr W) (p.words.getD b []) x y))) ∧ Below w.heap.size w w' := by
  have H : Hid (PAt w p A n sl) := h
  have hm := h.n63
  obtain ⟨pw, ph, pe, ws⟩ := p
  dsimp only at hW hi H ⊢
  subst hW
  unfold maxLen at hm
  clear h
  obtain ⟨q, hq⟩ : ∃ q, q = x / 64 := ⟨_, rfl⟩
  obtain ⟨r, hr⟩ : ∃ r, r = x % 64 := ⟨_, rfl⟩
  obtain ⟨m, hmm⟩ : ∃ m, m = y * wpr W := ⟨_, rfl⟩
  have HK : Hid (bitW (wpr W) (ws.getD b []) x y = ((ws.getD b []).getD (m + q) 0#64).getLsbD r) := by show _ = _; rw [bitW, hq, hr, hmm]
  rw [HK.out]
  rw [← hq, ← hmm] at hi
  rw [← hmm] at hy2
  have hqz : (x : Int) / 64 = (q : Int) := by omega
  have hrz : (x : Int) % 64 = (r : Int) := by omega
  have hr64 : r < 64 := by omega
  have hmz : (y : Int) * ((wpr W : Nat) : Int) = (m : Int) := by rw [hmm, Int.natCast_mul]
  have hw1 : IntKind.i64.wrap (m : Int) = (m : Int) := IntWalk.i64_in _ (by omega)
  have hq5 : q ≤ 100000 := by omega
  have hw2 : IntKind.i64.wrap ((m : Int) + (q : Int)) = (m : Int) + (q : Int) := IntWalk.i64_in _ (by omega)
  have hn2 : ((m : Int) + (q : Int)).toNat = m + q := by omega
  have hw0 : (0 : Int) ≤ (m : Int) + (q : Int) := by omega
  have hbz : (b : Int) < (n : Int) := by omega
  obtain ⟨ad, rfl, hbl, hc, hrd, hlm, hle⟩ := H.out.row hb
  dsimp only at hrd hle
  rw [hle] at hi
  generalize sl.getD b default = s at hc hrd hlm hi
  obtain ⟨sa, sn, sc⟩ := s
  dsimp only at hc hrd hlm hi
  obtain ⟨rd, rfl, hrb, hrc⟩ := hrd.word hi
  unfold w64 at hrc
  unfold maxLen at hlm
  generalize (ws.getD b []).getD (m + q) 0#64 = v at hrc
  have hiz : (m : Int) + (q : Int) < (sn : Int) := by omega
  have HW : Hid (∀ b, bits .and .u64 ((v.toNat : Int) / 2 ^ b) 1 = if v.getLsbD b = true then 1 else 0) := w64_bit v
  have hbk : (ad.add b).block < w.heap.size := by rw [add_block]; exact hbl
  have hrk : (rd.add (m + q)).block < w.heap.size := by rw [add_block]; exact hrb
  clear hq hr hmm hi HK
  go_enter Try.func34, Try.ntmps34
  go_wp2_with fail
  have RA : Hid (Row (World.alloc w _) w.heap.size 28 [.int .i64 W, .int .i64 ph, .int .i64 pe, .slice (some ad) n c]) := Row.new w 28 [.int .i64 W, .int .i64 ph, .int .i64 pe, .slice (some ad) n c]
  go_quiet ((go_at_call 30; exact quiet_same (rWords_any W _ (by omega))))
  go_wp2
  go_ret
  exact ⟨ret_i64 (bit_i64 v r), below_drewN (show Below _ _ _ by go_grown) _⟩

set_option maxRecDepth 100000 in
set_option maxHeartbeats 2000000 in
/-- The state of a cell, by the reference. -/
theorem rstate_any (p : Pln) (A : Option Addr) (n c : Nat) (sl : List Sl) (W x y : Nat) (w : World) (h : PAt w p A n sl) (hW : p.w = (W : Int)) (hW1 : W ≤ 256) (hn3 : n ≤ 3) (hi : ∀ b, b < n → y * wpr W + x / 64 < (p.words.getD b []).length) (hx2 : x ≤ 100000) (hy2 : y * wpr W ≤ 100000) (hy3 : y ≤ 100000) :
    Calls Try.prog 32 #[.agg #[.int .i64 p.w, .int .i64 p.h, .int .i64 p.edge, .slice A n c], .int .i64 x, .int .i64 y] w fun e w' => e = .returned (.int .i64 (stateTo (wpr W) p.words x y n)) ∧ Below w.heap.size w w' := by
  have H : Hid (PAt w p A n sl) := h
  have HI : Hid (∀ b, b < n → y * wpr W + x / 64 < (p.words.getD b []).length) := hi
  have HY : Hid (y * wpr W ≤ 100000) := hy2
  have HW : Hid (p.w = (W : Int)) := hW
  clear h hi hW hy2
  go_enter Try.func32, Try.ntmps32
  go_wp2
  go_loopg [7, 8] n (fun gg s7 s8 wr => ∃ (b : Nat) (z : Int), b ≤ n ∧ n - b ≤ gg ∧ s8 = .int .i64 b ∧ s7 = .int .i64 z ∧ Aside (z = stateTo (wpr W) p.words x y b) ∧ Aside (Below w.heap.size w wr) ∧ Aside (Row wr w.heap.size 28 [.int .i64 p.w, .int .i64 p.h, .int .i64 p.edge, .slice A n c]))
  case atStart => exact ⟨0, 0, Nat.zero_le _, by omega, rfl, rfl, rfl, (show Below _ _ _ by go_grown), Row.new w 28 [.int .i64 p.w, .int .i64 p.h, .int .i64 p.edge, .slice A n c]⟩
  case round =>
    obtain ⟨b, z, hb, hg, rfl, rfl, HZ, BW, RW⟩ := hrel
    have RW : Hid (Row wr w.heap.size 28 [.int .i64 p.w, .int .i64 p.h, .int .i64 p.edge, .slice A n c]) := RW.out
    have k0 := RW.out.cell 0
    have k1 := RW.out.cell 1
    have k2 := RW.out.cell 2
    have k3 := RW.out.cell 3
    have kl := RW.out.lt
    simp only [List.getElem?_cons_zero, List.getElem?_cons_succ] at k0 k1 k2 k3
    by_cases hlt : b < n
    · have hltz : (b : Int) < (n : Int) := by omega
      have hbd := stateTo_bd (wpr W) p.words x y b
      have HS : Hid (stateTo (wpr W) p.words x y (b + 1) = stateTo (wpr W) p.words x y b + (if bitW (wpr W) (p.words.getD b []) x y = true then 2 ^ b else 0)) := rfl
      rw [← HZ.out] at hbd
      have HZ' : Hid (z = stateTo (wpr W) p.words x y b) := HZ.out
      clear HZ
      have h8 : (2 : Int) ^ b ≤ 4 := by
        have hc : b = 0 ∨ b = 1 ∨ b = 2 := by omega
        rcases hc with e | e | e <;> rw [e] <;> decide
      have hzb : 0 ≤ z ∧ z ≤ 8 := by omega
      clear hbd
      go_wp2_with fail
      refine (rbit_any p A n c sl W b x y _ (H.out.up BW.out) HW.out hW1 hlt (HI.out b hlt) hx2 HY.out hy3).mono ?_
      generalize bitW (wpr W) (p.words.getD b []) x y = q at HS
      rintro e w1 ⟨rfl, hb1⟩
      have BW1 : Hid (Below w.heap.size w w1) := below_on2 BW.out hb1
      have RW1 : Hid (Row w1 w.heap.size 28 [.int .i64 p.w, .int .i64 p.h, .int .i64 p.edge, .slice A n c]) := rowCells RW.out hb1
      clear hb1 k0 k1 k2 k3 kl
      have hv : b01 q * 2 ^ b = if q = true then 2 ^ b else 0 := by cases q <;> simp [b01]
      have hv2 : 0 ≤ (if q = true then (2 : Int) ^ b else 0) ∧ (if q = true then (2 : Int) ^ b else 0) ≤ 4 := by
        have : (0 : Int) < 2 ^ b := Int.pow_pos (by omega)
        split <;> omega
      generalize (if q = true then (2 : Int) ^ b else 0) = u at hv hv2 HS
      generalize b01 q = v at hv
      have hwv : IntKind.i64.wrap (v * 2 ^ b) = u := by rw [hv]; exact IntWalk.i64_in _ (by omega)
      go_wp2
      go_roundg (n - (b + 1))
      case measure => omega
      case rel => exact ⟨b + 1, z + u, by omega, by omega, by go_num, by go_num, (show _ = _ by rw [HS.out, HZ'.out]), BW1.out, RW1.out⟩
    · have hltz : ¬ (b : Int) < (n : Int) := by omega
      obtain rfl : b = n := by omega
      go_wp2
      go_ret
      exact ⟨ret_i64 HZ.out, BW.out⟩
end Go.Proofs.Ytfknooffjhncgaa
