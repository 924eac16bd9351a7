/-
 A part.
-/
import Derived.Test.YtiemhbogbaamlaaYC24
import Derived.Test.YtiemhbogbaamlaaYC2
import Derived.Laws.BitsAllLaws
import Derived.Test.YtiemhbogbaamlaaProg
import Derived.Test.YtiemhbogbaamlaaYC7
namespace Go.Proofs.Ytiemhbogbaamlaa
open Go.RowKit
set_option linter.unusedSimpArgs false
set_option linter.unusedVariables false
theorem w64_andP (x y : BitVec 64) : bits .and .u64 (x.toNat : Int) (y.toNat : Int) = ((x &&& y).toNat : Int) := by
 rw [u64_and_nat _ _ x.isLt y.isLt, BitVec.toNat_and]
theorem w64_orP (x y : BitVec 64) : bits .or .u64 (x.toNat : Int) (y.toNat : Int) = ((x ||| y).toNat : Int) := by
 rw [u64_or_nat _ _ x.isLt y.isLt, BitVec.toNat_or]
theorem w64_andNot (x y : BitVec 64) : bits .andNot .u64 (x.toNat : Int) (y.toNat : Int) = ((x &&& ~~~y).toNat : Int) := by
 rw [u64_andNot_nat _ _ x.isLt y.isLt, BitVec.toNat_and, BitVec.toNat_not]
theorem w64_shr (x : BitVec 64) (k : Nat) : (x.toNat : Int) / 2 ^ k = ((x >>> k).toNat : Int) := by
 rw [BitVec.toNat_ushiftRight, Nat.shiftRight_eq_div_pow, Int.natCast_ediv, Int.natCast_pow]; rfl
theorem w64_bit (x : BitVec 64) (b : Nat) : bits .and .u64 ((x.toNat : Int) / 2 ^ b) 1 = if x.getLsbD b = true then 1 else 0 := by
 rw [w64_shr]
 have h1 : (1 : Int) = (((1#64 : BitVec 64).toNat : Nat) : Int) := rfl
 rw [h1, w64_andP]
 have e : x >>> b &&& 1#64 = if x.getLsbD b = true then 1#64 else 0#64 := by
  apply word_ext
  intro i hi
  rw [BitVec.getLsbD_and, BitVec.getLsbD_ushiftRight, BitVec.getLsbD_one]
  by_cases h0 : i = 0
  ·subst h0
   cases hb : x.getLsbD b <;> simp [hb]
  ·cases hb : x.getLsbD b <;> simp [hb, h0]
 rw [e]
 split <;> rfl
theorem ret_u64 {a b : Int} (h : a = b) : Ending.returned (.int .u64 a) = .returned (.int .u64 b) := by rw [h]
theorem wprI (W : Nat) : ((W : Int) + 63) / 64 = ((wpr W : Nat) : Int) := by unfold wpr; omega
theorem words_any (W : Nat) (w : World) (h : W ≤ 1000) : Calls Try.prog 44 #[.int .i64 W] w fun e w' => e = .returned (.int .i64 (wpr W)) ∧ w = w' := by
 go_enter Try.func44, Try.ntmps44
 go_wp2
 go_ret
 exact ⟨ret_i64 (wprI W), rfl⟩
theorem rWords_any (W : Nat) (w : World) (h : W ≤ 1000) : Calls Try.prog 67 #[.int .i64 W] w fun e w' => e = .returned (.int .i64 (wpr W)) ∧ w = w' := by
 go_enter Try.func67, Try.ntmps67
 go_wp2
 go_ret
 exact ⟨ret_i64 (wprI W), rfl⟩
def b01 (b : Bool) : Int := if b = true then 1 else 0
theorem i64_and1 (n : Int) : bits .and .i64 n 1 = n % 2 := by
 have h1 : (BitVec.ofInt 64 1).toNat = 2 ^ 1 - 1 := by decide
 have key : (BitVec.ofInt 64 n &&& BitVec.ofInt 64 1).toNat = (n % ((2 ^ 64 : Nat) : Int)).toNat % 2 ^ 1 := by
  rw [BitVec.toNat_and, BitVec.toNat_ofInt, h1, Nat.and_two_pow_sub_one_eq_mod]
 show IntKind.i64.wrap ((BitVec.ofInt 64 n &&& BitVec.ofInt 64 1).toNat : Nat) = n % 2
 rw [key, IntKind.wrap_i64]
 omega
theorem shr_mod2 (v : BitVec 64) (r : Nat) : ((v.toNat : Int) / 2 ^ r) % 2 = b01 (v.getLsbD r) := by
 have h1 : ((v.toNat : Int) / 2 ^ r) % 2 = ((v.toNat / 2 ^ r % 2 : Nat) : Int) := by simp
 rw [h1, b01, ← BitVec.testBit_toNat, Nat.testBit_eq_decide_div_mod_eq]
 have h2 := Nat.mod_two_eq_zero_or_one (v.toNat / 2 ^ r)
 rcases h2 with e | e <;> rw [e] <;> simp
theorem wrap_mod2 (z : Int) : wrap64 z % 2 = z % 2 := by unfold wrap64; omega
theorem bit_i64 (v : BitVec 64) (r : Nat) : bits .and .i64 (wrap64 ((v.toNat : Int) / 2 ^ r)) 1 = b01 (v.getLsbD r) := by
 rw [i64_and1, wrap_mod2, shr_mod2]
set_option maxHeartbeats 1000000 in
theorem pbit_any (l : List (BitVec 64)) (x n c : Nat) (A : Option Addr) (w : World) (h : Rd w w.heap.size 1 A n (w64s l)) (hx : x / 64 < n) (hx2 : x ≤ 100000) (hn : n ≤ maxLen) :
 Calls Try.prog 110 #[.slice A n c, .int .i64 x] w fun e w' => e = .returned (.int .u64 (b01 ((l.getD (x / 64) 0#64).getLsbD (x % 64)))) ∧ w = w' := by
 unfold maxLen at hn
 obtain ⟨q, hq⟩ : ∃ q, q = x / 64 := ⟨_, rfl⟩
 obtain ⟨r, hr⟩ : ∃ r, r = x % 64 := ⟨_, rfl⟩
 rw [← hq] at hx
 rw [← hq, ← hr]
 have hqz : (x : Int) / 64 = (q : Int) := by omega
 have hrz : (x : Int) % 64 = (r : Int) := by omega
 have hr64 : r < 64 := by omega
 obtain ⟨ad, rfl, hb, hc⟩ := h.word hx
 unfold w64 at hc
 generalize l.getD q 0#64 = v at hc
 have HW : Hid (∀ b, bits .and .u64 ((v.toNat : Int) / 2 ^ b) 1 = if v.getLsbD b = true then 1 else 0) := w64_bit v
 have hxq : (q : Int) < (n : Int) := by omega
 clear hq hr h hx
 go_enter Try.func110, Try.ntmps110
 go_wp2
 go_ret
 refine ⟨ret_u64 ?_, rfl⟩
 rw [HW.out, b01]
set_option maxRecDepth 100000 in
set_option maxHeartbeats 1000000 in
theorem rbit_any (p : Pln) (A : Option Addr) (n c : Nat) (sl : List Sl) (W b x y : Nat) (w : World) (h : PAt w p A n sl) (hW : p.w = (W : Int)) (hW1 : W ≤ 256) (hb : b < n) (hi : y * wpr W + x / 64 < (p.words.getD b []).length) (hx2 : x ≤ 100000) (hy2 : y * wpr W ≤ 100000) (hy3 : y ≤ 100000) :
 Calls Try.prog 68 #[.agg #[.int .i64 p.w, .int .i64 p.h, .int .i64 p.edge, .slice A n c], .int .i64 b, .int .i64 x, .int .i64 y] w fun e w' => e = .returned (.int .i64 (b01 (bitW (wpr W) (p.words.getD b []) x y))) ∧ Below w.heap.size w w' := by
 have H : Hid (PAt w p A n sl) := h
 have hm := h.n63
 obtain ⟨pw, ph, pe, ws⟩ := p
 dsimp only at hW hi H ⊢
 subst hW
 unfold maxLen at hm
 clear h
 obtain ⟨q, hq⟩ : ∃ q, q = x / 64 := ⟨_, rfl⟩
 obtain ⟨r, hr⟩ : ∃ r, r = x % 64 := ⟨_, rfl⟩
 obtain ⟨m, hmm⟩ : ∃ m, m = y * wpr W := ⟨_, rfl⟩
 have HK : Hid (bitW (wpr W) (ws.getD b []) x y = ((ws.getD b []).getD (m + q) 0#64).getLsbD r) := by show _ = _; rw [bitW, hq, hr, hmm]
 rw [HK.out]
 rw [← hq, ← hmm] at hi
 rw [← hmm] at hy2
 have hqz : (x : Int) / 64 = (q : Int) := by omega
 have hrz : (x : Int) % 64 = (r : Int) := by omega
 have hr64 : r < 64 := by omega
 have hmz : (y : Int) * ((wpr W : Nat) : Int) = (m : Int) := by rw [hmm, Int.natCast_mul]
 have hw1 : IntKind.i64.wrap (m : Int) = (m : Int) := IntWalk.i64_in _ (by omega)
 have hq5 : q ≤ 100000 := by omega
 have hw2 : IntKind.i64.wrap ((m : Int) + (q : Int)) = (m : Int) + (q : Int) := IntWalk.i64_in _ (by omega)
 have hn2 : ((m : Int) + (q : Int)).toNat = m + q := by omega
 have hw0 : (0 : Int) ≤ (m : Int) + (q : Int) := by omega
 have hbz : (b : Int) < (n : Int) := by omega
 obtain ⟨ad, rfl, hbl, hc, hrd, hlm, hle⟩ := H.out.row hb
 dsimp only at hrd hle
 rw [hle] at hi
 generalize sl.getD b default = s at hc hrd hlm hi
 obtain ⟨sa, sn, sc⟩ := s
 dsimp only at hc hrd hlm hi
 obtain ⟨rd, rfl, hrb, hrc⟩ := hrd.word hi
 unfold w64 at hrc
 unfold maxLen at hlm
 generalize (ws.getD b []).getD (m + q) 0#64 = v at hrc
 have hiz : (m : Int) + (q : Int) < (sn : Int) := by omega
 have HW : Hid (∀ b, bits .and .u64 ((v.toNat : Int) / 2 ^ b) 1 = if v.getLsbD b = true then 1 else 0) := w64_bit v
 have hbk : (ad.add b).block < w.heap.size := by rw [add_block]; exact hbl
 have hrk : (rd.add (m + q)).block < w.heap.size := by rw [add_block]; exact hrb
 clear hq hr hmm hi HK
 go_enter Try.func68, Try.ntmps68
 go_wp2_with fail
 have RA : Hid (Row (World.alloc w _) w.heap.size 42 [.int .i64 W, .int .i64 ph, .int .i64 pe, .slice (some ad) n c]) := Row.new w 42 [.int .i64 W, .int .i64 ph, .int .i64 pe, .slice (some ad) n c]
 go_quiet ((go_at_call 67; exact quiet_same (rWords_any W _ (by omega))))
 go_wp2
 go_ret
 exact ⟨ret_i64 (bit_i64 v r), below_drewN (show Below _ _ _ by go_grown) _⟩
set_option maxRecDepth 100000 in
set_option maxHeartbeats 2000000 in
theorem rstate_any (p : Pln) (A : Option Addr) (n c : Nat) (sl : List Sl) (W x y : Nat) (w : World) (h : PAt w p A n sl) (hW : p.w = (W : Int)) (hW1 : W ≤ 256) (hn3 : n ≤ 3) (hi : ∀ b, b < n → y * wpr W + x / 64 < (p.words.getD b []).length) (hx2 : x ≤ 100000) (hy2 : y * wpr W ≤ 100000) (hy3 : y ≤ 100000) :
 Calls Try.prog 69 #[.agg #[.int .i64 p.w, .int .i64 p.h, .int .i64 p.edge, .slice A n c], .int .i64 x, .int .i64 y] w fun e w' => e = .returned (.int .i64 (stateTo (wpr W) p.words x y n)) ∧ Below w.heap.size w w' := by
 have H : Hid (PAt w p A n sl) := h
 have HI : Hid (∀ b, b < n → y * wpr W + x / 64 < (p.words.getD b []).length) := hi
 have HY : Hid (y * wpr W ≤ 100000) := hy2
 have HW : Hid (p.w = (W : Int)) := hW
 clear h hi hW hy2
 go_enter Try.func69, Try.ntmps69
 go_wp2
 go_loopg [7, 8] n (fun gg s7 s8 wr => ∃ (b : Nat) (z : Int), b ≤ n ∧ n - b ≤ gg ∧ s8 = .int .i64 b ∧ s7 = .int .i64 z ∧ Aside (z = stateTo (wpr W) p.words x y b) ∧ Aside (Below w.heap.size w wr) ∧ Aside (Row wr w.heap.size 42 [.int .i64 p.w, .int .i64 p.h, .int .i64 p.edge, .slice A n c]))
 case atStart => exact ⟨0, 0, Nat.zero_le _, by omega, rfl, rfl, rfl, (show Below _ _ _ by go_grown), Row.new w 42 [.int .i64 p.w, .int .i64 p.h, .int .i64 p.edge, .slice A n c]⟩
 case round =>
  obtain ⟨b, z, hb, hg, rfl, rfl, HZ, BW, RW⟩ := hrel
  have RW : Hid (Row wr w.heap.size 42 [.int .i64 p.w, .int .i64 p.h, .int .i64 p.edge, .slice A n c]) := RW.out
  obtain ⟨k0, k1, k2, k3, kl⟩ := RW.out.cells4
  by_cases hlt : b < n
  ·have hltz : (b : Int) < (n : Int) := by omega
   have hbd := stateTo_bd (wpr W) p.words x y b
   have HS : Hid (stateTo (wpr W) p.words x y (b + 1) = stateTo (wpr W) p.words x y b + (if bitW (wpr W) (p.words.getD b []) x y = true then 2 ^ b else 0)) := rfl
   rw [← HZ.out] at hbd
   have HZ' : Hid (z = stateTo (wpr W) p.words x y b) := HZ.out
   clear HZ
   have h8 : (2 : Int) ^ b ≤ 4 := by
    have hc : b = 0 ∨ b = 1 ∨ b = 2 := by omega
    rcases hc with e | e | e <;> rw [e] <;> decide
   have hzb : 0 ≤ z ∧ z ≤ 8 := by omega
   clear hbd
   go_wp2_with fail
   refine (rbit_any p A n c sl W b x y _ (H.out.up BW.out) HW.out hW1 hlt (HI.out b hlt) hx2 HY.out hy3).mono ?_
   generalize bitW (wpr W) (p.words.getD b []) x y = q at HS
   rintro e w1 ⟨rfl, hb1⟩
   have BW1 : Hid (Below w.heap.size w w1) := below_on2 BW.out hb1
   have RW1 : Hid (Row w1 w.heap.size 42 [.int .i64 p.w, .int .i64 p.h, .int .i64 p.edge, .slice A n c]) := rowCells RW.out hb1
   clear hb1 k0 k1 k2 k3 kl
   have hv : b01 q * 2 ^ b = if q = true then 2 ^ b else 0 := by cases q <;> simp [b01]
   have hv2 : 0 ≤ (if q = true then (2 : Int) ^ b else 0) ∧ (if q = true then (2 : Int) ^ b else 0) ≤ 4 := by
    have : (0 : Int) < 2 ^ b := Int.pow_pos (by omega)
    split <;> omega
   generalize (if q = true then (2 : Int) ^ b else 0) = u at hv hv2 HS
   generalize b01 q = v at hv
   have hwv : IntKind.i64.wrap (v * 2 ^ b) = u := by rw [hv]; exact IntWalk.i64_in _ (by omega)
   go_wp2
   go_roundg (n - (b + 1))
   case measure => omega
   case rel => exact ⟨b + 1, z + u, by omega, by omega, by go_num, by go_num, (show _ = _ by rw [HS.out, HZ'.out]), BW1.out, RW1.out⟩
  ·have hltz : ¬ (b : Int) < (n : Int) := by omega
   obtain rfl : b = n := by omega
   go_wp2
   go_ret
   exact ⟨ret_i64 HZ.out, BW.out⟩
end Go.Proofs.Ytiemhbogbaamlaa

/-
 A part.
-/
namespace Go.Proofs.Ytiemhbogbaamlaa
open Go.RowKit
set_option linter.unusedSimpArgs false
set_option linter.unusedVariables false
theorem ret_ib {a b : Int} {x y : Bool} (h : a = b) (h' : x = y) : Ending.returned (.tuple #[.int .i64 a, .bool x]) = .returned (.tuple #[.int .i64 b, .bool y]) := by rw [h, h']
theorem mod_walk2 (n m : Int) (hm : 0 < m) : (Int.tmod n m + m) % m = n % m := by
 have h1 : 0 ≤ Int.tmod n m + m := by
  have := Int.lt_tmod_of_pos n hm
  omega
 rw [← Int.tmod_eq_emod_of_nonneg h1, mod_walk n m hm]
theorem sizedF_false {a b e : Int} (h : ¬ ((1 ≤ a ∧ a ≤ 256) ∧ (1 ≤ b ∧ b ≤ 256))) : sizedF a b e = false := by
 unfold sizedF; rw [decide_eq_false]; omega
set_option maxHeartbeats 400000 in
theorem sized_any (a b e : Int) (w : World) :
 Calls Try.prog 74 #[.int .i64 a, .int .i64 b, .int .i64 e] w fun en w' => en = .returned (.bool (sizedF a b e)) ∧ w = w' := by
 by_cases hr : (1 ≤ a ∧ a ≤ 256) ∧ (1 ≤ b ∧ b ≤ 256)
 ·obtain ⟨ha, hb⟩ := hr
  have hp := prod_bd ha hb
  obtain ⟨ha1, ha2⟩ := ha
  obtain ⟨hb1, hb2⟩ := hb
  obtain ⟨hp1, hp2⟩ := hp
  go_enter Try.func74, Try.ntmps74
  go_wp2
  all_goals go_ret
  all_goals refine ⟨ret_bool ?_, rfl⟩
  all_goals unfold sizedF
  all_goals (rw [Bool.eq_iff_iff]; simp; omega)
 ·rw [sizedF_false hr]
  go_enter Try.func74, Try.ntmps74
  go_wp2
  all_goals go_ret
  all_goals refine ⟨ret_bool ?_, rfl⟩
  all_goals first | rfl | (exfalso; omega)
set_option maxHeartbeats 400000 in
theorem rSize_any (a b e : Int) (w : World) :
 Calls Try.prog 41 #[.int .i64 a, .int .i64 b, .int .i64 e] w fun en w' => en = .returned (.bool (sizedF a b e)) ∧ w = w' := by
 by_cases hr : (1 ≤ a ∧ a ≤ 256) ∧ (1 ≤ b ∧ b ≤ 256)
 ·obtain ⟨ha, hb⟩ := hr
  have hp := prod_bd ha hb
  obtain ⟨ha1, ha2⟩ := ha
  obtain ⟨hb1, hb2⟩ := hb
  obtain ⟨hp1, hp2⟩ := hp
  go_enter Try.func41, Try.ntmps41
  go_wp2
  all_goals go_ret
  all_goals refine ⟨ret_bool ?_, rfl⟩
  all_goals unfold sizedF
  all_goals (rw [Bool.eq_iff_iff]; simp; omega)
 ·rw [sizedF_false hr]
  go_enter Try.func41, Try.ntmps41
  go_wp2
  all_goals go_ret
  all_goals refine ⟨ret_bool ?_, rfl⟩
  all_goals first | rfl | (exfalso; omega)
set_option maxHeartbeats 400000 in
theorem rMod_any (n m : Int) (w : World) (h1 : 1 ≤ m) (h2 : m ≤ 1000000) :
 Calls Try.prog 77 #[.int .i64 n, .int .i64 m] w fun en w' => en = .returned (.int .i64 (n % m)) ∧ w = w' := by
 have hb := tmod_bd n m (by omega)
 have hm : Hid ((Int.tmod n m + m) % m = n % m) := mod_walk2 n m (by omega)
 obtain ⟨hb1, hb2⟩ := hb
 go_enter Try.func77, Try.ntmps77
 go_wp2
 go_ret
 exact ⟨ret_i64 hm.out, rfl⟩
set_option maxHeartbeats 400000 in
theorem rAt_any (x s e : Int) (w : World) (h1 : 1 ≤ s) (h2 : s ≤ 256) :
 Calls Try.prog 47 #[.int .i64 x, .int .i64 s, .int .i64 e] w fun en w' => en = .returned (.int .i64 (atF x s e)) ∧ w = w' := by
 by_cases hx : 0 ≤ x ∧ x < s
 ·have hV : atF x s e = x := by unfold atF; rw [if_pos hx]
  obtain ⟨hx1, hx2⟩ := hx
  rw [hV]
  clear hV
  go_enter Try.func47, Try.ntmps47
  go_wp2
  go_ret
  exact ⟨rfl, rfl⟩
 ·by_cases e1 : e = 1
  ·subst e1
   have hV : atF x s 1 = x % s := by unfold atF; rw [if_neg hx, if_pos rfl]
   rw [hV]
   clear hV
   go_enter Try.func47, Try.ntmps47
   go_wp2_with (go_at_call 77
                refine (rMod_any x s _ (by omega) (by omega)).mono ?_
                rintro en w' ⟨rfl, rfl⟩)
   all_goals first | (go_ret; exact ⟨rfl, rfl⟩) | (exfalso; omega)
  ·by_cases e2 : e = 2
   ·subst e2
    have hV : atF x s 2 = foldF x s := by unfold atF; rw [if_neg hx, if_neg (by omega), if_pos rfl]
    have hb := mod_bd x (2 * s) (by omega)
    obtain ⟨hb1, hb2⟩ := hb
    rw [hV]
    clear hV
    go_enter Try.func47, Try.ntmps47
    go_wp2_with (go_at_call 77
                 refine (rMod_any x (2 * s) _ (by omega) (by omega)).mono ?_
                 rintro en w' ⟨rfl, rfl⟩
                 generalize hk : x % (2 * s) = k at hb1 hb2 ⊢
                 have HK : Hid (x % (2 * s) = k) := hk
                 clear hk)
    all_goals (go_ret; refine ⟨ret_i64 ?_, rfl⟩; unfold foldF; rw [HK.out]; split <;> omega)
   ·have hV : atF x s e = -1 := by unfold atF; rw [if_neg hx, if_neg e1, if_neg e2]
    rw [hV]
    clear hV
    go_enter Try.func47, Try.ntmps47
    go_wp2
    all_goals first | (go_ret; exact ⟨rfl, rfl⟩) | (exfalso; omega)
end Go.Proofs.Ytiemhbogbaamlaa

/-
 A part.
-/
namespace Go.Proofs.Ytiemhbogbaamlaa
open Go.RowKit
set_option linter.unusedSimpArgs false
set_option linter.unusedVariables false
theorem int_infog : (Try.prog.info? 3).map (fun i => (i.zero, i.size, i.bytes)) = some (some (.int .i64 0), 1, 8) := by kernel_rfl
theorem ints_zeros (n : Nat) : ints (zeros n) = List.replicate n (.int .i64 0) := by simp [ints, zeros]
def GPost (r : Grd) (k : Int) (w : World) (e : Ending) (w' : World) : Prop :=
 ∃ (A : Option Addr) (n c : Nat), e = .returned (.tuple #[.agg #[.int .i64 r.w, .int .i64 r.h, .int .i64 r.edge, .slice A n c], .int .i64 k]) ∧ GAt w' r A n ∧ Below w.heap.size w w'
def NewOr (A : Option Addr) (n b B : Nat) : Prop := ∀ ad, A = some ad → 0 < n → ad.block < b ∨ B ≤ ad.block
theorem NewOr.mono {A : Option Addr} {n b B b' B' : Nat} (h : NewOr A n b B) (h1 : b ≤ b') (h2 : B' ≤ B) : NewOr A n b' B' := fun ad e hn => (h ad e hn).imp (fun h => by omega) (fun h => by omega)
theorem NewOr.none {n b B : Nat} : NewOr none n b B := fun ad e => by cases e
theorem Rd.newOr {w : World} {B sz n c : Nat} {A : Option Addr} {xs : List Value} (h : Rd w B sz A n xs) : NewOr A n B c := fun ad e hn => by
 obtain ⟨a', e', hb', _⟩ := h.2 hn
 rw [e] at e'
 cases e'
 exact .inl hb'
theorem own_newOr {w : World} {base sz n m c : Nat} {e : TypeId} {A : Option Addr} {xs : List Value} (h : w.ownsRow base e sz (.slice A m c) n xs) (b : Nat) (hm : m = n) : NewOr A m b base := fun ad e hn => by
 rcases h.2 with h2 | ⟨g, cap, cur, h2, h3, _⟩
 ·simp only [Value.slice.injEq] at h2
  rw [h2.1.1] at e
  cases e
 ·simp only [Value.slice.injEq] at h2
  rw [h2.1] at e
  cases e
  exact .inr h3
theorem GAt.farSet {W : World} {g : Grd} {A : Option Addr} {n b B : Nat} (h : GAt W g A n) (ho : NewOr A n b B) {p : Addr} (h1 : b ≤ p.block) (h2 : p.block < B) (u : Value) : GAt (W.setCell p u) g A n :=
 ⟨⟨h.cells.1, fun hn => let ⟨a, e, hb, hc⟩ := h.cells.2 hn; ⟨a, e, by rw [World.size_setCell]; exact hb, fun j v hv => by
  rw [← hc j v hv]
  have hne : (a.add j).block ≠ p.block := by
   rw [show (a.add j).block = a.block by unfold Addr.add; split <;> rfl]
   have := ho a e hn
   omega
  unfold World.cell?
  rw [Below.heap_setCell W p u _ hne]⟩⟩, h.c63⟩
end Go.Proofs.Ytiemhbogbaamlaa

/-
 A part.
-/
namespace Go.Proofs.Ytiemhbogbaamlaa
open Go.RowKit
set_option linter.unusedSimpArgs false
set_option linter.unusedVariables false
def NewPost (a b e : Int) (w : World) (en : Ending) (w' : World) : Prop :=
 (sizedF a b e = false ∧ en = .returned (.tuple #[.agg #[.int .i64 0, .int .i64 0, .int .i64 0, .slice none 0 0], .int .i64 2]) ∧ Below w.heap.size w w') ∨
 (sizedF a b e = true ∧ ∃ g, en = .returned (.tuple #[.agg #[.int .i64 a, .int .i64 b, .int .i64 e, .slice (some ⟨g, 0, none⟩) (a * b).toNat (a * b).toNat], .int .i64 0]) ∧ Row w' g 3 (ints (zeros (a * b).toNat)) ∧ w.heap.size ≤ g ∧ Below w.heap.size w w')
set_option maxHeartbeats 1000000 in
theorem gNew_any (a b e : Int) (w : World) : Calls Try.prog 46 #[.int .i64 a, .int .i64 b, .int .i64 e] w (NewPost a b e w) := by
 cases hs : sizedF a b e
 ·go_enter Try.func46, Try.ntmps46
  go_wp2_with fail
  refine (sized_any a b e _).mono ?_
  rw [hs]
  rintro en w1 ⟨rfl, rfl⟩
  go_wp2
  exact bodyPost_ret (v := .tuple #[.agg #[.int .i64 0, .int .i64 0, .int .i64 0, .slice none 0 0], .int .i64 2]) (by simp [results, Try.results46, go_sem]) rfl (.inl ⟨hs, rfl, by go_grown⟩)
 ·obtain ⟨⟨q1, q2⟩, ⟨h1, h2⟩, hm', he1, he2⟩ := sizedF_parts hs
  obtain ⟨p1, p2⟩ := prod_bd ⟨q1, q2⟩ ⟨h1, h2⟩
  obtain ⟨n, hn⟩ : ∃ n : Nat, a * b = n := ⟨(a * b).toNat, by omega⟩
  have HN : Hid ((a * b).toNat = n) := by show _ = _; omega
  have hmk := fun W => make_like (P := Try.prog) Try.underlying35 int_infog rfl n (a * b) hn (by omega) (by omega) W
  clear hn
  go_enter Try.func46, Try.ntmps46
  go_wp2_with fail
  refine (sized_any a b e _).mono ?_
  rw [hs]
  rintro en w1 ⟨rfl, rfl⟩
  go_wp2
  refine bodyPost_ret (v := .tuple #[.agg #[.int .i64 a, .int .i64 b, .int .i64 e, .slice (some ⟨w.heap.size + 1, 0, none⟩) n n], .int .i64 0]) (by simp [results, Try.results46, go_sem]) rfl (.inr ⟨hs, w.heap.size + 1, by rw [HN.out], ?_, by omega, by go_grown⟩)
  rw [HN.out, ints_zeros]
  exact rowNew1 w _ 3 (List.replicate n (.int .i64 0))
set_option maxHeartbeats 1000000 in
theorem rNew_any (a b e : Int) (w : World) : Calls Try.prog 66 #[.int .i64 a, .int .i64 b, .int .i64 e] w (NewPost a b e w) := by
 cases hs : sizedF a b e
 ·go_enter Try.func66, Try.ntmps66
  go_wp2_with fail
  refine (rSize_any a b e _).mono ?_
  rw [hs]
  rintro en w1 ⟨rfl, rfl⟩
  go_wp2
  exact bodyPost_ret (v := .tuple #[.agg #[.int .i64 0, .int .i64 0, .int .i64 0, .slice none 0 0], .int .i64 2]) (by simp [results, Try.results66, go_sem]) rfl (.inl ⟨hs, rfl, by go_grown⟩)
 ·obtain ⟨⟨q1, q2⟩, ⟨h1, h2⟩, hm', he1, he2⟩ := sizedF_parts hs
  obtain ⟨p1, p2⟩ := prod_bd ⟨q1, q2⟩ ⟨h1, h2⟩
  obtain ⟨n, hn⟩ : ∃ n : Nat, a * b = n := ⟨(a * b).toNat, by omega⟩
  have HN : Hid ((a * b).toNat = n) := by show _ = _; omega
  have hmk := fun W => make_like (P := Try.prog) Try.underlying35 int_infog rfl n (a * b) hn (by omega) (by omega) W
  clear hn
  go_enter Try.func66, Try.ntmps66
  go_wp2_with fail
  refine (rSize_any a b e _).mono ?_
  rw [hs]
  rintro en w1 ⟨rfl, rfl⟩
  go_wp2
  refine bodyPost_ret (v := .tuple #[.agg #[.int .i64 a, .int .i64 b, .int .i64 e, .slice (some ⟨w.heap.size + 1, 0, none⟩) n n], .int .i64 0]) (by simp [results, Try.results66, go_sem]) rfl (.inr ⟨hs, w.heap.size + 1, by rw [HN.out], ?_, by omega, by go_grown⟩)
  rw [HN.out, ints_zeros]
  exact rowNew1 w _ 3 (List.replicate n (.int .i64 0))
end Go.Proofs.Ytiemhbogbaamlaa
