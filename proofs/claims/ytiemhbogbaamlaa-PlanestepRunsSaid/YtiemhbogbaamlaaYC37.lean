/-
 A part.
-/
import Derived.Test.YtiemhbogbaamlaaYC30
import Derived.Test.YtiemhbogbaamlaaYC36
namespace Go.Proofs.Ytiemhbogbaamlaa
open Go.RowKit
set_option linter.unusedSimpArgs false
set_option linter.unusedVariables false
theorem packRow_next (W H : Nat) (cs : List Int) (i j : Nat) : packRow W H cs i true j = packRow W H cs (i + 1) false j := by
 have h := congrArg (fun l => l.getD j []) (packTo_next W H cs (j + 1) i)
 rw [packTo_row _ _ _ _ _ _ _ (Nat.lt_succ_self j), packTo_row _ _ _ _ _ _ _ (Nat.lt_succ_self j), decide_eq_true (Nat.lt_succ_self j), decide_eq_false (Nat.not_lt_zero j)] at h
 exact h
theorem packRow_zero (W H : Nat) (cs : List Int) (j : Nat) : packRow W H cs 0 false j = List.replicate (H * wpr W) 0#64 := by
 have h := congrArg (fun l => l.getD j []) (packTo_zero W H cs (j + 1))
 rw [packTo_row _ _ _ _ _ _ _ (Nat.lt_succ_self j), decide_eq_false (Nat.not_lt_zero j)] at h
 rw [h, List.getD_eq_getElem?_getD, List.getElem?_replicate, if_pos (Nat.lt_succ_self j)]; rfl
theorem packRow_all (W H : Nat) (cs : List Int) (j : Nat) (hW : 1 ≤ W) : packRow W H cs (H * W) false j = planeF W H cs j := by
 have h := congrArg (fun l => l.getD j []) (packTo_all W H cs (j + 1) hW)
 rw [packTo_row _ _ _ _ _ _ _ (Nat.lt_succ_self j), decide_eq_false (Nat.not_lt_zero j)] at h
 rw [h, List.getD_eq_getElem?_getD, List.getElem?_map, List.getElem?_range (Nat.lt_succ_self j)]; rfl
def planesTo (W H : Nat) (cs : List Int) (b : Nat) : List (List (BitVec 64)) := (List.range b).map (planeF W H cs)
theorem planesTo_length (W H : Nat) (cs : List Int) (b : Nat) : (planesTo W H cs b).length = b := by simp [planesTo]
theorem planesTo_succ (W H : Nat) (cs : List Int) (b : Nat) : planesTo W H cs (b + 1) = planesTo W H cs b ++ [planeF W H cs b] := by simp [planesTo, List.range_succ]
theorem and1u_tbit (s : Int) (b : Nat) (h0 : 0 ≤ s) (h8 : s < 8) : bits .and .u64 (IntKind.u64.wrap (s / 2 ^ b)) 1 = b01 (tbit s b) := by
 obtain ⟨m, rfl⟩ : ∃ m : Nat, s = (m : Int) := ⟨s.toNat, by omega⟩
 have h1 : ((m : Int) / 2 ^ b) = ((m / 2 ^ b : Nat) : Int) := by simp
 have h2 : m / 2 ^ b < 8 := Nat.lt_of_le_of_lt (Nat.div_le_self _ _) (by omega)
 have h3 : IntKind.u64.wrap ((m / 2 ^ b : Nat) : Int) = ((m / 2 ^ b : Nat) : Int) := by
  show ((m / 2 ^ b : Nat) : Int) % 18446744073709551616 = _
  exact Int.emod_eq_of_lt (Int.natCast_nonneg _) (by omega)
 rw [h1, h3, tbit_nat]
 generalize m / 2 ^ b = z at h2
 have hc : z = 0 ∨ z = 1 ∨ z = 2 ∨ z = 3 ∨ z = 4 ∨ z = 5 ∨ z = 6 ∨ z = 7 := by omega
 rcases hc with rfl | rfl | rfl | rfl | rfl | rfl | rfl | rfl <;> rfl
theorem put_word2 (v : BitVec 64) (s : Int) (b r : Nat) (h0 : 0 ≤ s) (h8 : s < 8) (hr : r < 64) :
 Value.int .u64 (bits .or .u64 (v.toNat : Int) (IntKind.u64.wrap (bits .and .u64 (IntKind.u64.wrap (s / 2 ^ b)) 1 * 2 ^ r))) = w64 (v ||| (if tbit s b = true then 1#64 <<< r else 0#64)) := by
 have h := shl_word (tbit s b) r hr
 have h1 : IntKind.u64.wrap (b01 (tbit s b)) = b01 (tbit s b) := by cases tbit s b <;> rfl
 rw [h1] at h
 rw [and1u_tbit s b h0 h8, h, w64_orP]; rfl
theorem wrap_pow (k : Nat) (h : k ≤ 3) : wrap64 ((2 : Int) ^ k) = 2 ^ k := by
 have hc : k = 0 ∨ k = 1 ∨ k = 2 ∨ k = 3 := by omega
 rcases hc with rfl | rfl | rfl | rfl <;> (unfold wrap64; omega)
set_option maxRecDepth 100000 in
set_option maxHeartbeats 2000000 in
theorem rPack_bad (g : Grd) (A : Option Addr) (n c : Nat) (b : Int) (w : World) (h : GAt w g A n) (hbad : ¬ (rightG g = true ∧ 1 ≤ b ∧ b ≤ 3)) :
 Calls Try.prog 37 #[.agg #[.int .i64 g.w, .int .i64 g.h, .int .i64 g.edge, .slice A n c], .int .i64 b] w (PPost (packR g b) (packErr g b) w) := by
 have H : Hid (GAt w g A n) := h
 have HCE : Hid (packR g b = noPln ∧ packErr g b = 2) := packBad hbad
 go_enter Try.func37, Try.ntmps37
 go_wp2_with fail
 refine (rGRight_any g A n c _ (H.out.up (by go_grown))).mono ?_
 rintro e w1 ⟨rfl, hb⟩
 have HB : Hid (Below w.heap.size w w1) := below_next hb (by go_grown)
 have RZ : Hid (Row w1 (w.heap.size + 1) 42 [.int .i64 0, .int .i64 0, .int .i64 0, .slice none 0 0]) := rowCells (rowNew1 w _ 42 [.int .i64 0, .int .i64 0, .int .i64 0, .slice none 0 0]) hb
 clear hb h
 have HBAD : Hid (¬ (rightG g = true ∧ 1 ≤ b ∧ b ≤ 3)) := hbad
 obtain ⟨d0, d1, d2, d3, dl⟩ := RZ.out.cells4
 have f0 := RZ.out.frozen 0
 have f1 := RZ.out.frozen 1
 have f2 := RZ.out.frozen 2
 have f3 := RZ.out.frozen 3
 have BB := HB.out
 cases hr : rightG g
 ·clear hbad hr
  go_wp2
  exact bodyPost_ret (v := .tuple #[.agg #[.int .i64 0, .int .i64 0, .int .i64 0, .slice none 0 0], .int .i64 2]) (by simp [results, Try.results37, go_sem, d0, d1, d2, d3]) rfl (ppost_err HCE.out.1 HCE.out.2 (by go_grown))
 ·have hbb : b < 1 ∨ 3 < b := by
   rcases Int.lt_or_le b 1 with h1 | h1
   ·exact .inl h1
   ·rcases Int.lt_or_le 3 b with h3 | h3
    ·exact .inr h3
    ·exact absurd ⟨hr, h1, h3⟩ hbad
  clear hbad hr
  rcases hbb with h1 | h1
  ·go_wp2
   exact bodyPost_ret (v := .tuple #[.agg #[.int .i64 0, .int .i64 0, .int .i64 0, .slice none 0 0], .int .i64 2]) (by simp [results, Try.results37, go_sem, d0, d1, d2, d3]) rfl (ppost_err HCE.out.1 HCE.out.2 (by go_grown))
  ·have h2 : ¬ b < 1 := by omega
   go_wp2
   exact bodyPost_ret (v := .tuple #[.agg #[.int .i64 0, .int .i64 0, .int .i64 0, .slice none 0 0], .int .i64 2]) (by simp [results, Try.results37, go_sem, d0, d1, d2, d3]) rfl (ppost_err HCE.out.1 HCE.out.2 (by go_grown))
set_option maxRecDepth 100000 in
set_option maxHeartbeats 4000000 in
theorem rPack_good (g : Grd) (A : Option Addr) (n c k : Nat) (w : World) (h : GAt w g A n) (hr : rightG g = true) (hk1 : 1 ≤ k) (hk3 : k ≤ 3) :
 Calls Try.prog 37 #[.agg #[.int .i64 g.w, .int .i64 g.h, .int .i64 g.edge, .slice A n c], .int .i64 k] w (PPost (packR g k) (packErr g k) w) := by
 have H : Hid (GAt w g A n) := h
 have HCL : Hid (g.cells.length = n) := h.cl
 have hm := h.c63
 unfold maxLen at hm
 have HR : Hid (rightG g = true) := hr
 obtain ⟨hs, hl, hst⟩ := rightG_parts hr
 obtain ⟨⟨s1, s2⟩, ⟨s3, s4⟩, s5, s6, s7⟩ := sizedF_parts hs
 obtain ⟨W, hW⟩ : ∃ W : Nat, g.w = (W : Int) := ⟨g.w.toNat, by omega⟩
 obtain ⟨Hh, hH⟩ : ∃ Hh : Nat, g.h = (Hh : Int) := ⟨g.h.toNat, by omega⟩
 obtain ⟨E, hE⟩ : ∃ E : Nat, g.edge = (E : Int) := ⟨g.edge.toNat, by omega⟩
 have HW : Hid (g.w = (W : Int)) := hW
 have HH : Hid (g.h = (Hh : Int)) := hH
 have HE : Hid (g.edge = (E : Int)) := hE
 have hW1 : 1 ≤ W ∧ W ≤ 256 := by omega
 have hH1 : 1 ≤ Hh ∧ Hh ≤ 256 := by omega
 have hE2 : E ≤ 2 := by omega
 obtain ⟨w1', w2', w3'⟩ := wpr_bd hW1.1
 obtain ⟨nn, hnn⟩ : ∃ nn, nn = wpr W := ⟨_, rfl⟩
 have HNN : Hid (wpr W = nn) := hnn.symm
 rw [← hnn] at w1' w2' w3'
 have hn4 : nn ≤ 4 := by omega
 have hcn : n = Hh * W := by
  have : ((Hh * W : Nat) : Int) = g.w * g.h := by rw [Int.natCast_mul, hW, hH, Int.mul_comm]
  have := HCL.out
  omega
 have hcb : n ≤ 4096 := by
  have h9 : ((W * Hh : Nat) : Int) ≤ 4096 := by rw [Int.natCast_mul, ← hW, ← hH]; exact s5
  rw [hcn, Nat.mul_comm]; omega
 have HCNT : Hid (n = Hh * W) := hcn
 have HST : Hid (∀ i, i < n → 0 ≤ g.cells.getD i 0 ∧ g.cells.getD i 0 < 8) := fun i hi => stateOk_at hst (by rw [HCL.out]; exact hi)
 obtain ⟨M, hM⟩ : ∃ M, M = Hh * nn := ⟨_, rfl⟩
 have hMz : (Hh : Int) * (nn : Int) = (M : Int) := by rw [hM, Int.natCast_mul]
 have hMb : M ≤ 1024 := by rw [hM]; exact Nat.mul_le_mul hH1.2 hn4
 have HMM : Hid (M = Hh * nn) := hM
 have hwM : IntKind.i64.wrap (M : Int) = (M : Int) := IntWalk.i64_in _ (by omega)
 have hmk := fun W => make_like (P := Try.prog) Try.underlying67 word_infoP rfl M (M : Int) rfl (by omega) (by omega) W
 clear hr hs hl hst s1 s2 s3 s4 s5 s6 s7 hW hH hE hnn hcn h hM
 go_enter Try.func37, Try.ntmps37
 go_wp2_with fail
 refine (rGRight_any g A n c _ (H.out.up (by go_grown))).mono ?_
 rw [HR.out]
 rintro e w1 ⟨rfl, hb⟩
 have HB : Hid (Below w.heap.size w w1) := below_next hb (by go_grown)
 have RA : Hid (Row w1 w.heap.size 54 [.int .i64 g.w, .int .i64 g.h, .int .i64 g.edge, .slice A n c]) := rowCells ((Row.new w 54 [.int .i64 g.w, .int .i64 g.h, .int .i64 g.edge, .slice A n c]).alloc _) hb
 have RZ : Hid (Row w1 (w.heap.size + 1) 42 [.int .i64 0, .int .i64 0, .int .i64 0, .slice none 0 0]) := rowCells (rowNew1 w _ 42 [.int .i64 0, .int .i64 0, .int .i64 0, .slice none 0 0]) hb
 clear hb
 rw [HW.out, HH.out, HE.out] at RA
 obtain ⟨k0, k1, k2, k3, kl⟩ := RA.out.cells4
 have hkz1 : ¬ (k : Int) < 1 := by omega
 have hkz3 : ¬ (3 : Int) < (k : Int) := by omega
 go_wp2_with fail
 clear k0 k1 k2 k3 kl
 go_loopg [6] n (fun gg s6 wr => ∃ i : Nat, i ≤ n ∧ n - i ≤ gg ∧ s6 = .int .i64 i ∧ Aside (Below w1.heap.size w1 wr) ∧ Aside (∀ j, j < i → g.cells.getD j 0 < 2 ^ k))
 case atStart => exact ⟨0, Nat.zero_le _, by omega, rfl, Below.refl _ _, fun j hj => absurd hj (Nat.not_lt_zero _)⟩
 case round =>
  obtain ⟨i, hi, hgg, rfl, BW, AL⟩ := hrel
  have RAr : Hid (Row wr w.heap.size 54 [.int .i64 W, .int .i64 Hh, .int .i64 E, .slice A n c]) := rowCells RA.out BW.out
  have HBr : Hid (Below w.heap.size w wr) := below_on2 HB.out BW.out
  obtain ⟨k0, k1, k2, k3, kl⟩ := RAr.out.cells4
  by_cases hlt : i < n
  ·have hltz : (i : Int) < (n : Int) := by omega
   obtain ⟨ad, rfl, hbl, hc⟩ := (H.out.up HBr.out).cells.int hlt
   obtain ⟨hs0, hs8⟩ := HST.out i hlt
   generalize hsg : g.cells.getD i 0 = s at hc hs0 hs8
   have HS : Hid (g.cells.getD i 0 = s) := hsg
   clear hsg
   have hwp := wrap_pow k hk3
   by_cases hst : s < 2 ^ k
   ·have HSK : Hid (s < 2 ^ k) := hst
    have ht : decide (wrap64 (2 ^ k) ≤ s) = false := by rw [hwp]; exact decide_eq_false (by omega)
    clear hwp hst
    go_wp2
    go_roundg (n - (i + 1))
    case measure => omega
    case rel => exact ⟨i + 1, by omega, by omega, by go_num, BW, (show Aside _ from fun j hj => by
     by_cases e : j = i
     ·rw [e, HS.out]; exact HSK.out
     ·exact AL.out j (by omega))⟩
   ·have HSK : Hid (¬ s < 2 ^ k) := hst
    have ht : decide (wrap64 (2 ^ k) ≤ s) = true := by rw [hwp]; exact decide_eq_true (by omega)
    clear hwp hst
    have RZr : Hid (Row wr (w.heap.size + 1) 42 [.int .i64 0, .int .i64 0, .int .i64 0, .slice none 0 0]) := rowCells RZ.out BW.out
    obtain ⟨d0, d1, d2, d3, dl⟩ := RZr.out.cells4
    have f0 := RZr.out.frozen 0
    have f1 := RZr.out.frozen 1
    have f2 := RZr.out.frozen 2
    have f3 := RZr.out.frozen 3
    have BB := HBr.out
    have HCE : Hid (packR g k = noPln ∧ packErr g k = 10) := packBadState HR.out hk1 hk3 (i := i) (by rw [HCL.out]; exact hlt) (by rw [HS.out]; exact HSK.out)
    go_wp2
    exact bodyPost_ret (v := .tuple #[.agg #[.int .i64 0, .int .i64 0, .int .i64 0, .slice none 0 0], .int .i64 10]) (by simp [results, Try.results37, go_sem, d0, d1, d2, d3]) rfl (ppost_err HCE.out.1 HCE.out.2 (by go_grown))
  ·have hltz : ¬ (i : Int) < (n : Int) := by omega
   obtain rfl : n = i := by omega
   have HCE : Hid (packR g k = packP g k ∧ packErr g k = 0) := packGood HR.out hk1 hk3 (fun j hj => AL.out j (by rw [← HCL.out]; exact hj))
   go_wp2
   have RX0 : Hid (Row (World.alloc wr (.cells #[.int .i64 W, .int .i64 Hh, .int .i64 E, .slice none 0 0] 42)) wr.heap.size 42 [.int .i64 W, .int .i64 Hh, .int .i64 E, .slice none 0 0]) := Row.new wr 42 [.int .i64 W, .int .i64 Hh, .int .i64 E, .slice none 0 0]
   have HB3 : Hid (Below w1.heap.size w1 (World.alloc wr (.cells #[.int .i64 W, .int .i64 Hh, .int .i64 E, .slice none 0 0] 42))) := below_on2 BW.out (by go_grown)
   have hgb : w1.heap.size ≤ wr.heap.size := BW.out.size
   have hsz3 : Hid (wr.heap.size + 1 ≤ (World.alloc wr (.cells #[.int .i64 W, .int .i64 Hh, .int .i64 E, .slice none 0 0] 42)).heap.size) := (by show _ ≤ _; simp)
   clear k0 k1 k2 k3 kl RAr AL HBr BW
   revert RX0 HB3 hgb hsz3
   generalize World.alloc wr (.cells #[.int .i64 W, .int .i64 Hh, .int .i64 E, .slice none 0 0] 42) = w3
   generalize wr.heap.size = gb
   intro RX0 HB3 hgb hsz3
   go_loopg [8, 9, 10, 11, 12, 13] k (fun gg s8 _ _ _ _ _ wr => ∃ (b : Nat) (v : Value) (gs : List Nat), b ≤ k ∧ k - b ≤ gg ∧ s8 = .int .i64 b ∧ Aside (Below w1.heap.size w1 wr) ∧ Aside (gb + 1 ≤ wr.heap.size) ∧ Aside (Row wr gb 42 [.int .i64 W, .int .i64 Hh, .int .i64 E, v]) ∧ Aside (POwn wr (gb + 1) v M gs (planesTo W Hh g.cells b)))
   case atStart => exact ⟨0, .slice none 0 0, [], Nat.zero_le _, by omega, rfl, HB3.out, hsz3.out, RX0.out, POwn.nil _ _ _⟩
   case round =>
    clear RX0 HB3 hsz3
    obtain ⟨b, v, gs, hb, hgb2, rfl, BW, hsz, RX, OW⟩ := hrel
    have hbs : Hid ((planesTo W Hh g.cells b).length = b) := planesTo_length W Hh g.cells b
    by_cases hlb : b < k
    ·have hlbz : (b : Int) < (k : Int) := by omega
     have OWk : Hid (wr.ownsRow (gb + 1) 67 1 v b (gs.map (gcell M))) := (by have := OW.out.own; rw [hbs.out] at this; exact this)
     obtain ⟨XA, xc, rfl, _⟩ := Rd.own OWk.out
     have RAr : Hid (Row wr w.heap.size 54 [.int .i64 W, .int .i64 Hh, .int .i64 E, .slice A n c]) := rowCells RA.out BW.out
     obtain ⟨k0, k1, k2, k3, kl⟩ := RAr.out.cells4
     go_wp2_with fail
     refine wp_region_still_tail 6 (by kernel_rfl) (by kernel_rfl) ?_
     simp only [List.take_succ_cons, List.take_zero, List.drop_succ_cons, List.drop_zero]
     still_step
     still_step
     still_step
     still_step
     still_call ((rWords_any W _ (by omega)).mono (fun e w2 h2 => ⟨h2.1.trans (by rw [HNN.out]), h2.2.symm⟩))
     still_step
     refine wpStill_nil ?_
     go_wp2_with fail
     have HNR : Hid (Row (World.drew (wr.alloc (.cells (likeRow (Value.int .u64 0) M) 66))) wr.heap.size 66 (w64s (packRow W Hh g.cells (0 * W) false b))) := by
      show Row _ _ _ _
      rw [Nat.zero_mul, packRow_zero, HNN.out, ← HMM.out]
      exact (blankRow wr M).drew
     have HNB : Hid (Below wr.heap.size wr (World.drew (wr.alloc (.cells (likeRow (Value.int .u64 0) M) 66)))) := (((Below.refl _ _).alloc (Nat.le_refl _) _).drew)
     have BWo : Hid (Below w1.heap.size w1 wr) := BW.out
     have hszo : Hid (gb + 1 ≤ wr.heap.size) := hsz.out
     have RXo : Hid (Row wr gb 42 [.int .i64 W, .int .i64 Hh, .int .i64 E, .slice XA b xc]) := RX.out
     have OWo : Hid (POwn wr (gb + 1) (.slice XA b xc) M gs (planesTo W Hh g.cells b)) := OW.out
     clear k0 k1 k2 k3 kl RAr OWk BW hsz RX OW hmk
     revert HNR HNB BWo hszo RXo OWo
     generalize World.drew (wr.alloc (.cells (likeRow (Value.int .u64 0) M) 66)) = wn
     obtain ⟨wo, rfl⟩ : ∃ wo : World, wo = wr := ⟨_, rfl⟩
     intro HNR HNB BWo hszo RXo OWo
     go_loopg [10, 11, 12, 13] Hh (fun gg s10 _ _ _ wr => ∃ y : Nat, y ≤ Hh ∧ Hh - y ≤ gg ∧ s10 = .int .i64 y ∧ Aside (Below wo.heap.size wo wr) ∧ Aside (Row wr wo.heap.size 66 (w64s (packRow W Hh g.cells (y * W) false b))))
     case atStart => exact ⟨0, Nat.zero_le _, by omega, rfl, HNB.out, HNR.out⟩
     case round =>
      clear HNR HNB
      obtain ⟨y, hy, hgy, rfl, BN, RN⟩ := hrel
      have BWr : Hid (Below w1.heap.size w1 wr) := below_on2 BWo.out BN.out
      have RAr : Hid (Row wr w.heap.size 54 [.int .i64 W, .int .i64 Hh, .int .i64 E, .slice A n c]) := rowCells RA.out BWr.out
      obtain ⟨k0, k1, k2, k3, kl⟩ := RAr.out.cells4
      by_cases hly : y < Hh
      ·have hlyz : (y : Int) < (Hh : Int) := by omega
       go_wp2
       clear k0 k1 k2 k3 kl RAr BWr
       go_loopg [11, 12, 13] W (fun gg s11 _ _ wr => ∃ x : Nat, x ≤ W ∧ W - x ≤ gg ∧ s11 = .int .i64 x ∧ Aside (Below wo.heap.size wo wr) ∧ Aside (Row wr wo.heap.size 66 (w64s (packRow W Hh g.cells (y * W + x) false b))))
       case atStart => exact ⟨0, Nat.zero_le _, by omega, rfl, BN, RN⟩
       case round =>
        clear BN RN
        obtain ⟨x, hx, hgx, rfl, BN, RN⟩ := hrel
        have BWr : Hid (Below w1.heap.size w1 wr) := below_on2 BWo.out BN.out
        have HBr : Hid (Below w.heap.size w wr) := below_on2 HB.out BWr.out
        have RAr : Hid (Row wr w.heap.size 54 [.int .i64 W, .int .i64 Hh, .int .i64 E, .slice A n c]) := rowCells RA.out BWr.out
        obtain ⟨k0, k1, k2, k3, kl⟩ := RAr.out.cells4
        by_cases hlx : x < W
        ·have hlxz : (x : Int) < (W : Int) := by omega
         obtain ⟨yw, hyw⟩ : ∃ yw, yw = y * W := ⟨_, rfl⟩
         obtain ⟨kk, hkk⟩ : ∃ kk, kk = yw + x := ⟨_, rfl⟩
         have hkn : kk < n := by rw [hkk, hyw, HCNT.out]; exact row_ltP hlx hly
         have hywz : (y : Int) * (W : Int) = (yw : Int) := by rw [hyw, Int.natCast_mul]
         have hkkz : (yw : Int) + (x : Int) = (kk : Int) := by omega
         have HKK : Hid (kk = y * W + x) := by show kk = y * W + x; rw [hkk, hyw]
         obtain ⟨ad, rfl, hbl, hc⟩ := (H.out.up HBr.out).cells.int hkn
         obtain ⟨hs0, hs8⟩ := HST.out kk hkn
         generalize hsg : g.cells.getD kk 0 = s at hc hs0 hs8
         have HS : Hid (g.cells.getD kk 0 = s) := hsg
         have HPW : Hid (∀ v r, r < 64 → Value.int .u64 (bits .or .u64 (v.toNat : Int) (IntKind.u64.wrap (bits .and .u64 (IntKind.u64.wrap (s / 2 ^ b)) 1 * 2 ^ r))) = w64 (v ||| (if tbit s b = true then 1#64 <<< r else 0#64))) := fun v r hr => put_word2 v s b r hs0 hs8 hr
         obtain ⟨q, hq⟩ : ∃ q, q = x / 64 := ⟨_, rfl⟩
         obtain ⟨r, hr⟩ : ∃ r, r = x % 64 := ⟨_, rfl⟩
         obtain ⟨m, hmm⟩ : ∃ m, m = y * nn := ⟨_, rfl⟩
         have hqz : (x : Int) / 64 = (q : Int) := by omega
         have hrz : (x : Int) % 64 = (r : Int) := by omega
         have hr64 : r < 64 := by omega
         have hmz : (y : Int) * (nn : Int) = (m : Int) := by rw [hmm, Int.natCast_mul]
         have hqn : q < nn := by omega
         have hmq : m + q < M := by rw [hmm, HMM.out]; exact row_ltP hqn hly
         have HMQ : Hid (m = y * nn ∧ q = x / 64 ∧ r = x % 64) := ⟨hmm, hq, hr⟩
         have hrc : wr.cell? ⟨wo.heap.size, m + q, none⟩ = some (w64 (packW W g.cells kk false b (m + q))) := by
          rw [RN.out.cell, w64s_get _ _ (by rw [packRow_length, HNN.out, ← HMM.out]; exact hmq), ← HKK.out]
          exact congrArg (fun z => some (w64 z)) (packRow_word _ _ _ _ _ _ _ (by rw [HNN.out, ← HMM.out]; exact hmq))
         unfold w64 at hrc
         generalize hvv : packW W g.cells kk false b (m + q) = v at hrc
         have HV : Hid (packW W g.cells kk false b (m + q) = v) := hvv
         have hfr := RN.out.frozen (m + q)
         have hgl := RN.out.lt
         clear hq hr hmm hvv hsg hyw hkk
         go_wp2_with fail
         refine (rWords_any W _ (by omega)).mono ?_
         rw [HNN.out]
         rintro e w5 ⟨rfl, rfl⟩
         go_wp2_with fail
         rw [HPW.out v r hr64]
         go_roundg (W - (x + 1))
         case measure => omega
         case rel =>
          have hpt := RN.out.set (m + q) (w64 (v ||| (if tbit s b = true then 1#64 <<< r else 0#64)))
          obtain ⟨e1, e2, e3⟩ := HMQ.out
          have hXq : x / 64 < wpr W := by rw [HNN.out, ← e2]; exact hqn
          have e := packRow_put W Hh g.cells (y * W + x) b x y hlx hly hXq rfl
          rw [HNN.out, ← e1, ← e2, ← e3, ← HKK.out, HV.out, HS.out, packRow_next] at e
          have e4 : (w64s (packRow W Hh g.cells (y * W + x) false b)).set (m + q) (w64 (v ||| (if tbit s b = true then 1#64 <<< r else 0#64))) = w64s (packRow W Hh g.cells (y * W + (x + 1)) false b) := by
           rw [← Nat.add_assoc, ← HKK.out, ← e]
           simp [w64s, List.map_set]
          rw [e4] at hpt
          exact ⟨x + 1, by omega, by omega, by go_num, BN.out.setCell (p := ⟨wo.heap.size, m + q, none⟩) (Nat.le_refl _) _, hpt⟩
        ·have hlxz : ¬ (x : Int) < (W : Int) := by omega
         go_wp2
         go_roundg (Hh - (y + 1))
         case measure => omega
         case rel =>
          refine ⟨y + 1, by omega, by omega, by go_num, BN, (show Row _ _ _ _ from ?_)⟩
          rw [show (y + 1) * W = y * W + x by rw [Nat.add_mul, Nat.one_mul, show x = W by omega]]
          exact RN.out
      ·have hlyz : ¬ (y : Int) < (Hh : Int) := by omega
       obtain rfl : Hh = y := by omega
       have RXr : Hid (Row wr gb 42 [.int .i64 W, .int .i64 Hh, .int .i64 E, .slice XA b xc]) := rowCells RXo.out BN.out
       have OWr : Hid (wr.ownsRow (gb + 1) 67 1 (.slice XA b xc) b (gs.map (gcell M))) := (by show World.ownsRow _ _ _ _ _ _ _; have := own_below OWo.out.own BN.out (Nat.le_refl _); rw [planesTo_length] at this; exact this)
       have hszr : Hid (gb + 1 ≤ wr.heap.size) := Nat.le_trans hszo.out BN.out.size
       have hszz := hszr.out
       have hgb9 : w1.heap.size ≤ gb := hgb
       obtain ⟨e0, e1, e2, e3, el⟩ := RXr.out.cells4
       go_wp2_with (at_builtin; refine wpList_app rfl (.tmp 111) (.tmp 113) 40 rfl (gb + 1) 67 (.slice none 0 0) 1 24 Try.underlying40 row_infoP rfl (by decide) (by decide) (.slice XA b xc) (b) (gs.map (gcell M)) rfl ?own (wr.heap.size + 1) (some ⟨wr.heap.size, 0, none⟩) 1 1 [.slice (some ⟨wo.heap.size, 0, none⟩) M M] rfl ?rd ?one ?hb ?hbase ?_)
       case own => exact (OWr.out).alloc _
       case rd => exact Rd.lit wr #[.slice (some ⟨wo.heap.size, 0, none⟩) M M] 67 (sz := 1) (m := 1) rfl
       case one => first | (intro u hu; simp at hu; subst hu; rfl) | rfl
       case hb => omega
       case hbase => first | (simp; omega) | omega
       intro v' w' hown' hgrow' hat'
       obtain ⟨VA, vc, rfl, _⟩ := Rd.own hown'
       have HROWq : Hid (Row w' gb 42 [.int .i64 W, .int .i64 Hh, .int .i64 E, .slice XA b xc]) := (RXr.out.alloc _).grown hgrow' (fun e => own_ne_row OWr.out RXr.out (by decide) e.symm)
       have BWq : Hid (Below w1.heap.size w1 w') := (BWr.out.alloc (by omega) _).grown hgrow' (by simp; omega) (fun k hk => by have := (OWr.out.lt k hk).1; omega)
       have hszq2 : Hid (gb + 1 ≤ w'.heap.size) := (by show _ ≤ _; have := hgrow'.size; simp at this; omega)
       have HPq : Hid (POwn w' (gb + 1) (.slice VA (b + 1) vc) M (gs ++ [wo.heap.size]) (planesTo W Hh g.cells (b + 1))) := by
        show POwn _ _ _ _ _ _
        rw [planesTo_succ]
        refine OWo.out.push (w1 := wr.alloc _) (Row.alloc ?_ _) (by rw [planeF_length, HNN.out, ← HMM.out]) hszo.out (BN.out.alloc BN.out.size _) hgrow' (by rw [planesTo_length]; exact hown')
        have := RN.out
        rw [packRow_all _ _ _ _ hW1.1] at this
        exact this
       have q3 := HROWq.out.cell 3
       have qf := HROWq.out.frozen 3
       have ql := HROWq.out.lt
       simp only [List.getElem?_cons_zero, List.getElem?_cons_succ] at q3
       clear e0 e1 e2 e3 el hown' hgrow' hat' k0 k1 k2 k3 kl
       go_wp2
       go_roundg (k - (b + 1))
       case measure => omega
       case rel => exact ⟨b + 1, .slice VA (b + 1) vc, gs ++ [wo.heap.size], by omega, by omega, by go_num, BWq.out.setCell (p := ⟨gb, 3, none⟩) hgb9 _, (by show _ ≤ _; rw [World.size_setCell]; exact hszq2.out), HROWq.out.set 3 _, HPq.out.far1 (p := ⟨gb, 3, none⟩) HROWq.out (by decide) (Nat.lt_succ_self gb) _⟩
    ·have hlbz : ¬ (b : Int) < (k : Int) := by omega
     obtain rfl : k = b := by omega
     have OWk : Hid (wr.ownsRow (gb + 1) 67 1 v k (gs.map (gcell M))) := (by have := OW.out.own; rw [hbs.out] at this; exact this)
     obtain ⟨XA, xc, rfl, _⟩ := Rd.own OWk.out
     have RZr : Hid (Row wr (w.heap.size + 1) 42 [.int .i64 0, .int .i64 0, .int .i64 0, .slice none 0 0]) := rowCells RZ.out BW.out
     have HBr : Hid (Below w.heap.size w wr) := below_on2 HB.out BW.out
     obtain ⟨d0, d1, d2, d3, dl⟩ := RZr.out.cells4
     have f0 := RZr.out.frozen 0
     have f1 := RZr.out.frozen 1
     have f2 := RZr.out.frozen 2
     have f3 := RZr.out.frozen 3
     obtain ⟨e0, e1, e2, e3, el⟩ := RX.out.cells4
     go_wp2
     obtain ⟨hbl, RZ4, _⟩ := put4 (.int .i64 W) (.int .i64 Hh) (.int .i64 E) (.slice XA k xc) RZr.out (Nat.le_succ w.heap.size) HBr.out
     have hpo := OW.out.far4 (.int .i64 W) (.int .i64 Hh) (.int .i64 E) (.slice XA k xc) RZr.out (by decide) (by have := RZ.out.lt; omega)
     have r0 := RZ4.cell 0
     have r1 := RZ4.cell 1
     have r2 := RZ4.cell 2
     have r3 := RZ4.cell 3
     simp only [List.getElem?_cons_zero, List.getElem?_cons_succ] at r0 r1 r2 r3
     clear RZ4
     revert hbl hpo r0 r1 r2 r3
     generalize World.setCell (World.setCell (World.setCell (World.setCell wr ⟨w.heap.size + 1, 0, none⟩ (.int .i64 W)) ⟨w.heap.size + 1, 1, none⟩ (.int .i64 Hh)) ⟨w.heap.size + 1, 2, none⟩ (.int .i64 E)) ⟨w.heap.size + 1, 3, none⟩ (.slice XA k xc) = wz
     intro hbl hpo r0 r1 r2 r3
     refine bodyPost_ret (v := .tuple #[.agg #[.int .i64 W, .int .i64 Hh, .int .i64 E, .slice XA k xc], .int .i64 0]) (by simp [results, Try.results37, go_sem, r0, r1, r2, r3]) rfl ?_
     rw [HCE.out.1, HCE.out.2]
     have e2 : planesTo W Hh g.cells k = (packP g k).words := by
      unfold packP planesTo
      rw [HW.out, HH.out, Int.toNat_natCast, Int.toNat_natCast]
     rw [e2] at hpo
     refine ⟨XA, k, xc, _, _, ?_, hpo.base (by have := HB.out.size; omega), ⟨pack_len g k, hk3, hMb⟩, hbl⟩
     show Ending.returned (.tuple #[.agg #[.int .i64 W, .int .i64 Hh, .int .i64 E, .slice XA k xc], .int .i64 0]) = Ending.returned (.tuple #[.agg #[.int .i64 g.w, .int .i64 g.h, .int .i64 g.edge, .slice XA k xc], .int .i64 0])
     rw [HW.out, HH.out, HE.out]
theorem rPack_any (g : Grd) (A : Option Addr) (n c : Nat) (b : Int) (w : World) (h : GAt w g A n) :
 Calls Try.prog 37 #[.agg #[.int .i64 g.w, .int .i64 g.h, .int .i64 g.edge, .slice A n c], .int .i64 b] w (PPost (packR g b) (packErr g b) w) := by
 by_cases hb : rightG g = true ∧ 1 ≤ b ∧ b ≤ 3
 ·obtain ⟨k, rfl⟩ : ∃ k : Nat, b = (k : Int) := ⟨b.toNat, by omega⟩
  exact rPack_good g A n c k w h hb.1 (by omega) (by omega)
 ·exact rPack_bad g A n c b w h hb
end Go.Proofs.Ytiemhbogbaamlaa

