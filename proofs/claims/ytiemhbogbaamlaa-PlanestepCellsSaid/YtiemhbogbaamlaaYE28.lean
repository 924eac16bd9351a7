/-
 A part.
-/
import Derived.Test.YtiemhbogbaamlaaYE27
import Derived.StillTailTactics
import Derived.BigRegion
namespace Go.Proofs.Ytiemhbogbaamlaa
open Go.RowKit
set_option linter.unusedSimpArgs false
set_option linter.unusedVariables false
theorem packBadState {g : Grd} {k i : Nat} (h : rightG g = true) (h1 : 1 ≤ k) (h3 : k ≤ 3) (hi : i < g.cells.length) (hs : ¬ g.cells.getD i 0 < 2 ^ k) : packR g k = noPln ∧ packErr g k = 10 := by
 have h2 : packErr g k = 10 := by
  unfold packErr
  rw [if_pos ⟨h, by omega, by omega⟩, if_neg]
  rw [List.all_eq_true]
  intro ha
  have := ha (g.cells.getD i 0) (by rw [List.getD_eq_getElem?_getD, List.getElem?_eq_getElem hi]; exact List.getElem_mem hi)
  exact hs (by simpa using this)
 exact ⟨by unfold packR; rw [h2]; rfl, h2⟩
theorem packGood {g : Grd} {k : Nat} (h : rightG g = true) (h1 : 1 ≤ k) (h3 : k ≤ 3) (hs : ∀ i, i < g.cells.length → g.cells.getD i 0 < 2 ^ k) : packR g k = packP g k ∧ packErr g k = 0 := by
 have h2 : packErr g k = 0 := by
  unfold packErr
  rw [if_pos ⟨h, by omega, by omega⟩, if_pos]
  rw [List.all_eq_true]
  intro s hm
  obtain ⟨i, hi, rfl⟩ := List.getElem_of_mem hm
  have := hs i hi
  rw [List.getD_eq_getElem?_getD, List.getElem?_eq_getElem hi] at this
  simpa using this
 exact ⟨by unfold packR; rw [h2]; rfl, h2⟩
theorem shr_test {s : Int} (k : Nat) (h0 : 0 ≤ s) : (s / 2 ^ k != 0) = !decide (s < 2 ^ k) := by
 have hp : (0 : Int) < 2 ^ k := Int.pow_pos (by omega)
 by_cases h : s < 2 ^ k
 ·rw [Int.ediv_eq_zero_of_lt h0 h, decide_eq_true h]; rfl
 ·rw [decide_eq_false h]
  have : s / 2 ^ k ≠ 0 := fun e => h (by
   have := Int.lt_ediv_add_one_mul_self s hp
   rw [e] at this; omega)
  simpa using this
theorem and1_tbit (s : Int) (b : Nat) : bits .and .i64 (s / 2 ^ b) 1 = b01 (tbit s b) := by
 rw [i64_and1]
 unfold b01 tbit
 have := Int.emod_nonneg (s / 2 ^ b) (show (2 : Int) ≠ 0 by decide)
 have := Int.emod_lt_of_pos (s / 2 ^ b) (show (0 : Int) < 2 by decide)
 by_cases h : s / 2 ^ b % 2 = 1
 ·rw [h]; rfl
 ·have h0 : s / 2 ^ b % 2 = 0 := by omega
  rw [h0]; rfl
theorem shl_word (t : Bool) (r : Nat) (hr : r < 64) : IntKind.u64.wrap (IntKind.u64.wrap (b01 t) * 2 ^ r) = (((if t = true then 1#64 <<< r else 0#64 : BitVec 64).toNat : Nat) : Int) := by
 have h1 : IntKind.u64.wrap (b01 t) = b01 t := by cases t <;> rfl
 rw [h1]
 cases t
 ·simp [b01]; rfl
 ·simp only [b01, if_true, Int.one_mul]
  rw [BitVec.toNat_shiftLeft]
  have h2 : (1#64 : BitVec 64).toNat <<< r = 2 ^ r := by rw [Nat.shiftLeft_eq]; simp
  have h3 : 2 ^ r < 2 ^ 64 := Nat.pow_lt_pow_right (by decide) hr
  rw [h2, Nat.mod_eq_of_lt h3]
  have h4 : ((2 ^ r : Nat) : Int) = (2 : Int) ^ r := by simp
  rw [← h4]
  show ((2 ^ r : Nat) : Int) % 18446744073709551616 = _
  rw [Int.emod_eq_of_lt (Int.natCast_nonneg _) (Int.lt_of_lt_of_le (Int.ofNat_lt.2 h3) (by decide))]
theorem put_word (v : BitVec 64) (s : Int) (b r : Nat) (hr : r < 64) : Value.int .u64 (bits .or .u64 (v.toNat : Int) (IntKind.u64.wrap (IntKind.u64.wrap (bits .and .i64 (s / 2 ^ b) 1) * 2 ^ r))) = w64 (v ||| (if tbit s b = true then 1#64 <<< r else 0#64)) := by
 rw [and1_tbit, shl_word _ _ hr, w64_orP]; rfl
theorem POwn.elem {w : World} {base M n c i : Nat} {A : Option Addr} {gs : List Nat} {rows : List (List (BitVec 64))} (h : POwn w base (.slice A n c) M gs rows) (hn : rows.length = n) (hi : i < n) :
 ∃ ad, A = some ad ∧ ad.block < w.heap.size ∧ w.cell? (ad.add i) = some (.slice (some ⟨gs.getD i 0, 0, none⟩) M M) := by
 have ho := h.own
 rw [hn] at ho
 obtain ⟨ad, u, e, hb, hu, hc⟩ := (Rd.of_own ho).get1 hi
 rw [List.getElem?_map, List.getElem?_eq_getElem (by rw [h.len, hn]; exact hi)] at hu
 refine ⟨ad, e, hb, ?_⟩
 rw [hc, ← hu, List.getD_eq_getElem?_getD, List.getElem?_eq_getElem (by rw [h.len, hn]; exact hi)]; rfl
set_option maxRecDepth 100000 in
set_option maxHeartbeats 4000000 in
theorem plPack_good (g : Grd) (A : Option Addr) (n c k : Nat) (w : World) (h : GAt w g A n) (hr : rightG g = true) (hk1 : 1 ≤ k) (hk3 : k ≤ 3) :
 Calls Try.prog 24 #[.agg #[.int .i64 g.w, .int .i64 g.h, .int .i64 g.edge, .slice A n c], .int .i64 k] w (PPost (packR g k) (packErr g k) w) := by
 have H : Hid (GAt w g A n) := h
 have HCL : Hid (g.cells.length = n) := h.cl
 have hm := h.c63
 unfold maxLen at hm
 have HR : Hid (rightG g = true) := hr
 obtain ⟨hs, hl, hst⟩ := rightG_parts hr
 obtain ⟨⟨s1, s2⟩, ⟨s3, s4⟩, s5, s6, s7⟩ := sizedF_parts hs
 obtain ⟨W, hW⟩ : ∃ W : Nat, g.w = (W : Int) := ⟨g.w.toNat, by omega⟩
 obtain ⟨Hh, hH⟩ : ∃ Hh : Nat, g.h = (Hh : Int) := ⟨g.h.toNat, by omega⟩
 obtain ⟨E, hE⟩ : ∃ E : Nat, g.edge = (E : Int) := ⟨g.edge.toNat, by omega⟩
 have HW : Hid (g.w = (W : Int)) := hW
 have HH : Hid (g.h = (Hh : Int)) := hH
 have HE : Hid (g.edge = (E : Int)) := hE
 have hW1 : 1 ≤ W ∧ W ≤ 256 := by omega
 have hH1 : 1 ≤ Hh ∧ Hh ≤ 256 := by omega
 have hE2 : E ≤ 2 := by omega
 obtain ⟨w1', w2', w3'⟩ := wpr_bd hW1.1
 obtain ⟨nn, hnn⟩ : ∃ nn, nn = wpr W := ⟨_, rfl⟩
 have HNN : Hid (wpr W = nn) := hnn.symm
 rw [← hnn] at w1' w2' w3'
 have hn4 : nn ≤ 4 := by omega
 have hcn : n = Hh * W := by
  have : ((Hh * W : Nat) : Int) = g.w * g.h := by rw [Int.natCast_mul, hW, hH, Int.mul_comm]
  have := HCL.out
  omega
 have hcb : n ≤ 4096 := by
  have h9 : ((W * Hh : Nat) : Int) ≤ 4096 := by rw [Int.natCast_mul, ← hW, ← hH]; exact s5
  rw [hcn, Nat.mul_comm]; omega
 have HCNT : Hid (n = Hh * W) := hcn
 have HST : Hid (∀ i, i < n → 0 ≤ g.cells.getD i 0 ∧ g.cells.getD i 0 < 8) := fun i hi => stateOk_at hst (by rw [HCL.out]; exact hi)
 clear hr hs hl hst s1 s2 s3 s4 s5 s6 s7 hW hH hE hnn hcn h
 go_enter Try.func24, Try.ntmps24
 go_wp2_with fail
 refine (gRight_any g A n c _ (H.out.up (by go_grown))).mono ?_
 rw [HR.out]
 rintro e w1 ⟨rfl, hb⟩
 have HB : Hid (Below w.heap.size w w1) := below_next hb (by go_grown)
 have RA : Hid (Row w1 w.heap.size 54 [.int .i64 g.w, .int .i64 g.h, .int .i64 g.edge, .slice A n c]) := rowCells ((Row.new w 54 [.int .i64 g.w, .int .i64 g.h, .int .i64 g.edge, .slice A n c]).alloc _) hb
 have RZ : Hid (Row w1 (w.heap.size + 1) 42 [.int .i64 0, .int .i64 0, .int .i64 0, .slice none 0 0]) := rowCells (rowNew1 w _ 42 [.int .i64 0, .int .i64 0, .int .i64 0, .slice none 0 0]) hb
 clear hb
 rw [HW.out, HH.out, HE.out] at RA
 obtain ⟨k0, k1, k2, k3, kl⟩ := RA.out.cells4
 have hkz1 : ¬ (k : Int) < 1 := by omega
 have hkz3 : ¬ (3 : Int) < (k : Int) := by omega
 go_wp2_with fail
 refine (blank_any W Hh E k _ hW1 hH1 hk3 hE2).mono ?_
 rw [HNN.out]
 rintro e w2 ⟨PA, pc, gs, rfl, hpo, hb⟩
 have HPO : Hid (POwn w2 w1.heap.size (.slice PA k pc) (Hh * nn) gs (List.replicate k (List.replicate (Hh * nn) 0#64))) := hpo
 have HB2 : Hid (Below w1.heap.size w1 w2) := hb
 have RA2 : Hid (Row w2 w.heap.size 54 [.int .i64 W, .int .i64 Hh, .int .i64 E, .slice A n c]) := rowCells RA.out hb
 clear hb hpo k0 k1 k2 k3 kl
 obtain ⟨k0, k1, k2, k3, kl⟩ := RA2.out.cells4
 go_wp2_with fail
 refine (words_any W _ (by omega)).mono ?_
 rw [HNN.out]
 rintro e w3 ⟨rfl, rfl⟩
 go_wp2
 have RX : Hid (Row (World.alloc w2 (.cells #[.int .i64 W, .int .i64 Hh, .int .i64 E, .slice PA k pc] 42)) w2.heap.size 42 [.int .i64 W, .int .i64 Hh, .int .i64 E, .slice PA k pc]) := Row.new w2 42 [.int .i64 W, .int .i64 Hh, .int .i64 E, .slice PA k pc]
 have HP1 : Hid (POwn (World.alloc w2 (.cells #[.int .i64 W, .int .i64 Hh, .int .i64 E, .slice PA k pc] 42)) w1.heap.size (.slice PA k pc) (Hh * nn) gs (packTo W Hh g.cells k 0 0)) := by
  show POwn _ _ _ _ _ _
  rw [packTo_zero, HNN.out]
  exact HPO.out.up ((Below.refl _ _).alloc (Nat.le_refl _) _)
 have HB3 : Hid (Below w1.heap.size w1 (World.alloc w2 (.cells #[.int .i64 W, .int .i64 Hh, .int .i64 E, .slice PA k pc] 42))) := below_on2 HB2.out (by go_grown)
 have hgb : w1.heap.size ≤ w2.heap.size := HB2.out.size
 have HLT : Hid (∀ j, j < k → gs.getD j 0 < w2.heap.size) := fun j hj => (HPO.out.row j (by rw [List.length_replicate]; exact hj)).lt
 clear k0 k1 k2 k3 kl RA2 HPO HB2
 revert RX HP1 HB3 hgb HLT
 generalize World.alloc w2 (.cells #[.int .i64 W, .int .i64 Hh, .int .i64 E, .slice PA k pc] 42) = w3
 generalize w2.heap.size = gb
 intro RX HP1 HB3 hgb HLT
 go_loopg [8, 9, 10, 11, 12, 39] n (fun gg _ _ _ _ _ s39 wr => ∃ i : Nat, i ≤ n ∧ n - i ≤ gg ∧ s39 = .int .i64 i ∧ Aside (Below w1.heap.size w1 wr) ∧ Aside (Row wr gb 42 [.int .i64 W, .int .i64 Hh, .int .i64 E, .slice PA k pc]) ∧ Aside (POwn wr w1.heap.size (.slice PA k pc) (Hh * nn) gs (packTo W Hh g.cells k i 0)) ∧ Aside (∀ j, j < i → g.cells.getD j 0 < 2 ^ k))
 case atStart => exact ⟨0, Nat.zero_le _, by omega, rfl, HB3.out, RX.out, HP1.out, fun j hj => absurd hj (Nat.not_lt_zero _)⟩
 case round =>
  clear HB3 RX HP1
  obtain ⟨i, hi, hgg, rfl, BW, RX, PW, AL⟩ := hrel
  have RAr : Hid (Row wr w.heap.size 54 [.int .i64 W, .int .i64 Hh, .int .i64 E, .slice A n c]) := rowCells RA.out BW.out
  have HBr : Hid (Below w.heap.size w wr) := below_on2 HB.out BW.out
  obtain ⟨k0, k1, k2, k3, kl⟩ := RAr.out.cells4
  by_cases hlt : i < n
  ·have hltz : (i : Int) < (n : Int) := by omega
   obtain ⟨ad, rfl, hbl, hc⟩ := (H.out.up HBr.out).cells.int hlt
   obtain ⟨hs0, hs8⟩ := HST.out i hlt
   have HSS : Hid (g.cells.getD i 0 = g.cells.getD i 0) := rfl
   generalize hsg : g.cells.getD i 0 = s at hc hs0 hs8
   have HS : Hid (g.cells.getD i 0 = s) := hsg
   clear hsg HSS
   have hte := shr_test k hs0
   by_cases hst : s < 2 ^ k
   ·have HSK : Hid (s < 2 ^ k) := hst
    rw [decide_eq_true hst] at hte
    have ht : (s / 2 ^ k != 0) = false := hte
    clear hte hst
    obtain ⟨X, hX⟩ : ∃ X, X = i % W := ⟨_, rfl⟩
    obtain ⟨Y, hY⟩ : ∃ Y, Y = i / W := ⟨_, rfl⟩
    have hXz : (i : Int) % (W : Int) = (X : Int) := by rw [hX]; simp
    have hYz : (i : Int) / (W : Int) = (Y : Int) := by rw [hY]; simp
    have hXW : X < W := by rw [hX]; exact Nat.mod_lt _ (by omega)
    have hYH : Y < Hh := by rw [hY]; exact Nat.div_lt_of_lt_mul (by have := HCNT.out; rw [Nat.mul_comm]; omega)
    have HXY : Hid (i = Y * W + X) := (by show i = Y * W + X; rw [hX, hY]; exact (Nat.div_add_mod' i W).symm)
    have hWne : (W : Int) ≠ 0 := by omega
    clear hX hY
    go_wp2_with fail
    go_quiet (fail)
    go_wp2
    rw [hXz]
    have BWo : Hid (Below w1.heap.size w1 (wr.drewN nq)) := below_drewN BW.out nq
    have RXo : Hid (Row (wr.drewN nq) gb 42 [.int .i64 W, .int .i64 Hh, .int .i64 E, .slice PA k pc]) := RX.out
    have PWo : Hid (POwn (wr.drewN nq) w1.heap.size (.slice PA k pc) (Hh * nn) gs (packTo W Hh g.cells k i 0)) := (by show POwn _ _ _ _ _ _; exact ⟨PW.out.len, PW.out.own, PW.out.row, PW.out.wid, PW.out.bas, PW.out.inj⟩)
    clear hXz hYz hWne k0 k1 k2 k3 kl BW RX PW RAr HBr
    revert BWo RXo PWo
    generalize wr.drewN nq = wo
    intro BWo RXo PWo
    go_loopg [12, 59] k (fun gg _ s59 wi => ∃ b : Nat, b ≤ k ∧ k - b ≤ gg ∧ s59 = .int .i64 b ∧ Aside (Below w1.heap.size w1 wi) ∧ Aside (Row wi gb 42 [.int .i64 W, .int .i64 Hh, .int .i64 E, .slice PA k pc]) ∧ Aside (POwn wi w1.heap.size (.slice PA k pc) (Hh * nn) gs (packTo W Hh g.cells k i b)))
    case atStart => exact ⟨0, Nat.zero_le _, by omega, rfl, BWo.out, RXo.out, PWo.out⟩
    case round =>
     clear BWo RXo PWo
     obtain ⟨b, hb, hgb2, rfl, BW, RX, PW⟩ := hrel
     by_cases hlb : b < k
     ·have hlbz : (b : Int) < (k : Int) := by omega
      obtain ⟨ae, rfl, hbe, hce⟩ := PW.out.elem (packTo_length _ _ _ _ _ _) hlb
      have HPR := PW.out.row b (by rw [packTo_length]; exact hlb)
      have HGB : Hid (w1.heap.size ≤ gs.getD b 0) := PW.out.bas b (by rw [packTo_length]; exact hlb)
      have HGN : Hid (gs.getD b 0 < gb) := HLT.out b hlb
      generalize hgr : gs.getD b 0 = gr at hce HPR HGB HGN
      have HGR : Hid (gs.getD b 0 = gr) := hgr
      rw [packTo_row _ _ _ _ _ _ _ hlb, decide_eq_false (Nat.lt_irrefl b)] at HPR
      obtain ⟨q, hq⟩ : ∃ q, q = X / 64 := ⟨_, rfl⟩
      obtain ⟨r, hr⟩ : ∃ r, r = X % 64 := ⟨_, rfl⟩
      obtain ⟨m, hmm⟩ : ∃ m, m = Y * nn := ⟨_, rfl⟩
      obtain ⟨M, hMM⟩ : ∃ M, M = Hh * nn := ⟨_, rfl⟩
      have hqz : (X : Int) / 64 = (q : Int) := by omega
      have hrz : (X : Int) % 64 = (r : Int) := by omega
      have hr64 : r < 64 := by omega
      have hmz : (Y : Int) * (nn : Int) = (m : Int) := by rw [hmm, Int.natCast_mul]
      have hqn : q < nn := by omega
      have hmq : m + q < M := by rw [hmm, hMM]; exact row_ltP hqn hYH
      have hmb : M ≤ 1024 := by rw [hMM]; exact Nat.mul_le_mul hH1.2 hn4
      have hw1 : IntKind.i64.wrap (m : Int) = (m : Int) := IntWalk.i64_in _ (by omega)
      have hw2 : IntKind.i64.wrap ((m : Int) + (q : Int)) = (m : Int) + (q : Int) := IntWalk.i64_in _ (by omega)
      have hn2 : ((m : Int) + (q : Int)).toNat = m + q := by omega
      have hw0 : (0 : Int) ≤ (m : Int) + (q : Int) := by omega
      have hw3 : (m : Int) + (q : Int) < (M : Int) := by omega
      have hwq : IntKind.i64.wrap (q : Int) = (q : Int) := IntWalk.i64_in _ (by omega)
      have hwr : IntKind.i64.wrap (r : Int) = (r : Int) := IntWalk.i64_in _ (by omega)
      have hrc : wr.cell? ⟨gr, m + q, none⟩ = some (w64 (packW W g.cells i false b (m + q))) := by
       rw [HPR.cell, w64s_get _ _ (by rw [packRow_length, HNN.out, ← hMM]; exact hmq)]
       exact congrArg (fun z => some (w64 z)) (packRow_word _ _ _ _ _ _ _ (by rw [HNN.out, ← hMM]; exact hmq))
      unfold w64 at hrc
      generalize hvv : packW W g.cells i false b (m + q) = v at hrc
      have HV : Hid (packW W g.cells i false b (m + q) = v) := hvv
      have hfr := HPR.frozen (m + q)
      have hgl := HPR.lt
      have HMM : Hid (Hh * nn = M) := hMM.symm
      rw [← hMM] at hce
      obtain ⟨e0, e1, e2, e3, el⟩ := RX.out.cells4
      clear hq hr hmm hMM hgr hvv
      go_wp2_with fail
      rw [put_word v s b r hr64]
      go_roundg (k - (b + 1))
      case measure => omega
      case rel =>
       have hpt := PW.out.put b (m + q) (v ||| (if tbit s b = true then 1#64 <<< r else 0#64)) (by rw [packTo_length]; exact hlb)
       rw [HGR.out] at hpt
       have hq2 : X / 64 = q := by omega
       have hr2 : X % 64 = r := by omega
       have hXq : X / 64 < wpr W := by rw [HNN.out, hq2]; exact hqn
       have e := packTo_put W Hh g.cells k i b X Y hlb hXW hYH hXq HXY.out
       have hmm : m = Y * nn := by exact_mod_cast hmz.symm
       rw [HNN.out, hq2, hr2, ← hmm, HV.out, HS.out] at e
       rw [e] at hpt
       exact ⟨b + 1, by omega, by omega, by go_num, BW.out.setCell (p := ⟨gr, m + q, none⟩) HGB.out _, RX.out.far (p := ⟨gr, m + q, none⟩) (by have := HGN.out; show gb ≠ gr; omega) _, hpt⟩
     ·have hlbz : ¬ (b : Int) < (k : Int) := by omega
      obtain rfl : b = k := by omega
      rw [packTo_next] at PW
      go_wp2
      go_roundg (n - (i + 1))
      case measure => omega
      case rel => exact ⟨i + 1, by omega, by omega, by go_num, BW, RX, PW, (show Aside _ from fun j hj => by
       by_cases e : j = i
       ·rw [e, HS.out]; exact HSK.out
       ·exact AL.out j (by omega))⟩
   ·have HSK : Hid (¬ s < 2 ^ k) := hst
    rw [decide_eq_false hst] at hte
    have ht : (s / 2 ^ k != 0) = true := hte
    clear hte hst
    have RZr : Hid (Row wr (w.heap.size + 1) 42 [.int .i64 0, .int .i64 0, .int .i64 0, .slice none 0 0]) := rowCells RZ.out BW.out
    obtain ⟨d0, d1, d2, d3, dl⟩ := RZr.out.cells4
    have f0 := RZr.out.frozen 0
    have f1 := RZr.out.frozen 1
    have f2 := RZr.out.frozen 2
    have f3 := RZr.out.frozen 3
    have BB := HBr.out
    have HCE : Hid (packR g k = noPln ∧ packErr g k = 10) := packBadState HR.out hk1 hk3 (i := i) (by rw [HCL.out]; exact hlt) (by rw [HS.out]; exact HSK.out)
    go_wp2
    exact bodyPost_ret (v := .tuple #[.agg #[.int .i64 0, .int .i64 0, .int .i64 0, .slice none 0 0], .int .i64 10]) (by simp [results, Try.results24, go_sem, d0, d1, d2, d3]) rfl (ppost_err HCE.out.1 HCE.out.2 (by go_grown))
  ·have hltz : ¬ (i : Int) < (n : Int) := by omega
   obtain rfl : i = n := by omega
   have RZr : Hid (Row wr (w.heap.size + 1) 42 [.int .i64 0, .int .i64 0, .int .i64 0, .slice none 0 0]) := rowCells RZ.out BW.out
   have HCE : Hid (packR g k = packP g k ∧ packErr g k = 0) := packGood HR.out hk1 hk3 (fun j hj => AL.out j (by rw [← HCL.out]; exact hj))
   obtain ⟨d0, d1, d2, d3, dl⟩ := RZr.out.cells4
   have f0 := RZr.out.frozen 0
   have f1 := RZr.out.frozen 1
   have f2 := RZr.out.frozen 2
   have f3 := RZr.out.frozen 3
   obtain ⟨e0, e1, e2, e3, el⟩ := RX.out.cells4
   go_wp2
   have hbw := w1.heap.size
   obtain ⟨hbl, RZ4, _⟩ := put4 (.int .i64 W) (.int .i64 Hh) (.int .i64 E) (.slice PA k pc) RZr.out (Nat.le_succ w.heap.size) HBr.out
   have hpo := PW.out.far4 (.int .i64 W) (.int .i64 Hh) (.int .i64 E) (.slice PA k pc) RZr.out (by decide) RZ.out.lt
   have r0 := RZ4.cell 0
   have r1 := RZ4.cell 1
   have r2 := RZ4.cell 2
   have r3 := RZ4.cell 3
   simp only [List.getElem?_cons_zero, List.getElem?_cons_succ] at r0 r1 r2 r3
   clear RZ4
   revert hbl hpo r0 r1 r2 r3
   generalize World.setCell (World.setCell (World.setCell (World.setCell wr ⟨w.heap.size + 1, 0, none⟩ (.int .i64 W)) ⟨w.heap.size + 1, 1, none⟩ (.int .i64 Hh)) ⟨w.heap.size + 1, 2, none⟩ (.int .i64 E)) ⟨w.heap.size + 1, 3, none⟩ (.slice PA k pc) = wz
   intro hbl hpo r0 r1 r2 r3
   refine bodyPost_ret (v := .tuple #[.agg #[.int .i64 W, .int .i64 Hh, .int .i64 E, .slice PA k pc], .int .i64 0]) (by simp [results, Try.results24, go_sem, r0, r1, r2, r3]) rfl ?_
   rw [HCE.out.1, HCE.out.2]
   have e2 : packTo W Hh g.cells k i 0 = (packP g k).words := by
    rw [HCNT.out, packTo_all _ _ _ _ hW1.1]
    unfold packP
    rw [HW.out, HH.out, Int.toNat_natCast, Int.toNat_natCast]
   rw [e2] at hpo
   refine ⟨PA, k, pc, _, _, ?_, hpo.base HB.out.size, ⟨pack_len g k, hk3, Nat.mul_le_mul hH1.2 hn4⟩, hbl⟩
   show Ending.returned (.tuple #[.agg #[.int .i64 W, .int .i64 Hh, .int .i64 E, .slice PA k pc], .int .i64 0]) = Ending.returned (.tuple #[.agg #[.int .i64 g.w, .int .i64 g.h, .int .i64 g.edge, .slice PA k pc], .int .i64 0])
   rw [HW.out, HH.out, HE.out]
theorem plPack_any (g : Grd) (A : Option Addr) (n c : Nat) (b : Int) (w : World) (h : GAt w g A n) :
 Calls Try.prog 24 #[.agg #[.int .i64 g.w, .int .i64 g.h, .int .i64 g.edge, .slice A n c], .int .i64 b] w (PPost (packR g b) (packErr g b) w) := by
 by_cases hb : rightG g = true ∧ 1 ≤ b ∧ b ≤ 3
 ·obtain ⟨k, rfl⟩ : ∃ k : Nat, b = (k : Int) := ⟨b.toNat, by omega⟩
  exact plPack_good g A n c k w h hb.1 (by omega) (by omega)
 ·exact plPack_bad g A n c b w h hb
end Go.Proofs.Ytiemhbogbaamlaa

