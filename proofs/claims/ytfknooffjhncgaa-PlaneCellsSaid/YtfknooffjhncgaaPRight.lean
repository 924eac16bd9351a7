/-
  Valid bit planes: plane.Right, the reference's Right, and the law's few, walked.
-/
import Derived.Test.YtfknooffjhncgaaPBit
import Derived.Test.YtfknooffjhncgaaGNew
namespace Go.Proofs.Ytfknooffjhncgaa
open Go.RowKit
set_option linter.unusedSimpArgs false
set_option linter.unusedVariables false
theorem all_false_row (l : List (List (BitVec 64))) (f : List (BitVec 64) → Bool) (k : Nat) (hk : k < l.length) (h : f (l.getD k []) = false) : l.all f = false := by
  rw [List.all_eq_false]
  refine ⟨l.getD k [], ?_, by rw [h]; simp⟩
  rw [List.getD_eq_getElem?_getD, List.getElem?_eq_getElem hk]
  exact List.getElem_mem hk
theorem all_true_row (l : List (List (BitVec 64))) (f : List (BitVec 64) → Bool) (h : ∀ k, k < l.length → f (l.getD k []) = true) : l.all f = true := by
  rw [List.all_eq_true]
  intro x hx
  obtain ⟨k, hk, rfl⟩ := List.getElem_of_mem hx
  have := h k hk
  rw [List.getD_eq_getElem?_getD, List.getElem?_eq_getElem hk] at this
  exact this
theorem planeOk_len {W H : Nat} {l : List (BitVec 64)} (h : l.length ≠ H * wpr W) : planeOk W H l = false := by
  unfold planeOk; rw [decide_eq_false h]; rfl
theorem planeOk_pad {W H : Nat} {l : List (BitVec 64)} (y : Nat) (hy : y < H) (h : padOk W (wpr W) l y = false) : planeOk W H l = false := by
  unfold planeOk
  have : decide (∀ y, y < H → padOk W (wpr W) l y = true) = false := decide_eq_false (fun h2 => by rw [h2 y hy] at h; cases h)
  rw [this, Bool.and_false]
theorem planeOk_all {W H : Nat} {l : List (BitVec 64)} (h1 : l.length = H * wpr W) (h : ∀ y, y < H → padOk W (wpr W) l y = true) : planeOk W H l = true := by
  unfold planeOk; rw [decide_eq_true h1, decide_eq_true h]; rfl
/-- The word whose low bits stand for the last cells of a row. -/
theorem last_pad (l : List (BitVec 64)) (W n k y : Nat) (hn : 1 ≤ n) (hk : k = 64 * n - W) (h1 : 64 * (n - 1) < W) (h2 : W ≤ 64 * n) :
    (((l.getD (y * n + (n - 1)) 0#64 &&& ~~~(BitVec.allOnes 64 >>> k)).toNat : Int) != 0) = !padOk W n l y := by
  generalize hx : l.getD (y * n + (n - 1)) 0#64 = x
  have hb : ∀ j, j < 64 → (x &&& ~~~(BitVec.allOnes 64 >>> k)).getLsbD j = (x.getLsbD j && decide (W ≤ 64 * (n - 1) + j)) := by
    intro j hj
    rw [BitVec.getLsbD_and, BitVec.getLsbD_not, BitVec.getLsbD_ushiftRight, BitVec.getLsbD_allOnes]
    by_cases hw : W ≤ 64 * (n - 1) + j
    · have : ¬ k + j < 64 := by omega
      simp [hw, this, hj]
    · have : k + j < 64 := by omega
      simp [hw, this, hj]
  have key : x &&& ~~~(BitVec.allOnes 64 >>> k) = 0#64 ↔ padOk W n l y = true := by
    rw [padOk_iff, hx]
    constructor
    · intro h j hj hw
      have := hb j hj
      rw [h] at this
      simpa [hw] using this.symm
    · intro h
      apply word_ext
      intro j hj
      rw [hb j hj]
      by_cases hw : W ≤ 64 * (n - 1) + j
      · rw [h j hj hw]; simp
      · simp [hw]
  generalize x &&& ~~~(BitVec.allOnes 64 >>> k) = v at key
  cases hp : padOk W n l y
  · rw [hp] at key
    have : v ≠ 0#64 := fun e => by have := key.1 e; cases this
    rw [Bool.not_false, bne_iff_ne]
    intro h0
    exact this (BitVec.eq_of_toNat_eq (by simp; omega))
  · rw [key.2 hp]; rfl
theorem ones_shr (k : Nat) : (18446744073709551615 : Int) / 2 ^ k = ((BitVec.allOnes 64 >>> k).toNat : Int) := by
  have h := w64_shr (BitVec.allOnes 64) k
  rw [← h]; rfl

set_option maxRecDepth 100000 in
set_option maxHeartbeats 4000000 in
theorem plRight_any (p : Pln) (A : Option Addr) (n c : Nat) (sl : List Sl) (w : World) (h : PAt w p A n sl) :
    Calls Try.prog 16 #[.agg #[.int .i64 p.w, .int .i64 p.h, .int .i64 p.edge, .slice A n c]] w fun e w' => e = .returned (.bool (rightPl p)) ∧ Below w.heap.size w w' := by
  have H : Hid (PAt w p A n sl) := h
  have HWL : Hid (p.words.length = n) := h.wl
  have hm := h.n63
  unfold maxLen at hm
  clear h
  cases hs : sizedF p.w p.h p.edge
  · have HF : Hid (rightPl p = false) := by show _ = _; rw [rightPl, hs]; rfl
    have HS : Hid (sizedF p.w p.h p.edge = false) := hs
    clear hs
    go_enter Try.func16, Try.ntmps16
    go_wp2_with fail
    refine (gNew_any p.w p.h p.edge _).mono ?_
    rintro e w1 h1
    rcases h1 with ⟨_, rfl, hb⟩ | ⟨h2, _⟩
    · have HB : Hid (Below w.heap.size w w1) := below_next hb (by go_grown)
      clear hb
      go_wp2
      go_ret
      exact ⟨ret_bool HF.out.symm, below_on2 HB.out (by go_grown)⟩
    · rw [HS.out] at h2; cases h2
  obtain ⟨⟨s1, s2⟩, ⟨s3, s4⟩, _, _⟩ := sizedF_parts hs
  have HSZ : Hid (sizedF p.w p.h p.edge = true) := hs
  obtain ⟨W, hW⟩ : ∃ W : Nat, p.w = (W : Int) := ⟨p.w.toNat, by omega⟩
  obtain ⟨Hh, hH⟩ : ∃ Hh : Nat, p.h = (Hh : Int) := ⟨p.h.toNat, by omega⟩
  have HW : Hid (p.w = (W : Int)) := hW
  have HH : Hid (p.h = (Hh : Int)) := hH
  have HR : Hid (rightPl p = (decide (1 ≤ n ∧ n ≤ 3) && p.words.all (planeOk W Hh))) := by
    show _ = _
    rw [rightPl, hs, Bool.true_and, HWL.out, hW, hH, Int.toNat_natCast, Int.toNat_natCast]
  have hW1 : 1 ≤ W ∧ W ≤ 256 := by omega
  have hH1 : 1 ≤ Hh ∧ Hh ≤ 256 := by omega
  obtain ⟨w1', w2', w3'⟩ := wpr_bd hW1.1
  obtain ⟨nn, hnn⟩ : ∃ nn, nn = wpr W := ⟨_, rfl⟩
  have HNN : Hid (wpr W = nn) := hnn.symm
  rw [← hnn] at w1' w2' w3'
  have hn4 : nn ≤ 4 := by omega
  clear hs s1 s2 s3 s4 hW hH hnn
  go_enter Try.func16, Try.ntmps16
  go_wp2_with fail
  refine (gNew_any p.w p.h p.edge _).mono ?_
  rintro e w1 h1
  rcases h1 with ⟨h2, _⟩ | ⟨_, g, rfl, _, _, hb⟩
  · rw [HSZ.out] at h2; cases h2
  have RA : Hid (Row w1 w.heap.size 28 [.int .i64 p.w, .int .i64 p.h, .int .i64 p.edge, .slice A n c]) := rowCells (Row.new w 28 [.int .i64 p.w, .int .i64 p.h, .int .i64 p.edge, .slice A n c]) hb
  have HB : Hid (Below w.heap.size w w1) := below_next hb (by go_grown)
  clear hb
  generalize (p.w * p.h).toNat = cnt
  rw [HW.out, HH.out] at RA
  rw [HW.out, HH.out]
  have k0 := RA.out.cell 0
  have k1 := RA.out.cell 1
  have k2 := RA.out.cell 2
  have k3 := RA.out.cell 3
  have kl := RA.out.lt
  simp only [List.getElem?_cons_zero, List.getElem?_cons_succ] at k0 k1 k2 k3
  by_cases q1 : n < 1
  · have HF : Hid (rightPl p = false) := by show _ = _; rw [HR.out, decide_eq_false (by omega)]; rfl
    go_wp2
    go_ret
    exact ⟨ret_bool HF.out.symm, below_on2 HB.out (by go_grown)⟩
  by_cases q3 : 3 < n
  · have HF : Hid (rightPl p = false) := by show _ = _; rw [HR.out, decide_eq_false (by omega)]; rfl
    go_wp2
    go_ret
    exact ⟨ret_bool HF.out.symm, below_on2 HB.out (by go_grown)⟩
  go_wp2_with fail
  refine (words_any W _ (by omega)).mono ?_
  rw [HNN.out]
  rintro e w2 ⟨rfl, rfl⟩
  obtain ⟨k, hk⟩ : ∃ k, k = 64 * nn - W := ⟨_, rfl⟩
  have hkz : 64 * (nn : Int) - (W : Int) = (k : Int) := by omega
  have hk64 : k < 64 := by omega
  have HKK : Hid (k = 64 * nn - W) := hk
  obtain ⟨M, hM⟩ : ∃ M, M = Hh * nn := ⟨_, rfl⟩
  have hMz : (Hh : Int) * (nn : Int) = (M : Int) := by rw [hM, Int.natCast_mul]
  have hMb : M ≤ 1024 := by rw [hM]; exact Nat.mul_le_mul hH1.2 hn4
  have HM : Hid (M = Hh * nn) := hM
  have hwM : IntKind.i64.wrap (M : Int) = (M : Int) := IntWalk.i64_in _ (by omega)
  clear hk hM
  go_wp2
  have HLS := ones_shr k
  generalize (18446744073709551615 : Int) / 2 ^ k = lst at HLS ⊢
  have HLST : Hid (lst = ((BitVec.allOnes 64 >>> k).toNat : Int)) := HLS
  clear HLS k0 k1 k2 k3 kl
  have RA2 : Hid (Row (World.alloc w1 (.cells #[.int .i64 W, .int .i64 Hh, .int .i64 p.edge, .slice (some ⟨g, 0, none⟩) cnt cnt] 24)) w.heap.size 28 [.int .i64 W, .int .i64 Hh, .int .i64 p.edge, .slice A n c]) := RA.out.alloc _
  have HB2 : Hid (Below w.heap.size w (World.alloc w1 (.cells #[.int .i64 W, .int .i64 Hh, .int .i64 p.edge, .slice (some ⟨g, 0, none⟩) cnt cnt] 24))) := below_on2 HB.out (by go_grown)
  revert RA2 HB2
  generalize World.alloc w1 (.cells #[.int .i64 W, .int .i64 Hh, .int .i64 p.edge, .slice (some ⟨g, 0, none⟩) cnt cnt] 24) = wA
  intro RA2 HB2
  have k0 := RA2.out.cell 0
  have k1 := RA2.out.cell 1
  have k2 := RA2.out.cell 2
  have k3 := RA2.out.cell 3
  have kl := RA2.out.lt
  simp only [List.getElem?_cons_zero, List.getElem?_cons_succ] at k0 k1 k2 k3
  go_loopg [8, 9, 47] n (fun gg _ _ s47 wr => ∃ kk : Nat, kk ≤ n ∧ n - kk ≤ gg ∧ s47 = .int .i64 kk ∧ wr = wA ∧ Aside (∀ b, b < kk → planeOk W Hh (p.words.getD b []) = true))
  case atStart => exact ⟨0, Nat.zero_le _, by omega, rfl, rfl, fun j hj => absurd hj (Nat.not_lt_zero _)⟩
  case round =>
    obtain ⟨kk, hkk, hgg, rfl, rfl, AA⟩ := hrel
    by_cases hlt : kk < n
    · have hltz : (kk : Int) < (n : Int) := by omega
      obtain ⟨ad, rfl, hbl, hc, hrd, hlm, hle⟩ := (H.out.up HB2.out).row hlt
      generalize hll : p.words.getD kk [] = l at hrd hle
      have HLL : Hid (p.words.getD kk [] = l) := hll
      generalize sl.getD kk default = s at hc hrd hlm hle
      obtain ⟨sa, sn, sc⟩ := s
      dsimp only at hc hrd hlm hle
      have HLE : Hid (l.length = sn) := hle
      unfold maxLen at hlm
      have HRD : Hid (Rd wr wr.heap.size 1 sa sn (w64s l)) := hrd
      clear hll hle hrd
      by_cases hsn : sn = M
      case neg =>
        have hne : ((sn : Int) != (M : Int)) = true := by rw [bne_iff_ne]; omega
        have HF : Hid (rightPl p = false) := by
          show _ = _
          rw [HR.out, all_false_row _ _ kk (by rw [HWL.out]; exact hlt) (planeOk_len (by rw [HLL.out, HLE.out, HNN.out, ← HM.out]; exact hsn)), Bool.and_false]
        clear hsn
        go_wp2
        go_ret
        exact ⟨ret_bool HF.out.symm, HB2.out⟩
      subst hsn
      have hne : ((sn : Int) != (sn : Int)) = false := by simp
      go_wp2
      clear hne
      go_loopg [9, 60] Hh (fun gg _ s60 wi => ∃ y : Nat, y ≤ Hh ∧ Hh - y ≤ gg ∧ s60 = .int .i64 y ∧ wi = wr ∧ Aside (∀ j, j < y → padOk W nn l j = true))
      case atStart => exact ⟨0, Nat.zero_le _, by omega, rfl, rfl, fun j hj => absurd hj (Nat.not_lt_zero _)⟩
      case round =>
        obtain ⟨y, hy, hgy, rfl, rfl, AY⟩ := hrel
        by_cases hlty : y < Hh
        · have hltyz : (y : Int) < (Hh : Int) := by omega
          obtain ⟨m, hmm⟩ : ∃ m, m = y * nn := ⟨_, rfl⟩
          have hmz : (y : Int) * (nn : Int) = (m : Int) := by rw [hmm, Int.natCast_mul]
          have hmb : m + (nn - 1) < sn := by
            have h1 := row_lt (n := nn) (H := Hh) (i := nn - 1) (by omega) hlty
            have h2 := HM.out
            rw [← hmm, ← h2] at h1
            exact h1
          have hw1 : IntKind.i64.wrap (m : Int) = (m : Int) := IntWalk.i64_in _ (by omega)
          have hi2 : (m : Int) + (nn : Int) - 1 < (sn : Int) := by omega
          have hi3 : ((m : Int) + (nn : Int) - 1).toNat = m + (nn - 1) := by omega
          have hi4 : (0 : Int) ≤ (m : Int) + (nn : Int) - 1 := by omega
          obtain ⟨rd, rfl, hrb, hrc⟩ := HRD.out.word hmb
          unfold w64 at hrc
          have hp := last_pad l W nn k y w1' HKK.out w2' w3'
          rw [← hmm] at hp
          have HAN := w64_andNot (l.getD (m + (nn - 1)) 0#64) (BitVec.allOnes 64 >>> k)
          rw [← HLST.out] at HAN
          rw [← HAN] at hp
          generalize l.getD (m + (nn - 1)) 0#64 = v at hrc hp
          clear hmm HAN
          cases hpo : padOk W nn l y
          all_goals rw [hpo] at hp
          · have HF : Hid (rightPl p = false) := by
              show _ = _
              rw [HR.out, all_false_row _ _ kk (by rw [HWL.out]; exact hlt) (planeOk_pad y hlty (by rw [HLL.out, HNN.out]; exact hpo)), Bool.and_false]
            go_wp2
            go_ret
            exact ⟨ret_bool HF.out.symm, HB2.out⟩
          · have HPO : Hid (padOk W nn l y = true) := hpo
            clear hpo
            go_wp2
            go_roundg (Hh - (y + 1))
            case measure => omega
            case rel =>
              refine ⟨y + 1, by omega, by omega, by go_num, rfl, (show Aside _ from fun j hj => ?_)⟩
              by_cases e : j = y
              · subst e; exact HPO.out
              · exact AY.out j (by omega)
        · have hltyz : ¬ (y : Int) < (Hh : Int) := by omega
          obtain rfl : y = Hh := by omega
          have HPK : Hid (planeOk W y l = true) := planeOk_all (by rw [HNN.out, HLE.out, HM.out]) (fun j hj => by rw [HNN.out]; exact AY.out j hj)
          go_wp2
          go_roundg (n - (kk + 1))
          case measure => omega
          case rel =>
            refine ⟨kk + 1, by omega, by omega, by go_num, rfl, (show Aside _ from fun j hj => ?_)⟩
            by_cases e : j = kk
            · subst e; rw [HLL.out]; exact HPK.out
            · exact AA.out j (by omega)
    · have hltz : ¬ (kk : Int) < (n : Int) := by omega
      obtain rfl : kk = n := by omega
      go_wp2
      go_ret
      refine ⟨ret_bool ?_, HB2.out⟩
      rw [HR.out, decide_eq_true (by omega), Bool.true_and]
      symm
      exact all_true_row _ _ (fun j hj => AA.out j (by rw [HWL.out] at hj; exact hj))
set_option maxRecDepth 100000 in
set_option maxHeartbeats 4000000 in
theorem rPlRight_any (p : Pln) (A : Option Addr) (n c : Nat) (sl : List Sl) (w : World) (h : PAt w p A n sl) :
    Calls Try.prog 17 #[.agg #[.int .i64 p.w, .int .i64 p.h, .int .i64 p.edge, .slice A n c]] w fun e w' => e = .returned (.bool (rightPl p)) ∧ Below w.heap.size w w' := by
  have H : Hid (PAt w p A n sl) := h
  have HWL : Hid (p.words.length = n) := h.wl
  have hm := h.n63
  unfold maxLen at hm
  clear h
  cases hs : sizedF p.w p.h p.edge
  · have HF : Hid (rightPl p = false) := by show _ = _; rw [rightPl, hs]; rfl
    have HS : Hid (sizedF p.w p.h p.edge = false) := hs
    clear hs
    go_enter Try.func17, Try.ntmps17
    go_wp2_with fail
    refine (rNew_any p.w p.h p.edge _).mono ?_
    rintro e w1 h1
    rcases h1 with ⟨_, rfl, hb⟩ | ⟨h2, _⟩
    · have HB : Hid (Below w.heap.size w w1) := below_next hb (by go_grown)
      clear hb
      go_wp2
      go_ret
      exact ⟨ret_bool HF.out.symm, below_on2 HB.out (by go_grown)⟩
    · rw [HS.out] at h2; cases h2
  obtain ⟨⟨s1, s2⟩, ⟨s3, s4⟩, _, _⟩ := sizedF_parts hs
  have HSZ : Hid (sizedF p.w p.h p.edge = true) := hs
  obtain ⟨W, hW⟩ : ∃ W : Nat, p.w = (W : Int) := ⟨p.w.toNat, by omega⟩
  obtain ⟨Hh, hH⟩ : ∃ Hh : Nat, p.h = (Hh : Int) := ⟨p.h.toNat, by omega⟩
  have HW : Hid (p.w = (W : Int)) := hW
  have HH : Hid (p.h = (Hh : Int)) := hH
  have HR : Hid (rightPl p = (decide (1 ≤ n ∧ n ≤ 3) && p.words.all (planeOk W Hh))) := by
    show _ = _
    rw [rightPl, hs, Bool.true_and, HWL.out, hW, hH, Int.toNat_natCast, Int.toNat_natCast]
  have hW1 : 1 ≤ W ∧ W ≤ 256 := by omega
  have hH1 : 1 ≤ Hh ∧ Hh ≤ 256 := by omega
  obtain ⟨w1', w2', w3'⟩ := wpr_bd hW1.1
  obtain ⟨nn, hnn⟩ : ∃ nn, nn = wpr W := ⟨_, rfl⟩
  have HNN : Hid (wpr W = nn) := hnn.symm
  rw [← hnn] at w1' w2' w3'
  have hn4 : nn ≤ 4 := by omega
  clear hs s1 s2 s3 s4 hW hH hnn
  go_enter Try.func17, Try.ntmps17
  go_wp2_with fail
  refine (rNew_any p.w p.h p.edge _).mono ?_
  rintro e w1 h1
  rcases h1 with ⟨h2, _⟩ | ⟨_, g, rfl, _, _, hb⟩
  · rw [HSZ.out] at h2; cases h2
  have RA : Hid (Row w1 w.heap.size 28 [.int .i64 p.w, .int .i64 p.h, .int .i64 p.edge, .slice A n c]) := rowCells (Row.new w 28 [.int .i64 p.w, .int .i64 p.h, .int .i64 p.edge, .slice A n c]) hb
  have HB : Hid (Below w.heap.size w w1) := below_next hb (by go_grown)
  clear hb
  generalize (p.w * p.h).toNat = cnt
  rw [HW.out, HH.out] at RA
  rw [HW.out, HH.out]
  have k0 := RA.out.cell 0
  have k1 := RA.out.cell 1
  have k2 := RA.out.cell 2
  have k3 := RA.out.cell 3
  have kl := RA.out.lt
  simp only [List.getElem?_cons_zero, List.getElem?_cons_succ] at k0 k1 k2 k3
  by_cases q1 : n < 1
  · have HF : Hid (rightPl p = false) := by show _ = _; rw [HR.out, decide_eq_false (by omega)]; rfl
    go_wp2
    go_ret
    exact ⟨ret_bool HF.out.symm, below_on2 HB.out (by go_grown)⟩
  by_cases q3 : 3 < n
  · have HF : Hid (rightPl p = false) := by show _ = _; rw [HR.out, decide_eq_false (by omega)]; rfl
    go_wp2
    go_ret
    exact ⟨ret_bool HF.out.symm, below_on2 HB.out (by go_grown)⟩
  obtain ⟨M, hM⟩ : ∃ M, M = Hh * nn := ⟨_, rfl⟩
  have hMz : (Hh : Int) * (nn : Int) = (M : Int) := by rw [hM, Int.natCast_mul]
  have hMb : M ≤ 1024 := by rw [hM]; exact Nat.mul_le_mul hH1.2 hn4
  have HM : Hid (M = Hh * nn) := hM
  have hwM : IntKind.i64.wrap (M : Int) = (M : Int) := IntWalk.i64_in _ (by omega)
  clear hM
  go_wp2
  clear k0 k1 k2 k3 kl
  have RA2 : Hid (Row (World.alloc w1 (.cells #[.int .i64 W, .int .i64 Hh, .int .i64 p.edge, .slice (some ⟨g, 0, none⟩) cnt cnt] 24)) w.heap.size 28 [.int .i64 W, .int .i64 Hh, .int .i64 p.edge, .slice A n c]) := RA.out.alloc _
  have HB2 : Hid (Below w.heap.size w (World.alloc w1 (.cells #[.int .i64 W, .int .i64 Hh, .int .i64 p.edge, .slice (some ⟨g, 0, none⟩) cnt cnt] 24))) := below_on2 HB.out (by go_grown)
  revert RA2 HB2
  generalize World.alloc w1 (.cells #[.int .i64 W, .int .i64 Hh, .int .i64 p.edge, .slice (some ⟨g, 0, none⟩) cnt cnt] 24) = wA
  intro RA2 HB2
  go_loopg [5, 6, 7] n (fun gg s5 _ _ wr => ∃ kk : Nat, kk ≤ n ∧ n - kk ≤ gg ∧ s5 = .int .i64 kk ∧ Aside (Below wA.heap.size wA wr) ∧ Aside (∀ b, b < kk → planeOk W Hh (p.words.getD b []) = true))
  case atStart => exact ⟨0, Nat.zero_le _, by omega, rfl, Below.refl _ _, fun j hj => absurd hj (Nat.not_lt_zero _)⟩
  case round =>
    obtain ⟨kk, hkk, hgg, rfl, BW, AA⟩ := hrel
    have HBr : Hid (Below w.heap.size w wr) := below_on2 HB2.out BW.out
    have RAr : Hid (Row wr _ _ _) := rowCells RA2.out BW.out
    have k0 := RAr.out.cell 0
    have k1 := RAr.out.cell 1
    have k2 := RAr.out.cell 2
    have k3 := RAr.out.cell 3
    have kl := RAr.out.lt
    simp only [List.getElem?_cons_zero, List.getElem?_cons_succ] at k0 k1 k2 k3
    by_cases hlt : kk < n
    · have hltz : (kk : Int) < (n : Int) := by omega
      obtain ⟨ad, rfl, hbl, hc, hrd, hlm, hle⟩ := (H.out.up HBr.out).row hlt
      generalize hll : p.words.getD kk [] = l at hrd hle
      have HLL : Hid (p.words.getD kk [] = l) := hll
      generalize sl.getD kk default = s at hc hrd hlm hle
      obtain ⟨sa, sn, sc⟩ := s
      dsimp only at hc hrd hlm hle
      have HLE : Hid (l.length = sn) := hle
      unfold maxLen at hlm
      clear hll hle hrd
      by_cases hsn : sn = M
      case neg =>
        have hne : ((sn : Int) != (M : Int)) = true := by rw [bne_iff_ne]; omega
        have HF : Hid (rightPl p = false) := by
          show _ = _
          rw [HR.out, all_false_row _ _ kk (by rw [HWL.out]; exact hlt) (planeOk_len (by rw [HLL.out, HLE.out, HNN.out, ← HM.out]; exact hsn)), Bool.and_false]
        clear hsn
        go_wp2_with fail
        go_quiet ((go_at_call 30; exact quiet_same (HNN.out ▸ rWords_any W _ (by omega))))
        go_wp2
        go_ret
        exact ⟨ret_bool HF.out.symm, below_drewN HBr.out _⟩
      subst hsn
      have hne : ((sn : Int) != (sn : Int)) = false := by simp
      go_wp2_with fail
      go_quiet ((go_at_call 30; exact quiet_same (HNN.out ▸ rWords_any W _ (by omega))))
      go_wp2
      have BWo : Hid (Below wA.heap.size wA (wr.drewN nq)) := below_drewN BW.out _
      clear hne hc k0 k1 k2 k3 kl BW HBr RAr
      revert BWo
      generalize wr.drewN nq = wB
      intro BWo
      obtain ⟨wo, rfl⟩ : ∃ wo : World, wo = wr := ⟨_, rfl⟩
      go_loopg [6, 7] Hh (fun gg s6 _ wr => ∃ y : Nat, y ≤ Hh ∧ Hh - y ≤ gg ∧ s6 = .int .i64 y ∧ Aside (Below wA.heap.size wA wr) ∧ Aside (∀ j, j < y → padOk W nn l j = true))
      case atStart => exact ⟨0, Nat.zero_le _, by omega, rfl, BWo.out, fun j hj => absurd hj (Nat.not_lt_zero _)⟩
      case round =>
        clear BWo
        obtain ⟨y, hy, hgy, rfl, BW, AY⟩ := hrel
        have RAr : Hid (Row wr _ _ _) := rowCells RA2.out BW.out
        have k0 := RAr.out.cell 0
        have k1 := RAr.out.cell 1
        have k2 := RAr.out.cell 2
        have k3 := RAr.out.cell 3
        have kl := RAr.out.lt
        simp only [List.getElem?_cons_zero, List.getElem?_cons_succ] at k0 k1 k2 k3
        by_cases hlty : y < Hh
        · have hltyz : (y : Int) < (Hh : Int) := by omega
          have BWo : Hid (Below wA.heap.size wA wr) := BW.out
          go_wp2
          clear k0 k1 k2 k3 kl BW RAr
          obtain ⟨wq, rfl⟩ : ∃ wq : World, wq = wr := ⟨_, rfl⟩
          go_loopg [7] (64 * nn - W) (fun gg s7 wr => ∃ j : Nat, j ≤ 64 * nn - W ∧ 64 * nn - W - j ≤ gg ∧ s7 = .int .i64 ((W : Int) + (j : Int)) ∧ Aside (Below wA.heap.size wA wr) ∧ Aside (∀ t, t < j → bitW nn l (W + t) y = false))
          case atStart => exact ⟨0, Nat.zero_le _, by omega, by go_num, BWo.out, fun j hj => absurd hj (Nat.not_lt_zero _)⟩
          case round =>
            clear BWo
            obtain ⟨j, hj, hgj, rfl, BW, AE⟩ := hrel
            have HBr : Hid (Below w.heap.size w wr) := below_on2 HB2.out BW.out
            have RAr : Hid (Row wr _ _ _) := rowCells RA2.out BW.out
            have k0 := RAr.out.cell 0
            have k1 := RAr.out.cell 1
            have k2 := RAr.out.cell 2
            have k3 := RAr.out.cell 3
            have kl := RAr.out.lt
            simp only [List.getElem?_cons_zero, List.getElem?_cons_succ] at k0 k1 k2 k3
            have HWJ : Hid ((W : Int) + (j : Int) = ((W + j : Nat) : Int)) := (by show _ = _; omega)
            go_wp2_with fail
            refine (rWords_any W _ (by omega)).mono ?_
            rw [HNN.out]
            rintro e w6 ⟨rfl, rfl⟩
            by_cases hltj : j < 64 * nn - W
            · have hltjz : (W : Int) + (j : Int) < 64 * (nn : Int) := by omega
              have HBIT := rbit_any p (some ad) n c sl W kk (W + j) y wr (H.out.up HBr.out) HW.out hW1.2 hlt (by
                rw [HNN.out, HLL.out, HLE.out, HM.out, show (W + j) / 64 = nn - 1 by omega]
                exact row_lt (by omega) hlty) (by omega) (by
                rw [HNN.out]
                have := row_lt (n := nn) (H := Hh) (i := 0) (by omega) hlty
                have h2 := HM.out
                omega) (by omega)
              rw [HNN.out, HLL.out, HW.out, HH.out, ← HWJ.out] at HBIT
              have HBI := Lib.hid HBIT
              clear HBIT
              go_wp2_with fail
              refine HBI.out.mono ?_
              cases hq : bitW nn l (W + j) y
              · rw [show b01 false = 0 from rfl]
                rintro e w7 ⟨rfl, hb7⟩
                have BW7 : Hid (Below wA.heap.size wA w7) := below_on2 BW.out hb7
                have HQ : Hid (bitW nn l (W + j) y = false) := hq
                clear hb7 hq HBI
                go_wp2
                go_roundg (64 * nn - W - (j + 1))
                case measure => omega
                case rel =>
                  refine ⟨j + 1, by omega, by omega, by go_num, BW7.out, (show Aside _ from fun t ht => ?_)⟩
                  by_cases e : t = j
                  · subst e; exact HQ.out
                  · exact AE.out t (by omega)
              · rw [show b01 true = 1 from rfl]
                rintro e w7 ⟨rfl, hb7⟩
                have HB7 : Hid (Below w.heap.size w w7) := below_on2 HBr.out hb7
                have hpo : padOk W nn l y = false := by
                  rw [Bool.eq_false_iff]
                  intro hp
                  have := (padOk_iff _ _ _ _).1 hp (W + j - 64 * (nn - 1)) (by omega) (by omega)
                  rw [bitW, show (W + j) / 64 = nn - 1 by omega, show (W + j) % 64 = W + j - 64 * (nn - 1) by omega, this] at hq
                  cases hq
                have HF : Hid (rightPl p = false) := by
                  show _ = _
                  rw [HR.out, all_false_row _ _ kk (by rw [HWL.out]; exact hlt) (planeOk_pad y hlty (by rw [HLL.out, HNN.out]; exact hpo)), Bool.and_false]
                clear hb7 hq HBI hpo
                go_wp2
                go_ret
                exact ⟨ret_bool HF.out.symm, HB7.out⟩
            · have hltjz : ¬ (W : Int) + (j : Int) < 64 * (nn : Int) := by omega
              obtain rfl : j = 64 * nn - W := by omega
              have HPO : Hid (padOk W nn l y = true) := (padOk_iff _ _ _ _).2 (fun t ht hw => by
                have := AE.out (64 * (nn - 1) + t - W) (by omega)
                rw [bitW, show W + (64 * (nn - 1) + t - W) = 64 * (nn - 1) + t by omega, show (64 * (nn - 1) + t) / 64 = nn - 1 by omega, show (64 * (nn - 1) + t) % 64 = t by omega] at this
                exact this)
              go_wp2
              go_roundg (Hh - (y + 1))
              case measure => omega
              case rel =>
                refine ⟨y + 1, by omega, by omega, by go_num, BW.out, (show Aside _ from fun t ht => ?_)⟩
                by_cases e : t = y
                · subst e; exact HPO.out
                · exact AY.out t (by omega)
        · have hltyz : ¬ (y : Int) < (Hh : Int) := by omega
          obtain rfl : y = Hh := by omega
          have HPK : Hid (planeOk W y l = true) := planeOk_all (by rw [HNN.out, HLE.out, HM.out]) (fun j hj => by rw [HNN.out]; exact AY.out j hj)
          go_wp2
          go_roundg (n - (kk + 1))
          case measure => omega
          case rel =>
            refine ⟨kk + 1, by omega, by omega, by go_num, BW.out, (show Aside _ from fun j hj => ?_)⟩
            by_cases e : j = kk
            · subst e; rw [HLL.out]; exact HPK.out
            · exact AA.out j (by omega)
    · have hltz : ¬ (kk : Int) < (n : Int) := by omega
      obtain rfl : kk = n := by omega
      go_wp2
      go_ret
      refine ⟨ret_bool ?_, HBr.out⟩
      rw [HR.out, decide_eq_true (by omega), Bool.true_and]
      symm
      exact all_true_row _ _ (fun j hj => AA.out j (by rw [HWL.out] at hj; exact hj))
end Go.Proofs.Ytfknooffjhncgaa
