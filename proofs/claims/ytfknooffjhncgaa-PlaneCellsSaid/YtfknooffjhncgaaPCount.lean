/-
  Count of package plane and of its reference, walked.
-/
import Derived.Test.YtfknooffjhncgaaPUnpackR
namespace Go.Proofs.Ytfknooffjhncgaa
open Go.RowKit
set_option linter.unusedSimpArgs false
set_option linter.unusedVariables false
/-- A list of integers, at some place. -/
def IntsPost (l : List Int) (w : World) (e : Ending) (w' : World) : Prop := ∃ A n c, e = .returned (.slice A n c) ∧ Rd w' w'.heap.size 1 A n (ints l) ∧ n ≤ maxLen ∧ Below w.heap.size w w'
def bump (l : List Int) (i : Nat) : List Int := l.set i (l.getD i 0 + 1)
theorem bump_length (l : List Int) (i : Nat) : (bump l i).length = l.length := by simp [bump]
theorem bumpAt (l : List Int) (i : Nat) : (ints l).set i (.int .i64 (l.getD i 0 + 1)) = ints (bump l i) := by
  simp [ints, bump, List.map_set]
/-- How often each state lies among the first cells. -/
def countTo (N : Nat) (cs : List Int) (k : Nat) : List Int := (cs.take k).foldl (fun l s => bump l s.toNat) (zeros N)
theorem countTo_zero (N : Nat) (cs : List Int) : countTo N cs 0 = zeros N := rfl
theorem countTo_snoc (N : Nat) (cs : List Int) (k : Nat) (h : k < cs.length) : countTo N cs (k + 1) = bump (countTo N cs k) (cs.getD k 0).toNat := by
  unfold countTo
  rw [List.take_add_one, List.getElem?_eq_getElem h, List.foldl_append, List.getD_eq_getElem?_getD, List.getElem?_eq_getElem h]
  rfl
theorem countTo_length (N : Nat) (cs : List Int) (k : Nat) : (countTo N cs k).length = N := by
  unfold countTo
  have : ∀ (l : List Int) (ys : List Int), (ys.foldl (fun l s => bump l s.toNat) l).length = l.length := by
    intro l ys
    induction ys generalizing l with
    | nil => rfl
    | cons y ys ih => rw [List.foldl_cons, ih, bump_length]
  rw [this]; simp [zeros]
theorem bump_get (l : List Int) (i j : Nat) : (bump l i).getD j 0 = l.getD j 0 ∨ (bump l i).getD j 0 = l.getD j 0 + 1 := by
  unfold bump
  rw [List.getD_eq_getElem?_getD, List.getElem?_set]
  split
  · rename_i e
    subst e
    split
    · right; rfl
    · left; rw [List.getD_eq_getElem?_getD, List.getElem?_eq_none (by omega)]
  · left; rw [List.getD_eq_getElem?_getD]
theorem countTo_bd (N : Nat) (cs : List Int) (k j : Nat) (h : k ≤ cs.length) : 0 ≤ (countTo N cs k).getD j 0 ∧ (countTo N cs k).getD j 0 ≤ k := by
  induction k with
  | zero =>
    rw [countTo_zero]
    have : (zeros N).getD j 0 = 0 := by unfold zeros; rw [List.getD_eq_getElem?_getD, List.getElem?_replicate]; split <;> rfl
    omega
  | succ k ih =>
    have := ih (by omega)
    rw [countTo_snoc N cs k (by omega)]
    rcases bump_get (countTo N cs k) (cs.getD k 0).toNat j with e | e <;> rw [e] <;> omega
def countF (p : Pln) : List Int := if rightPl p = true then countTo (2 ^ p.words.length) (cellsP p) (cellsP p).length else []
theorem cellsP_bd (p : Pln) (k : Nat) : 0 ≤ (cellsP p).getD k 0 ∧ (cellsP p).getD k 0 < 2 ^ p.words.length := by
  have hp : (0 : Int) < 2 ^ p.words.length := Int.pow_pos (by omega)
  by_cases hk : k < p.h.toNat * p.w.toNat
  · have : (cellsP p).getD k 0 = stateTo (wpr p.w.toNat) p.words (k % p.w.toNat) (k / p.w.toNat) p.words.length := by
      unfold cellsP
      rw [List.getD_eq_getElem?_getD, List.getElem?_map, List.getElem?_range hk]; rfl
    rw [this]
    exact stateTo_bd _ _ _ _ _
  · have : (cellsP p).getD k 0 = 0 := by
      rw [List.getD_eq_getElem?_getD, List.getElem?_eq_none (by rw [cellsP_length]; omega)]; rfl
    rw [this]; omega

set_option maxRecDepth 100000 in
set_option maxHeartbeats 4000000 in
theorem plCount_any (p : Pln) (A : Option Addr) (n c : Nat) (sl : List Sl) (w : World) (h : PAt w p A n sl) :
    Calls Try.prog 21 #[.agg #[.int .i64 p.w, .int .i64 p.h, .int .i64 p.edge, .slice A n c]] w (IntsPost (countF p) w) := by
  have H : Hid (PAt w p A n sl) := h
  have HWL : Hid (p.words.length = n) := h.wl
  have hm := h.n63
  unfold maxLen at hm
  clear h
  go_enter Try.func21, Try.ntmps21
  go_wp2_with fail
  refine (plUnpack_any p A n c sl _ (H.out.up (by go_grown))).mono ?_
  rintro e w1 ⟨XA, xn, xc, rfl, hg, hb⟩
  have HB : Hid (Below w.heap.size w w1) := below_next hb (by go_grown)
  have RA : Hid (Row w1 w.heap.size 28 [.int .i64 p.w, .int .i64 p.h, .int .i64 p.edge, .slice A n c]) := rowCells (Row.new w 28 [.int .i64 p.w, .int .i64 p.h, .int .i64 p.edge, .slice A n c]) hb
  clear hb
  cases hr : rightPl p
  · have HC : Hid (countF p = []) := (by show _ = _; unfold countF; rw [hr]; rfl)
    have h1 : unpackR p = noGrd := by unfold unpackR; rw [hr]; rfl
    have h2 : unpackErr p = 2 := by unfold unpackErr; rw [hr]; rfl
    rw [h1] at hg ⊢
    rw [h2]
    clear hr h1 h2 hg
    have BB := HB.out
    have hsz := BB.size
    go_wp2
    go_ret
    rw [HC.out]
    exact ⟨none, 0, 0, rfl, Rd.empty none, by unfold maxLen; omega, by go_grown⟩
  have h1 : unpackR p = unpackG p := by unfold unpackR; rw [hr]; rfl
  have h2 : unpackErr p = 0 := by unfold unpackErr; rw [hr]; rfl
  have hn3 : 1 ≤ n ∧ n ≤ 3 := by
    have := (rightPl_parts hr).2.1
    rw [HWL.out] at this; exact this
  rw [h1] at hg ⊢
  rw [h2]
  have HC : Hid (countF p = countTo (2 ^ n) (cellsP p) (cellsP p).length) := (by show _ = _; unfold countF; rw [hr, HWL.out]; rfl)
  have HG : Hid (Rd w1 w1.heap.size 1 XA xn (ints (cellsP p))) := hg.cells
  have hxm := hg.c63
  unfold maxLen at hxm
  have HXN : Hid ((cellsP p).length = xn) := (by have := HG.out.1; rw [ints_length, Nat.mul_one] at this; exact this)
  clear h1 h2 hr hg
  unfold unpackG
  dsimp only
  obtain ⟨N, hN⟩ : ∃ N : Nat, N = 2 ^ n := ⟨_, rfl⟩
  have hN8 : N ≤ 8 ∧ wrap64 ((2 : Int) ^ n) = (N : Int) := by
    rw [hN]
    have hc : n = 1 ∨ n = 2 ∨ n = 3 := by omega
    rcases hc with rfl | rfl | rfl <;> exact ⟨by decide, by simp [wrap64]⟩
  obtain ⟨hN8, hwN⟩ := hN8
  rw [← hN] at HC
  have HSB : Hid (∀ k, 0 ≤ (cellsP p).getD k 0 ∧ (cellsP p).getD k 0 < (N : Int)) := fun k => by
    have := cellsP_bd p k
    rw [HWL.out] at this
    rw [hN, Int.natCast_pow]; exact this
  have hmk := fun W => make_like (P := Try.prog) Try.underlying22 int_infoR rfl N (N : Int) rfl (by omega) (by omega) W
  clear hN
  have k0 := RA.out.cell 0
  have k1 := RA.out.cell 1
  have k2 := RA.out.cell 2
  have k3 := RA.out.cell 3
  have kl := RA.out.lt
  simp only [List.getElem?_cons_zero, List.getElem?_cons_succ] at k0 k1 k2 k3
  go_wp2
  clear hmk k0 k1 k2 k3 kl hwN
  go_loopg [7, 24] xn (fun gg _ s24 wr => ∃ kk : Nat, kk ≤ xn ∧ xn - kk ≤ gg ∧ s24 = .int .i64 kk ∧ Aside (Below w1.heap.size w1 wr) ∧ Aside (Row wr w1.heap.size 24 [.int .i64 p.w, .int .i64 p.h, .int .i64 p.edge, .slice XA xn xc]) ∧ Aside (Row wr (w1.heap.size + 1) 3 (ints (countTo N (cellsP p) kk))))
  case atStart =>
    refine ⟨0, Nat.zero_le _, by omega, rfl, (show Below _ _ _ by go_grown), (show Row _ _ _ _ from (Row.new w1 24 [.int .i64 p.w, .int .i64 p.h, .int .i64 p.edge, .slice XA xn xc]).alloc _), ?_⟩
    show Row _ _ _ _
    rw [countTo_zero, ints_zeros]
    exact rowNew1 w1 _ 3 (List.replicate N (.int .i64 0))
  case round =>
    obtain ⟨kk, hkk, hgg, rfl, BW, RX, RZ⟩ := hrel
    have HBr : Hid (Below w.heap.size w wr) := below_on2 HB.out BW.out
    have RZ : Hid (Row wr (w1.heap.size + 1) 3 (ints (countTo N (cellsP p) kk))) := RZ.out
    have e0 := RX.out.cell 0
    have e1 := RX.out.cell 1
    have e2 := RX.out.cell 2
    have e3 := RX.out.cell 3
    have el := RX.out.lt
    simp only [List.getElem?_cons_zero, List.getElem?_cons_succ] at e0 e1 e2 e3
    by_cases hlt : kk < xn
    · have hltz : (kk : Int) < (xn : Int) := by omega
      obtain ⟨ad, u, rfl, hbl, hu, hc⟩ := (HG.out.up BW.out).get1 hlt
      rw [ints_get _ kk (by rw [HXN.out]; exact hlt)] at hu
      injection hu with hu
      subst hu
      have hsb := HSB.out kk
      have HS := countTo_snoc N (cellsP p) kk (by rw [HXN.out]; exact hlt)
      have hbdk := fun j => countTo_bd N (cellsP p) kk j (by rw [HXN.out]; omega)
      generalize (cellsP p).getD kk 0 = st at hc hsb HS
      obtain ⟨pz, rfl⟩ : ∃ pz : Nat, st = (pz : Int) := ⟨st.toNat, by omega⟩
      rw [Int.toNat_natCast] at HS
      have hp1 : (pz : Int) < (N : Int) := hsb.2
      have hp0 : (0 : Int) ≤ (pz : Int) := by omega
      have hbd := hbdk pz
      have hlen := countTo_length N (cellsP p) kk
      generalize countTo N (cellsP p) kk = zs at RZ HS hbd hlen hbdk
      have hcell : wr.cell? ⟨w1.heap.size + 1, pz, none⟩ = some (.int .i64 (zs.getD pz 0)) := by rw [RZ.out.cell]; exact ints_get zs pz (by omega)
      have hfr : wr.frozen? ⟨w1.heap.size + 1, pz, none⟩ = false := RZ.out.frozen pz
      have hbz := RZ.out.lt
      have HS' : Hid (countTo N (cellsP p) (kk + 1) = bump zs pz) := HS
      generalize hv : zs.getD pz 0 = v at hcell hbd
      have HV : Hid (zs.getD pz 0 = v) := hv
      have hw1 : IntKind.i64.wrap (pz : Int) = (pz : Int) := IntWalk.i64_in _ (by omega)
      have hw2 : IntKind.i64.wrap (v + 1) = v + 1 := IntWalk.i64_in _ (by omega)
      clear hv HS hlen hbdk
      go_wp2
      go_roundg (xn - (kk + 1))
      case measure => omega
      case rel =>
        refine ⟨kk + 1, by omega, by omega, by go_num, ?_, ?_, ?_⟩
        · show Below _ _ _
          exact BW.out.setCell (p := ⟨w1.heap.size + 1, pz, none⟩) (Nat.le_succ _) _
        · show Row _ _ _ _
          exact RX.out.far (p := ⟨w1.heap.size + 1, pz, none⟩) (by show w1.heap.size ≠ w1.heap.size + 1; omega) _
        · show Row _ _ _ _
          rw [HS'.out, ← bumpAt, HV.out]
          exact RZ.out.set pz _
    · have hltz : ¬ (kk : Int) < (xn : Int) := by omega
      obtain rfl : kk = xn := by omega
      go_wp2
      go_ret
      refine ⟨_, _, _, rfl, ?_, by unfold maxLen; omega, HBr.out⟩
      rw [HC.out, HXN.out]
      exact RZ.out.rd (by rw [ints_length, countTo_length, Nat.mul_one])
set_option maxRecDepth 100000 in
set_option maxHeartbeats 4000000 in
theorem rPlCount_any (p : Pln) (A : Option Addr) (n c : Nat) (sl : List Sl) (w : World) (h : PAt w p A n sl) :
    Calls Try.prog 22 #[.agg #[.int .i64 p.w, .int .i64 p.h, .int .i64 p.edge, .slice A n c]] w (IntsPost (countF p) w) := by
  have H : Hid (PAt w p A n sl) := h
  have HWL : Hid (p.words.length = n) := h.wl
  have hm := h.n63
  unfold maxLen at hm
  clear h
  go_enter Try.func22, Try.ntmps22
  go_wp2_with fail
  refine (rPlUnpack_any p A n c sl _ (H.out.up (by go_grown))).mono ?_
  rintro e w1 ⟨XA, xn, xc, rfl, hg, hb⟩
  have HB : Hid (Below w.heap.size w w1) := below_next hb (by go_grown)
  have RA : Hid (Row w1 w.heap.size 28 [.int .i64 p.w, .int .i64 p.h, .int .i64 p.edge, .slice A n c]) := rowCells (Row.new w 28 [.int .i64 p.w, .int .i64 p.h, .int .i64 p.edge, .slice A n c]) hb
  clear hb
  cases hr : rightPl p
  · have HC : Hid (countF p = []) := (by show _ = _; unfold countF; rw [hr]; rfl)
    have h1 : unpackR p = noGrd := by unfold unpackR; rw [hr]; rfl
    have h2 : unpackErr p = 2 := by unfold unpackErr; rw [hr]; rfl
    rw [h1] at hg ⊢
    rw [h2]
    clear hr h1 h2 hg
    have BB := HB.out
    have hsz := BB.size
    go_wp2
    go_ret
    rw [HC.out]
    exact ⟨none, 0, 0, rfl, Rd.empty none, by unfold maxLen; omega, by go_grown⟩
  have h1 : unpackR p = unpackG p := by unfold unpackR; rw [hr]; rfl
  have h2 : unpackErr p = 0 := by unfold unpackErr; rw [hr]; rfl
  have hn3 : 1 ≤ n ∧ n ≤ 3 := by
    have := (rightPl_parts hr).2.1
    rw [HWL.out] at this; exact this
  rw [h1] at hg ⊢
  rw [h2]
  have HC : Hid (countF p = countTo (2 ^ n) (cellsP p) (cellsP p).length) := (by show _ = _; unfold countF; rw [hr, HWL.out]; rfl)
  have HG : Hid (Rd w1 w1.heap.size 1 XA xn (ints (cellsP p))) := hg.cells
  have hxm := hg.c63
  unfold maxLen at hxm
  have HXN : Hid ((cellsP p).length = xn) := (by have := HG.out.1; rw [ints_length, Nat.mul_one] at this; exact this)
  clear h1 h2 hr hg
  unfold unpackG
  dsimp only
  obtain ⟨N, hN⟩ : ∃ N : Nat, N = 2 ^ n := ⟨_, rfl⟩
  have hN8 : N ≤ 8 ∧ wrap64 ((2 : Int) ^ n) = (N : Int) := by
    rw [hN]
    have hc : n = 1 ∨ n = 2 ∨ n = 3 := by omega
    rcases hc with rfl | rfl | rfl <;> exact ⟨by decide, by simp [wrap64]⟩
  obtain ⟨hN8, hwN⟩ := hN8
  rw [← hN] at HC
  have HSB : Hid (∀ k, 0 ≤ (cellsP p).getD k 0 ∧ (cellsP p).getD k 0 < (N : Int)) := fun k => by
    have := cellsP_bd p k
    rw [HWL.out] at this
    rw [hN, Int.natCast_pow]; exact this
  have hmk := fun W => make_like (P := Try.prog) Try.underlying22 int_infoR rfl N (N : Int) rfl (by omega) (by omega) W
  clear hN
  have k0 := RA.out.cell 0
  have k1 := RA.out.cell 1
  have k2 := RA.out.cell 2
  have k3 := RA.out.cell 3
  have kl := RA.out.lt
  simp only [List.getElem?_cons_zero, List.getElem?_cons_succ] at k0 k1 k2 k3
  go_wp2
  clear hmk k0 k1 k2 k3 kl hwN
  go_loopg [6] xn (fun gg s6 wr => ∃ kk : Nat, kk ≤ xn ∧ xn - kk ≤ gg ∧ s6 = .int .i64 kk ∧ Aside (Below w1.heap.size w1 wr) ∧ Aside (Row wr w1.heap.size 24 [.int .i64 p.w, .int .i64 p.h, .int .i64 p.edge, .slice XA xn xc]) ∧ Aside (Row wr (w1.heap.size + 1) 3 (ints (countTo N (cellsP p) kk))))
  case atStart =>
    refine ⟨0, Nat.zero_le _, by omega, rfl, (show Below _ _ _ by go_grown), (show Row _ _ _ _ from (Row.new w1 24 [.int .i64 p.w, .int .i64 p.h, .int .i64 p.edge, .slice XA xn xc]).alloc _), ?_⟩
    show Row _ _ _ _
    rw [countTo_zero, ints_zeros]
    exact rowNew1 w1 _ 3 (List.replicate N (.int .i64 0))
  case round =>
    obtain ⟨kk, hkk, hgg, rfl, BW, RX, RZ⟩ := hrel
    have HBr : Hid (Below w.heap.size w wr) := below_on2 HB.out BW.out
    have RZ : Hid (Row wr (w1.heap.size + 1) 3 (ints (countTo N (cellsP p) kk))) := RZ.out
    have e0 := RX.out.cell 0
    have e1 := RX.out.cell 1
    have e2 := RX.out.cell 2
    have e3 := RX.out.cell 3
    have el := RX.out.lt
    simp only [List.getElem?_cons_zero, List.getElem?_cons_succ] at e0 e1 e2 e3
    by_cases hlt : kk < xn
    · have hltz : (kk : Int) < (xn : Int) := by omega
      obtain ⟨ad, u, rfl, hbl, hu, hc⟩ := (HG.out.up BW.out).get1 hlt
      rw [ints_get _ kk (by rw [HXN.out]; exact hlt)] at hu
      injection hu with hu
      subst hu
      have hsb := HSB.out kk
      have HS := countTo_snoc N (cellsP p) kk (by rw [HXN.out]; exact hlt)
      have hbdk := fun j => countTo_bd N (cellsP p) kk j (by rw [HXN.out]; omega)
      generalize (cellsP p).getD kk 0 = st at hc hsb HS
      obtain ⟨pz, rfl⟩ : ∃ pz : Nat, st = (pz : Int) := ⟨st.toNat, by omega⟩
      rw [Int.toNat_natCast] at HS
      have hp1 : (pz : Int) < (N : Int) := hsb.2
      have hp0 : (0 : Int) ≤ (pz : Int) := by omega
      have hbd := hbdk pz
      have hlen := countTo_length N (cellsP p) kk
      generalize countTo N (cellsP p) kk = zs at RZ HS hbd hlen hbdk
      have hcell : wr.cell? ⟨w1.heap.size + 1, pz, none⟩ = some (.int .i64 (zs.getD pz 0)) := by rw [RZ.out.cell]; exact ints_get zs pz (by omega)
      have hfr : wr.frozen? ⟨w1.heap.size + 1, pz, none⟩ = false := RZ.out.frozen pz
      have hbz := RZ.out.lt
      have HS' : Hid (countTo N (cellsP p) (kk + 1) = bump zs pz) := HS
      generalize hv : zs.getD pz 0 = v at hcell hbd
      have HV : Hid (zs.getD pz 0 = v) := hv
      have hw1 : IntKind.i64.wrap (pz : Int) = (pz : Int) := IntWalk.i64_in _ (by omega)
      have hw2 : IntKind.i64.wrap (v + 1) = v + 1 := IntWalk.i64_in _ (by omega)
      clear hv HS hlen hbdk
      go_wp2
      go_roundg (xn - (kk + 1))
      case measure => omega
      case rel =>
        refine ⟨kk + 1, by omega, by omega, by go_num, ?_, ?_, ?_⟩
        · show Below _ _ _
          exact BW.out.setCell (p := ⟨w1.heap.size + 1, pz, none⟩) (Nat.le_succ _) _
        · show Row _ _ _ _
          exact RX.out.far (p := ⟨w1.heap.size + 1, pz, none⟩) (by show w1.heap.size ≠ w1.heap.size + 1; omega) _
        · show Row _ _ _ _
          rw [HS'.out, ← bumpAt, HV.out]
          exact RZ.out.set pz _
    · have hltz : ¬ (kk : Int) < (xn : Int) := by omega
      obtain rfl : kk = xn := by omega
      go_wp2
      go_ret
      refine ⟨_, _, _, rfl, ?_, by unfold maxLen; omega, HBr.out⟩
      rw [HC.out, HXN.out]
      exact RZ.out.rd (by rw [ints_length, countTo_length, Nat.mul_one])

end Go.Proofs.Ytfknooffjhncgaa
