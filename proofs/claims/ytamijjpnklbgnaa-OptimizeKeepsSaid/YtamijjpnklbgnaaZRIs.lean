/-
  The reference of package optimize: operands, is, opposite, replaced, outputs, copied, walked.
-/
import Derived.Test.YtamijjpnklbgnaaZIs
import Derived.Test.YtamijjpnklbgnaaZSD
import Derived.Test.YtamijjpnklbgnaaApp
import Derived.Deep.Cut
namespace Go.Proofs.Ytamijjpnklbgnaa
open Go.RowKit
set_option linter.unusedSimpArgs false
set_option linter.unusedVariables false
set_option maxRecDepth 100000 in
set_option maxHeartbeats 1000000 in
theorem rOps_any (op : Int) (w : World) : Calls Try.prog 45 #[.int .i64 op] w fun e w' => e = .returned (.int .i64 (operandsO op)) ∧ w = w' := by
  by_cases h0 : op = 0
  · subst h0
    go_enter Try.func45, Try.ntmps45
    go_wp2
    go_ret
    exact ⟨rfl, rfl⟩
  by_cases h1 : op = 1
  · subst h1
    go_enter Try.func45, Try.ntmps45
    go_wp2
    go_ret
    exact ⟨rfl, rfl⟩
  by_cases h2 : op = 2
  · subst h2
    go_enter Try.func45, Try.ntmps45
    go_wp2
    go_ret
    exact ⟨rfl, rfl⟩
  have HV : Hid (∀ _ : Unit, operandsO op = 2) := fun _ => by unfold operandsO; rw [if_neg (by omega), if_neg h2]
  have e0 : (op == 0) = false := by simpa using h0
  have e1 : (op == 1) = false := by simpa using h1
  have e2 : (op == 2) = false := by simpa using h2
  go_enter Try.func45, Try.ntmps45
  go_wp2
  go_ret
  exact ⟨ret_i64 (HV.out ()).symm, rfl⟩
set_option maxRecDepth 100000 in
set_option maxHeartbeats 2000000 in
theorem rIs_any (n : Int) (gs : List Gt) (GA OA : Option Addr) (gn gc on oc : Nat) (x op : Int) (w : World) (hG : Rd w w.heap.size 3 GA gn (gatesCells gs)) (hn : 0 ≤ n ∧ n ≤ 1000) (hg : gn ≤ 20000) (hx : x < n + (gn : Int)) (hx0 : -1000000 ≤ x) :
    Calls Try.prog 64 #[.agg #[.int .i64 n, .slice GA gn gc, .slice OA on oc], .int .i64 x, .int .i64 op] w fun e w' => e = .returned (.bool (isW n gs x op)) ∧ Below w.heap.size w w' := by
  have HG : Hid (Rd w w.heap.size 3 GA gn (gatesCells gs)) := hG
  clear hG
  by_cases hle : n ≤ x
  · obtain ⟨j, rfl⟩ : ∃ j : Nat, x = n + (j : Int) := ⟨(x - n).toNat, by omega⟩
    have hj : j < gn := by omega
    obtain ⟨ad, rfl, hab, c0, _, _⟩ := HG.out.gate hj
    have HV : Hid (∀ _ : Unit, isW n gs (n + (j : Int)) op = decide ((gs.getD j default).op = op)) := fun _ => isW_at _ _ _ _
    generalize (gs.getD j default).op = z at c0 HV
    have hd : decide (n ≤ n + (j : Int)) = true := decide_eq_true hle
    have hi1 : (j : Int) < (gn : Int) := by omega
    have hw3 : n + (j : Int) - n = (j : Int) := by omega
    have hw1 : IntKind.i64.wrap (n + (j : Int) - n) = (j : Int) := by
      rw [show n + (j : Int) - n = (j : Int) by omega]
      exact IntWalk.i64_in _ (by omega)
    have HC0 : Hid (∀ W9, Below w.heap.size w W9 → W9.cell? (ad.add (j * 3)) = some (.int .i64 z)) := fun W9 h9 => (h9.cell (by rw [add_block]; exact hab)).trans c0
    have HAB : Hid (∀ W9, Below w.heap.size w W9 → ad.block < W9.heap.size) := fun W9 h9 => Nat.lt_of_lt_of_le hab h9.size
    clear hx hle c0 hab
    go_enter Try.func64, Try.ntmps64
    go_upto_region 1 with fail
    have RC : Hid (Row (World.alloc w (.cells #[.int .i64 n, .slice (some ad) gn gc, .slice OA on oc] 25)) (w.heap.size) 25 [.int .i64 n, .slice (some ad) gn gc, .slice OA on oc]) := by
      have h0 := Row.new w 25 [.int .i64 n, .slice (some ad) gn gc, .slice OA on oc]
      try simp only [World.size_alloc] at h0
      exact h0
    have hgr9 : Below w.heap.size w (World.alloc w (.cells #[.int .i64 n, .slice (some ad) gn gc, .slice OA on oc] 25)) := by go_grown
    have B_w : Hid (Below w.heap.size w (World.alloc w (.cells #[.int .i64 n, .slice (some ad) gn gc, .slice OA on oc] 25))) := hgr9
    clear hgr9
    revert RC B_w
    generalize (World.alloc w (.cells #[.int .i64 n, .slice (some ad) gn gc, .slice OA on oc] 25)) = wa
    intro RC B_w
    have c0 := HC0.out wa B_w.out
    have hab := HAB.out wa B_w.out
    have k0 := RC.out.cell 0
    have k1 := RC.out.cell 1
    have k2 := RC.out.cell 2
    have kl := RC.out.lt
    simp only [List.getElem?_cons_zero, List.getElem?_cons_succ] at k0 k1 k2
    go_wp2_with fail
    go_ret
    exact ⟨ret_bool (by first | exact (HV.out ()).symm | (rw [HV.out ()]; first | rfl | (simp; done) | (rw [Bool.eq_iff_iff]; simp; omega))), B_w.out⟩
  · have HV : Hid (∀ _ : Unit, isW n gs x op = false) := fun _ => isW_low hle
    have hd : decide (n ≤ x) = false := decide_eq_false hle
    clear hx
    go_enter Try.func64, Try.ntmps64
    go_upto_region 1 with fail
    have RC : Hid (Row (World.alloc w (.cells #[.int .i64 n, .slice GA gn gc, .slice OA on oc] 25)) (w.heap.size) 25 [.int .i64 n, .slice GA gn gc, .slice OA on oc]) := by
      have h0 := Row.new w 25 [.int .i64 n, .slice GA gn gc, .slice OA on oc]
      try simp only [World.size_alloc] at h0
      exact h0
    have hgr9 : Below w.heap.size w (World.alloc w (.cells #[.int .i64 n, .slice GA gn gc, .slice OA on oc] 25)) := by go_grown
    have B_w : Hid (Below w.heap.size w (World.alloc w (.cells #[.int .i64 n, .slice GA gn gc, .slice OA on oc] 25))) := hgr9
    clear hgr9
    revert RC B_w
    generalize (World.alloc w (.cells #[.int .i64 n, .slice GA gn gc, .slice OA on oc] 25)) = wa
    intro RC B_w
    have k0 := RC.out.cell 0
    have k1 := RC.out.cell 1
    have k2 := RC.out.cell 2
    have kl := RC.out.lt
    simp only [List.getElem?_cons_zero, List.getElem?_cons_succ] at k0 k1 k2
    go_wp2_with fail
    go_ret
    exact ⟨ret_bool (by rw [HV.out ()]), B_w.out⟩
/-- What opposite needs of a wire. -/
theorem isW_data {n : Int} {gs : List Gt} {GA : Option Addr} {gn : Nat} {w : World} (hG : Rd w w.heap.size 3 GA gn (gatesCells gs)) {x : Int} (h : isW n gs x 2 = true) (hx : x < n + (gn : Int)) :
    ∃ (j : Nat) (ad : Addr), x = n + (j : Int) ∧ j < gn ∧ GA = some ad ∧ ad.block < w.heap.size ∧ (∀ W9, Below w.heap.size w W9 → W9.cell? ⟨(ad.add (j * 3)).block, (ad.add (j * 3)).off + 1, none⟩ = some (.int .i64 (argW n gs x))) := by
  have hle : n ≤ x := by
    unfold isW at h
    rw [Bool.and_eq_true, decide_eq_true_iff] at h
    exact h.1
  obtain ⟨j, rfl⟩ : ∃ j : Nat, x = n + (j : Int) := ⟨(x - n).toNat, by omega⟩
  have hj : j < gn := by omega
  obtain ⟨ad, e, hab, _, c1, _⟩ := hG.gate hj
  refine ⟨j, ad, rfl, hj, e, hab, fun W9 h9 => ?_⟩
  rw [argW_at]
  exact (h9.cell (by show (ad.add (j * 3)).block < _; rw [add_block]; exact hab)).trans c1
set_option maxRecDepth 100000 in
set_option maxHeartbeats 4000000 in
theorem rOpp_any (n : Int) (gs : List Gt) (GA OA : Option Addr) (gn gc on oc : Nat) (x y : Int) (w : World) (hG : Rd w w.heap.size 3 GA gn (gatesCells gs)) (hn : 0 ≤ n ∧ n ≤ 1000) (hg : gn ≤ 20000) (hx : x < n + (gn : Int)) (hx0 : -1000000 ≤ x) (hy : y < n + (gn : Int)) (hy0 : -1000000 ≤ y) :
    Calls Try.prog 65 #[.agg #[.int .i64 n, .slice GA gn gc, .slice OA on oc], .int .i64 x, .int .i64 y] w fun e w' => e = .returned (.bool (oppW n gs x y)) ∧ Below w.heap.size w w' := by
  have HG : Hid (Rd w w.heap.size 3 GA gn (gatesCells gs)) := hG
  clear hG
  obtain ⟨q1, h1⟩ : ∃ q, isW n gs x 2 = q := ⟨_, rfl⟩
  obtain ⟨q2, h2⟩ : ∃ q, isW n gs y 2 = q := ⟨_, rfl⟩
  have HI1 : Hid (∀ _ : Unit, isW n gs x 2 = q1) := fun _ => h1
  have HI2 : Hid (∀ _ : Unit, isW n gs y 2 = q2) := fun _ => h2
  have HOE : Hid (∀ _ : Unit, oppW n gs x y = (q1 && decide (argW n gs x = y) || q2 && decide (argW n gs y = x))) := fun _ => by unfold oppW negW; rw [h1, h2]
  cases q1
  · cases q2
    · have HV : Hid (∀ _ : Unit, oppW n gs x y = false) := fun _ => by rw [HOE.out ()]; rfl
      clear h1 h2 HOE
      go_enter Try.func65, Try.ntmps65
      go_upto_region 1 with fail
      have RC : Hid (Row (World.alloc w (.cells #[.int .i64 n, .slice GA gn gc, .slice OA on oc] 25)) (w.heap.size) 25 [.int .i64 n, .slice GA gn gc, .slice OA on oc]) := by
        have h0 := Row.new w 25 [.int .i64 n, .slice GA gn gc, .slice OA on oc]
        try simp only [World.size_alloc] at h0
        exact h0
      have hgr9 : Below w.heap.size w (World.alloc w (.cells #[.int .i64 n, .slice GA gn gc, .slice OA on oc] 25)) := by go_grown
      have B_w : Hid (Below w.heap.size w (World.alloc w (.cells #[.int .i64 n, .slice GA gn gc, .slice OA on oc] 25))) := hgr9
      clear hgr9
      revert RC B_w
      generalize (World.alloc w (.cells #[.int .i64 n, .slice GA gn gc, .slice OA on oc] 25)) = wa
      intro RC B_w
      have kR : Hid (Row wa (w.heap.size) 25 [.int .i64 n, .slice GA gn gc, .slice OA on oc]) := RC.out
      have k0 := kR.out.cell 0
      have k1 := kR.out.cell 1
      have k2 := kR.out.cell 2
      have kl := kR.out.lt
      simp only [List.getElem?_cons_zero, List.getElem?_cons_succ] at k0 k1 k2
      clear kR
      go_wp2_with fail
      have HC := rIs_any n gs GA OA gn gc on oc (x) 2 wa ((HG.out.up B_w.out)) hn hg hx hx0
      rw [HI1.out ()] at HC
      refine HC.mono ?_
      clear HC
      rintro e w1 ⟨rfl, hb⟩
      have B_w : Hid (Below w.heap.size w w1) := below_on2 B_w.out hb
      have B_wa : Hid (Below wa.heap.size wa w1) := hb
      clear k0 k1 k2 kl
      clear hb
      have kR : Hid (Row w1 (w.heap.size) 25 [.int .i64 n, .slice GA gn gc, .slice OA on oc]) := (rowCells RC.out B_wa.out)
      have k0 := kR.out.cell 0
      have k1 := kR.out.cell 1
      have k2 := kR.out.cell 2
      have kl := kR.out.lt
      simp only [List.getElem?_cons_zero, List.getElem?_cons_succ] at k0 k1 k2
      clear kR
      go_wp2_with fail
      have HC := rIs_any n gs GA OA gn gc on oc (y) 2 w1 ((HG.out.up B_w.out)) hn hg hy hy0
      rw [HI2.out ()] at HC
      refine HC.mono ?_
      clear HC
      rintro e w2 ⟨rfl, hb⟩
      have B_w : Hid (Below w.heap.size w w2) := below_on2 B_w.out hb
      have B_wa : Hid (Below wa.heap.size wa w2) := below_on2 B_wa.out hb
      have B_w1 : Hid (Below w1.heap.size w1 w2) := hb
      clear k0 k1 k2 kl
      clear hb
      have kR : Hid (Row w2 (w.heap.size) 25 [.int .i64 n, .slice GA gn gc, .slice OA on oc]) := (rowCells RC.out B_wa.out)
      have k0 := kR.out.cell 0
      have k1 := kR.out.cell 1
      have k2 := kR.out.cell 2
      have kl := kR.out.lt
      simp only [List.getElem?_cons_zero, List.getElem?_cons_succ] at k0 k1 k2
      clear kR
      go_wp2_with fail
      go_ret
      exact ⟨ret_bool (by first | exact (HV.out ()).symm | (rw [HV.out ()]; first | rfl | (simp; done) | (rw [Bool.eq_iff_iff]; simp; omega))), B_w.out⟩
    · obtain ⟨j, ad, rfl, hj, rfl, hab, hcy⟩ := isW_data HG.out h2 hy
      have HV : Hid (∀ _ : Unit, oppW n gs x (n + (j : Int)) = decide (argW n gs (n + (j : Int)) = x)) := fun _ => by rw [HOE.out ()]; rw [Bool.false_and, Bool.false_or, Bool.true_and]
      have HCY0 : Hid (∀ W9, Below w.heap.size w W9 → W9.cell? ⟨(ad.add (j * 3)).block, (ad.add (j * 3)).off + 1, none⟩ = some (.int .i64 (argW n gs (n + (j : Int))))) := hcy
      generalize argW n gs (n + (j : Int)) = zy at HCY0 HV
      have HCY := HCY0
      have hi2 : (j : Int) < (gn : Int) := by omega
      have hw4 : n + (j : Int) - n = (j : Int) := by omega
      have HAX : Hid (∀ W9, Below w.heap.size w W9 → ad.block < W9.heap.size) := fun W9 h9 => Nat.lt_of_lt_of_le hab h9.size
      have hw2 : IntKind.i64.wrap (n + (j : Int) - n) = (j : Int) := by
        rw [show n + (j : Int) - n = (j : Int) by omega]
        exact IntWalk.i64_in _ (by omega)
      clear h1 h2 HOE hcy HCY0 hab
      go_enter Try.func65, Try.ntmps65
      go_upto_region 1 with fail
      have RC : Hid (Row (World.alloc w (.cells #[.int .i64 n, .slice (some ad) gn gc, .slice OA on oc] 25)) (w.heap.size) 25 [.int .i64 n, .slice (some ad) gn gc, .slice OA on oc]) := by
        have h0 := Row.new w 25 [.int .i64 n, .slice (some ad) gn gc, .slice OA on oc]
        try simp only [World.size_alloc] at h0
        exact h0
      have hgr9 : Below w.heap.size w (World.alloc w (.cells #[.int .i64 n, .slice (some ad) gn gc, .slice OA on oc] 25)) := by go_grown
      have B_w : Hid (Below w.heap.size w (World.alloc w (.cells #[.int .i64 n, .slice (some ad) gn gc, .slice OA on oc] 25))) := hgr9
      clear hgr9
      revert RC B_w
      generalize (World.alloc w (.cells #[.int .i64 n, .slice (some ad) gn gc, .slice OA on oc] 25)) = wa
      intro RC B_w
      have kR : Hid (Row wa (w.heap.size) 25 [.int .i64 n, .slice (some ad) gn gc, .slice OA on oc]) := RC.out
      have k0 := kR.out.cell 0
      have k1 := kR.out.cell 1
      have k2 := kR.out.cell 2
      have kl := kR.out.lt
      simp only [List.getElem?_cons_zero, List.getElem?_cons_succ] at k0 k1 k2
      clear kR
      go_wp2_with fail
      have HC := rIs_any n gs (some ad) OA gn gc on oc (x) 2 wa ((HG.out.up B_w.out)) hn hg hx hx0
      rw [HI1.out ()] at HC
      refine HC.mono ?_
      clear HC
      rintro e w1 ⟨rfl, hb⟩
      have B_w : Hid (Below w.heap.size w w1) := below_on2 B_w.out hb
      have B_wa : Hid (Below wa.heap.size wa w1) := hb
      clear k0 k1 k2 kl
      clear hb
      have kR : Hid (Row w1 (w.heap.size) 25 [.int .i64 n, .slice (some ad) gn gc, .slice OA on oc]) := (rowCells RC.out B_wa.out)
      have k0 := kR.out.cell 0
      have k1 := kR.out.cell 1
      have k2 := kR.out.cell 2
      have kl := kR.out.lt
      simp only [List.getElem?_cons_zero, List.getElem?_cons_succ] at k0 k1 k2
      clear kR
      go_wp2_with fail
      have HC := rIs_any n gs (some ad) OA gn gc on oc (n + (j : Int)) 2 w1 ((HG.out.up B_w.out)) hn hg hy hy0
      rw [HI2.out ()] at HC
      refine HC.mono ?_
      clear HC
      rintro e w2 ⟨rfl, hb⟩
      have B_w : Hid (Below w.heap.size w w2) := below_on2 B_w.out hb
      have B_wa : Hid (Below wa.heap.size wa w2) := below_on2 B_wa.out hb
      have B_w1 : Hid (Below w1.heap.size w1 w2) := hb
      clear k0 k1 k2 kl
      clear hb
      have kR : Hid (Row w2 (w.heap.size) 25 [.int .i64 n, .slice (some ad) gn gc, .slice OA on oc]) := (rowCells RC.out B_wa.out)
      have k0 := kR.out.cell 0
      have k1 := kR.out.cell 1
      have k2 := kR.out.cell 2
      have kl := kR.out.lt
      simp only [List.getElem?_cons_zero, List.getElem?_cons_succ] at k0 k1 k2
      clear kR
      have cy := HCY.out _ B_w.out
      have hay := HAX.out _ B_w.out
      go_wp2_with fail
      go_ret
      exact ⟨ret_bool (by first | exact (HV.out ()).symm | (rw [HV.out ()]; first | rfl | (simp; done) | (rw [Bool.eq_iff_iff]; simp; omega))), B_w.out⟩
  · obtain ⟨i, ad, rfl, hi, rfl, hab, hcx⟩ := isW_data HG.out h1 hx
    have HCX0 : Hid (∀ W9, Below w.heap.size w W9 → W9.cell? ⟨(ad.add (i * 3)).block, (ad.add (i * 3)).off + 1, none⟩ = some (.int .i64 (argW n gs (n + (i : Int))))) := hcx
    generalize hzx : argW n gs (n + (i : Int)) = zx at HCX0 HOE
    have HCX := HCX0
    have hi1 : (i : Int) < (gn : Int) := by omega
    have hw3 : n + (i : Int) - n = (i : Int) := by omega
    have HAX : Hid (∀ W9, Below w.heap.size w W9 → ad.block < W9.heap.size) := fun W9 h9 => Nat.lt_of_lt_of_le hab h9.size
    have hw1 : IntKind.i64.wrap (n + (i : Int) - n) = (i : Int) := by
      rw [show n + (i : Int) - n = (i : Int) by omega]
      exact IntWalk.i64_in _ (by omega)
    clear hcx HCX0
    by_cases hz : zx = y
    · have HV : Hid (∀ _ : Unit, oppW n gs (n + (i : Int)) y = true) := fun _ => by rw [HOE.out (), decide_eq_true hz]; rfl
      subst hz
      clear h1 h2 HOE hzx hab
      go_enter Try.func65, Try.ntmps65
      go_upto_region 1 with fail
      have RC : Hid (Row (World.alloc w (.cells #[.int .i64 n, .slice (some ad) gn gc, .slice OA on oc] 25)) (w.heap.size) 25 [.int .i64 n, .slice (some ad) gn gc, .slice OA on oc]) := by
        have h0 := Row.new w 25 [.int .i64 n, .slice (some ad) gn gc, .slice OA on oc]
        try simp only [World.size_alloc] at h0
        exact h0
      have hgr9 : Below w.heap.size w (World.alloc w (.cells #[.int .i64 n, .slice (some ad) gn gc, .slice OA on oc] 25)) := by go_grown
      have B_w : Hid (Below w.heap.size w (World.alloc w (.cells #[.int .i64 n, .slice (some ad) gn gc, .slice OA on oc] 25))) := hgr9
      clear hgr9
      revert RC B_w
      generalize (World.alloc w (.cells #[.int .i64 n, .slice (some ad) gn gc, .slice OA on oc] 25)) = wa
      intro RC B_w
      have kR : Hid (Row wa (w.heap.size) 25 [.int .i64 n, .slice (some ad) gn gc, .slice OA on oc]) := RC.out
      have k0 := kR.out.cell 0
      have k1 := kR.out.cell 1
      have k2 := kR.out.cell 2
      have kl := kR.out.lt
      simp only [List.getElem?_cons_zero, List.getElem?_cons_succ] at k0 k1 k2
      clear kR
      go_wp2_with fail
      have HC := rIs_any n gs (some ad) OA gn gc on oc (n + (i : Int)) 2 wa ((HG.out.up B_w.out)) hn hg hx hx0
      rw [HI1.out ()] at HC
      refine HC.mono ?_
      clear HC
      rintro e w1 ⟨rfl, hb⟩
      have B_w : Hid (Below w.heap.size w w1) := below_on2 B_w.out hb
      have B_wa : Hid (Below wa.heap.size wa w1) := hb
      clear k0 k1 k2 kl
      clear hb
      have kR : Hid (Row w1 (w.heap.size) 25 [.int .i64 n, .slice (some ad) gn gc, .slice OA on oc]) := (rowCells RC.out B_wa.out)
      have k0 := kR.out.cell 0
      have k1 := kR.out.cell 1
      have k2 := kR.out.cell 2
      have kl := kR.out.lt
      simp only [List.getElem?_cons_zero, List.getElem?_cons_succ] at k0 k1 k2
      clear kR
      have cx := HCX.out _ B_w.out
      have hax := HAX.out _ B_w.out
      go_wp2_with fail
      go_ret
      exact ⟨ret_bool (by first | exact (HV.out ()).symm | (rw [HV.out ()]; first | rfl | (simp; done) | (rw [Bool.eq_iff_iff]; simp; omega))), B_w.out⟩
    · have hzd : decide (zx = y) = false := decide_eq_false hz
      have hzd2 : (zx == y) = false := by simpa using hz
      cases q2
      · have HV : Hid (∀ _ : Unit, oppW n gs (n + (i : Int)) y = false) := fun _ => by rw [HOE.out (), decide_eq_false hz]; rfl
        clear h1 h2 HOE hzx hz hab
        go_enter Try.func65, Try.ntmps65
        go_upto_region 1 with fail
        have RC : Hid (Row (World.alloc w (.cells #[.int .i64 n, .slice (some ad) gn gc, .slice OA on oc] 25)) (w.heap.size) 25 [.int .i64 n, .slice (some ad) gn gc, .slice OA on oc]) := by
          have h0 := Row.new w 25 [.int .i64 n, .slice (some ad) gn gc, .slice OA on oc]
          try simp only [World.size_alloc] at h0
          exact h0
        have hgr9 : Below w.heap.size w (World.alloc w (.cells #[.int .i64 n, .slice (some ad) gn gc, .slice OA on oc] 25)) := by go_grown
        have B_w : Hid (Below w.heap.size w (World.alloc w (.cells #[.int .i64 n, .slice (some ad) gn gc, .slice OA on oc] 25))) := hgr9
        clear hgr9
        revert RC B_w
        generalize (World.alloc w (.cells #[.int .i64 n, .slice (some ad) gn gc, .slice OA on oc] 25)) = wa
        intro RC B_w
        have kR : Hid (Row wa (w.heap.size) 25 [.int .i64 n, .slice (some ad) gn gc, .slice OA on oc]) := RC.out
        have k0 := kR.out.cell 0
        have k1 := kR.out.cell 1
        have k2 := kR.out.cell 2
        have kl := kR.out.lt
        simp only [List.getElem?_cons_zero, List.getElem?_cons_succ] at k0 k1 k2
        clear kR
        go_wp2_with fail
        have HC := rIs_any n gs (some ad) OA gn gc on oc (n + (i : Int)) 2 wa ((HG.out.up B_w.out)) hn hg hx hx0
        rw [HI1.out ()] at HC
        refine HC.mono ?_
        clear HC
        rintro e w1 ⟨rfl, hb⟩
        have B_w : Hid (Below w.heap.size w w1) := below_on2 B_w.out hb
        have B_wa : Hid (Below wa.heap.size wa w1) := hb
        clear k0 k1 k2 kl
        clear hb
        have kR : Hid (Row w1 (w.heap.size) 25 [.int .i64 n, .slice (some ad) gn gc, .slice OA on oc]) := (rowCells RC.out B_wa.out)
        have k0 := kR.out.cell 0
        have k1 := kR.out.cell 1
        have k2 := kR.out.cell 2
        have kl := kR.out.lt
        simp only [List.getElem?_cons_zero, List.getElem?_cons_succ] at k0 k1 k2
        clear kR
        have cx := HCX.out _ B_w.out
        have hax := HAX.out _ B_w.out
        go_wp2_with fail
        clear cx hax
        have HC := rIs_any n gs (some ad) OA gn gc on oc (y) 2 w1 ((HG.out.up B_w.out)) hn hg hy hy0
        rw [HI2.out ()] at HC
        refine HC.mono ?_
        clear HC
        rintro e w2 ⟨rfl, hb⟩
        have B_w : Hid (Below w.heap.size w w2) := below_on2 B_w.out hb
        have B_wa : Hid (Below wa.heap.size wa w2) := below_on2 B_wa.out hb
        have B_w1 : Hid (Below w1.heap.size w1 w2) := hb
        clear k0 k1 k2 kl
        clear hb
        have kR : Hid (Row w2 (w.heap.size) 25 [.int .i64 n, .slice (some ad) gn gc, .slice OA on oc]) := (rowCells RC.out B_wa.out)
        have k0 := kR.out.cell 0
        have k1 := kR.out.cell 1
        have k2 := kR.out.cell 2
        have kl := kR.out.lt
        simp only [List.getElem?_cons_zero, List.getElem?_cons_succ] at k0 k1 k2
        clear kR
        go_wp2_with fail
        go_ret
        exact ⟨ret_bool (by first | exact (HV.out ()).symm | (rw [HV.out ()]; first | rfl | (simp; done) | (rw [Bool.eq_iff_iff]; simp; omega))), B_w.out⟩
      · obtain ⟨j, ad', rfl, hj, e, hab2, hcy⟩ := isW_data HG.out h2 hy
        cases e
        have HV : Hid (∀ _ : Unit, oppW n gs (n + (i : Int)) (n + (j : Int)) = decide (argW n gs (n + (j : Int)) = n + (i : Int))) := fun _ => by rw [HOE.out (), decide_eq_false hz]; rw [Bool.and_false, Bool.false_or, Bool.true_and]
        have HCY0 : Hid (∀ W9, Below w.heap.size w W9 → W9.cell? ⟨(ad.add (j * 3)).block, (ad.add (j * 3)).off + 1, none⟩ = some (.int .i64 (argW n gs (n + (j : Int))))) := hcy
        generalize argW n gs (n + (j : Int)) = zy at HCY0 HV
        have HCY := HCY0
        have hi2 : (j : Int) < (gn : Int) := by omega
        have hw4 : n + (j : Int) - n = (j : Int) := by omega
        have hw2 : IntKind.i64.wrap (n + (j : Int) - n) = (j : Int) := by
          rw [show n + (j : Int) - n = (j : Int) by omega]
          exact IntWalk.i64_in _ (by omega)
        clear h1 h2 HOE hzx hz hcy HCY0 hab hab2
        go_enter Try.func65, Try.ntmps65
        go_upto_region 1 with fail
        have RC : Hid (Row (World.alloc w (.cells #[.int .i64 n, .slice (some ad) gn gc, .slice OA on oc] 25)) (w.heap.size) 25 [.int .i64 n, .slice (some ad) gn gc, .slice OA on oc]) := by
          have h0 := Row.new w 25 [.int .i64 n, .slice (some ad) gn gc, .slice OA on oc]
          try simp only [World.size_alloc] at h0
          exact h0
        have hgr9 : Below w.heap.size w (World.alloc w (.cells #[.int .i64 n, .slice (some ad) gn gc, .slice OA on oc] 25)) := by go_grown
        have B_w : Hid (Below w.heap.size w (World.alloc w (.cells #[.int .i64 n, .slice (some ad) gn gc, .slice OA on oc] 25))) := hgr9
        clear hgr9
        revert RC B_w
        generalize (World.alloc w (.cells #[.int .i64 n, .slice (some ad) gn gc, .slice OA on oc] 25)) = wa
        intro RC B_w
        have kR : Hid (Row wa (w.heap.size) 25 [.int .i64 n, .slice (some ad) gn gc, .slice OA on oc]) := RC.out
        have k0 := kR.out.cell 0
        have k1 := kR.out.cell 1
        have k2 := kR.out.cell 2
        have kl := kR.out.lt
        simp only [List.getElem?_cons_zero, List.getElem?_cons_succ] at k0 k1 k2
        clear kR
        go_wp2_with fail
        have HC := rIs_any n gs (some ad) OA gn gc on oc (n + (i : Int)) 2 wa ((HG.out.up B_w.out)) hn hg hx hx0
        rw [HI1.out ()] at HC
        refine HC.mono ?_
        clear HC
        rintro e w1 ⟨rfl, hb⟩
        have B_w : Hid (Below w.heap.size w w1) := below_on2 B_w.out hb
        have B_wa : Hid (Below wa.heap.size wa w1) := hb
        clear k0 k1 k2 kl
        clear hb
        have kR : Hid (Row w1 (w.heap.size) 25 [.int .i64 n, .slice (some ad) gn gc, .slice OA on oc]) := (rowCells RC.out B_wa.out)
        have k0 := kR.out.cell 0
        have k1 := kR.out.cell 1
        have k2 := kR.out.cell 2
        have kl := kR.out.lt
        simp only [List.getElem?_cons_zero, List.getElem?_cons_succ] at k0 k1 k2
        clear kR
        have cx := HCX.out _ B_w.out
        have hax := HAX.out _ B_w.out
        go_wp2_with fail
        clear cx hax
        have HC := rIs_any n gs (some ad) OA gn gc on oc (n + (j : Int)) 2 w1 ((HG.out.up B_w.out)) hn hg hy hy0
        rw [HI2.out ()] at HC
        refine HC.mono ?_
        clear HC
        rintro e w2 ⟨rfl, hb⟩
        have B_w : Hid (Below w.heap.size w w2) := below_on2 B_w.out hb
        have B_wa : Hid (Below wa.heap.size wa w2) := below_on2 B_wa.out hb
        have B_w1 : Hid (Below w1.heap.size w1 w2) := hb
        clear k0 k1 k2 kl
        clear hb
        have kR : Hid (Row w2 (w.heap.size) 25 [.int .i64 n, .slice (some ad) gn gc, .slice OA on oc]) := (rowCells RC.out B_wa.out)
        have k0 := kR.out.cell 0
        have k1 := kR.out.cell 1
        have k2 := kR.out.cell 2
        have kl := kR.out.lt
        simp only [List.getElem?_cons_zero, List.getElem?_cons_succ] at k0 k1 k2
        clear kR
        have cy := HCY.out _ B_w.out
        have hay := HAX.out _ B_w.out
        go_wp2_with fail
        go_ret
        exact ⟨ret_bool (by first | exact (HV.out ()).symm | (rw [HV.out ()]; first | rfl | (simp; done) | (rw [Bool.eq_iff_iff]; simp; omega))), B_w.out⟩
end Go.Proofs.Ytamijjpnklbgnaa
