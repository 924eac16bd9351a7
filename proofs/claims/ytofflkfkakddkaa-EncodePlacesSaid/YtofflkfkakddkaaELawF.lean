/-
  EncodeFixes, EncodeSames and EncodePlaces, walked.
-/
import Derived.Test.YtofflkfkakddkaaEAwake
import Derived.Test.YtofflkfkakddkaaERef41
namespace Go.Proofs.Ytofflkfkakddkaa
open Go.RowKit
set_option linter.unusedSimpArgs false
set_option linter.unusedVariables false
set_option maxRecDepth 100000 in
set_option maxHeartbeats 4000000 in
theorem encodeFixes_walk (f : Fml) (vs : List Int) (bs : List Bool) (FA VA BA : Option Addr) (fn fc n vc m bc : Nat) (sl : List Sl) (w : World)
    (hf : FAt w f FA fn sl) (hv : Rd w w.heap.size 1 VA n (ints vs)) (hbs : Rd w w.heap.size 1 BA m (bools bs)) (hn : n ≤ maxLen) (hm : m ≤ maxLen) :
    Calls Try.prog 5 #[.agg #[.int .i64 f.vars, .slice FA fn fc], .slice VA n vc, .slice BA m bc] w fun e w' => e = .returned (.bool true) ∧ Below w.heap.size w w' := by
  have HF : Hid (FAt w f FA fn sl) := hf
  have HV : Hid (Rd w w.heap.size 1 VA n (ints vs)) := hv
  have HBS : Hid (Rd w w.heap.size 1 BA m (bools bs)) := hbs
  have HFL : Hid (f.cls.length = fn) := hf.wl
  have hm3 := hf.n63
  unfold maxLen at hm hn hm3
  clear hf hv hbs
  go_enter Try.func5, Try.ntmps5
  go_wp2_with fail
  have RF : Hid (Row (World.alloc w (.cells #[.int .i64 f.vars, .slice FA fn fc] 30)) (w.heap.size) 30 [.int .i64 f.vars, .slice FA fn fc]) := by
    have h0 := Row.new w 30 [.int .i64 f.vars, .slice FA fn fc]
    try simp only [World.size_alloc] at h0
    exact h0
  have hgr9 : Below w.heap.size w (World.alloc w (.cells #[.int .i64 f.vars, .slice FA fn fc] 30)) := by go_grown
  have B_w : Hid (Below w.heap.size w (World.alloc w (.cells #[.int .i64 f.vars, .slice FA fn fc] 30))) := hgr9
  clear hgr9
  revert RF B_w
  generalize (World.alloc w (.cells #[.int .i64 f.vars, .slice FA fn fc] 30)) = wa
  intro RF B_w
  refine (fewF_any f FA fn fc sl wa (HF.out.up B_w.out)).mono ?_
  rintro e w1 ⟨rfl, hb⟩
  have B_w : Hid (Below w.heap.size w w1) := below_on2 B_w.out hb
  have B_wa : Hid (Below wa.heap.size wa w1) := hb
  clear hb
  cases hfw : fewF f
  · clear hfw
    go_wp2_with fail
    refine (alive_any w1).mono ?_
    rintro e w9 ⟨rfl, hb⟩
    have HBE : Hid (Below w.heap.size w w9) := below_on2 B_w.out hb
    clear hb
    go_wp2
    go_ret
    exact ⟨rfl, HBE.out⟩
  have hfn : fn ≤ 1000 := by
    unfold fewF at hfw
    rw [Bool.and_eq_true, decide_eq_true_eq, HFL.out] at hfw
    exact hfw.1
  clear hfw
  by_cases h1 : n ≤ 1000
  case neg =>
    have h1z : (1000 : Int) < (n : Int) := by omega
    go_wp2_with fail
    refine (alive_any w1).mono ?_
    rintro e w9 ⟨rfl, hb⟩
    have HBE : Hid (Below w.heap.size w w9) := below_on2 B_w.out hb
    clear hb
    go_wp2
    go_ret
    exact ⟨rfl, HBE.out⟩
  have h1z : ¬ (1000 : Int) < (n : Int) := by omega
  by_cases h2 : m ≤ 1000
  case neg =>
    have h2z : (1000 : Int) < (m : Int) := by omega
    go_wp2_with fail
    refine (alive_any w1).mono ?_
    rintro e w9 ⟨rfl, hb⟩
    have HBE : Hid (Below w.heap.size w w9) := below_on2 B_w.out hb
    clear hb
    go_wp2
    go_ret
    exact ⟨rfl, HBE.out⟩
  have h2z : ¬ (1000 : Int) < (m : Int) := by omega
  have kR : Hid (Row w1 (w.heap.size) 30 [.int .i64 f.vars, .slice FA fn fc]) := (rowCells RF.out B_wa.out)
  have k0 := kR.out.cell 0
  have k1 := kR.out.cell 1
  have kl := kR.out.lt
  simp only [List.getElem?_cons_zero, List.getElem?_cons_succ] at k0 k1
  clear kR
  go_wp2_with fail
  with_reducible refine (eFix_any f vs bs FA VA BA fn fc n vc m bc sl w1 (HF.out.up B_w.out) (HV.out.up B_w.out) (HBS.out.up B_w.out) (by omega) (by omega) (by unfold maxLen; omega)).mono ?_
  rintro e w2 ⟨XA, xn, xc, sx, rfl, hfa, hb⟩
  have HX : Hid (FAt w2 (fixR f vs bs) XA xn sx) := hfa
  obtain ⟨pv, hpv⟩ : ∃ pv, (fixR f vs bs).vars = pv := ⟨_, rfl⟩
  obtain ⟨ke, hke⟩ : ∃ ke, (fixErr f vs bs) = ke := ⟨_, rfl⟩
  have HPV : Hid ((fixR f vs bs).vars = pv) := hpv
  have HKE : Hid ((fixErr f vs bs) = ke) := hke
  rw [hpv, hke]
  clear hfa hpv hke
  have B_w : Hid (Below w.heap.size w w2) := below_on2 B_w.out hb
  have B_wa : Hid (Below wa.heap.size wa w2) := below_on2 B_wa.out hb
  have B_w1 : Hid (Below w1.heap.size w1 w2) := hb
  clear k0 k1 kl
  clear hb
  have kR : Hid (Row w2 (w.heap.size) 30 [.int .i64 f.vars, .slice FA fn fc]) := (rowCells RF.out B_wa.out)
  have k0 := kR.out.cell 0
  have k1 := kR.out.cell 1
  have kl := kR.out.lt
  simp only [List.getElem?_cons_zero, List.getElem?_cons_succ] at k0 k1
  clear kR
  go_wp2_with fail
  have RX : Hid (Row (World.alloc w2 (.cells #[.int .i64 pv, .slice XA xn xc] 30)) (w2.heap.size) 30 [.int .i64 pv, .slice XA xn xc]) := by
    have h0 := Row.new w2 30 [.int .i64 pv, .slice XA xn xc]
    try simp only [World.size_alloc] at h0
    exact h0
  have hgr9 : Below w2.heap.size w2 (World.alloc w2 (.cells #[.int .i64 pv, .slice XA xn xc] 30)) := by go_grown
  have B_w : Hid (Below w.heap.size w (World.alloc w2 (.cells #[.int .i64 pv, .slice XA xn xc] 30))) := below_on2 B_w.out hgr9
  have B_wa : Hid (Below wa.heap.size wa (World.alloc w2 (.cells #[.int .i64 pv, .slice XA xn xc] 30))) := below_on2 B_wa.out hgr9
  have B_w1 : Hid (Below w1.heap.size w1 (World.alloc w2 (.cells #[.int .i64 pv, .slice XA xn xc] 30))) := below_on2 B_w1.out hgr9
  have B_w2 : Hid (Below w2.heap.size w2 (World.alloc w2 (.cells #[.int .i64 pv, .slice XA xn xc] 30))) := hgr9
  clear hgr9
  clear k0 k1 kl
  revert RX B_w B_wa B_w1 B_w2
  generalize (World.alloc w2 (.cells #[.int .i64 pv, .slice XA xn xc] 30)) = wb
  intro RX B_w B_wa B_w1 B_w2
  with_reducible refine (rFix_any f vs bs FA VA BA fn fc n vc m bc sl wb (HF.out.up B_w.out) (HV.out.up B_w.out) (HBS.out.up B_w.out) (by omega) (by omega) (by unfold maxLen; omega)).mono ?_
  rintro e w3 ⟨YA, yn, yc, sy, rfl, hfa, hb⟩
  have HY : Hid (FAt w3 (fixR f vs bs) YA yn sy) := hfa
  rw [HPV.out, HKE.out]
  clear hfa
  have B_w : Hid (Below w.heap.size w w3) := below_on2 B_w.out hb
  have B_wa : Hid (Below wa.heap.size wa w3) := below_on2 B_wa.out hb
  have B_w1 : Hid (Below w1.heap.size w1 w3) := below_on2 B_w1.out hb
  have B_w2 : Hid (Below w2.heap.size w2 w3) := below_on2 B_w2.out hb
  have B_wb : Hid (Below wb.heap.size wb w3) := hb
  clear hb
  have kR : Hid (Row w3 (w2.heap.size) 30 [.int .i64 pv, .slice XA xn xc]) := (rowCells RX.out B_wb.out)
  have k0 := kR.out.cell 0
  have k1 := kR.out.cell 1
  have kl := kR.out.lt
  simp only [List.getElem?_cons_zero, List.getElem?_cons_succ] at k0 k1
  clear kR
  go_wp2_with fail
  have RY : Hid (Row (World.alloc w3 (.cells #[.int .i64 pv, .slice YA yn yc] 30)) (w3.heap.size) 30 [.int .i64 pv, .slice YA yn yc]) := by
    have h0 := Row.new w3 30 [.int .i64 pv, .slice YA yn yc]
    try simp only [World.size_alloc] at h0
    exact h0
  have hgr9 : Below w3.heap.size w3 (World.alloc w3 (.cells #[.int .i64 pv, .slice YA yn yc] 30)) := by go_grown
  have B_w : Hid (Below w.heap.size w (World.alloc w3 (.cells #[.int .i64 pv, .slice YA yn yc] 30))) := below_on2 B_w.out hgr9
  have B_wa : Hid (Below wa.heap.size wa (World.alloc w3 (.cells #[.int .i64 pv, .slice YA yn yc] 30))) := below_on2 B_wa.out hgr9
  have B_w1 : Hid (Below w1.heap.size w1 (World.alloc w3 (.cells #[.int .i64 pv, .slice YA yn yc] 30))) := below_on2 B_w1.out hgr9
  have B_w2 : Hid (Below w2.heap.size w2 (World.alloc w3 (.cells #[.int .i64 pv, .slice YA yn yc] 30))) := below_on2 B_w2.out hgr9
  have B_wb : Hid (Below wb.heap.size wb (World.alloc w3 (.cells #[.int .i64 pv, .slice YA yn yc] 30))) := below_on2 B_wb.out hgr9
  have B_w3 : Hid (Below w3.heap.size w3 (World.alloc w3 (.cells #[.int .i64 pv, .slice YA yn yc] 30))) := hgr9
  clear hgr9
  clear k0 k1 kl
  revert RY B_w B_wa B_w1 B_w2 B_wb B_w3
  generalize (World.alloc w3 (.cells #[.int .i64 pv, .slice YA yn yc] 30)) = wc
  intro RY B_w B_wa B_w1 B_w2 B_wb B_w3
  have HCT := rEqualF_any (fixR f vs bs) (fixR f vs bs) XA YA xn xc yn yc sx sy wc (HX.out.up B_w2.out) (HY.out.up B_w3.out)
  rw [sameF_self, HPV.out] at HCT
  with_reducible refine HCT.mono ?_
  clear HCT
  rintro e w4 ⟨rfl, hb⟩
  have B_w : Hid (Below w.heap.size w w4) := below_on2 B_w.out hb
  have B_wa : Hid (Below wa.heap.size wa w4) := below_on2 B_wa.out hb
  have B_w1 : Hid (Below w1.heap.size w1 w4) := below_on2 B_w1.out hb
  have B_w2 : Hid (Below w2.heap.size w2 w4) := below_on2 B_w2.out hb
  have B_wb : Hid (Below wb.heap.size wb w4) := below_on2 B_wb.out hb
  have B_w3 : Hid (Below w3.heap.size w3 w4) := below_on2 B_w3.out hb
  have B_wc : Hid (Below wc.heap.size wc w4) := hb
  clear hb
  go_wp2_with fail
  refine (alive_any w4).mono ?_
  rintro e w9 ⟨rfl, hb⟩
  have HBE : Hid (Below w.heap.size w w9) := below_on2 B_w.out hb
  clear hb
  go_wp2
  go_ret
  exact ⟨rfl, HBE.out⟩
set_option maxRecDepth 100000 in
set_option maxHeartbeats 4000000 in
theorem encodeSames_walk (f : Fml) (xs : List Int) (ys : List Int) (FA XP YP : Option Addr) (fn fc n xq m yq : Nat) (sl : List Sl) (w : World)
    (hf : FAt w f FA fn sl) (hv : Rd w w.heap.size 1 XP n (ints xs)) (hbs : Rd w w.heap.size 1 YP m (ints ys)) (hn : n ≤ maxLen) (hm : m ≤ maxLen) :
    Calls Try.prog 6 #[.agg #[.int .i64 f.vars, .slice FA fn fc], .slice XP n xq, .slice YP m yq] w fun e w' => e = .returned (.bool true) ∧ Below w.heap.size w w' := by
  have HF : Hid (FAt w f FA fn sl) := hf
  have HV : Hid (Rd w w.heap.size 1 XP n (ints xs)) := hv
  have HBS : Hid (Rd w w.heap.size 1 YP m (ints ys)) := hbs
  have HFL : Hid (f.cls.length = fn) := hf.wl
  have hm3 := hf.n63
  unfold maxLen at hm hn hm3
  clear hf hv hbs
  go_enter Try.func6, Try.ntmps6
  go_wp2_with fail
  have RF : Hid (Row (World.alloc w (.cells #[.int .i64 f.vars, .slice FA fn fc] 30)) (w.heap.size) 30 [.int .i64 f.vars, .slice FA fn fc]) := by
    have h0 := Row.new w 30 [.int .i64 f.vars, .slice FA fn fc]
    try simp only [World.size_alloc] at h0
    exact h0
  have hgr9 : Below w.heap.size w (World.alloc w (.cells #[.int .i64 f.vars, .slice FA fn fc] 30)) := by go_grown
  have B_w : Hid (Below w.heap.size w (World.alloc w (.cells #[.int .i64 f.vars, .slice FA fn fc] 30))) := hgr9
  clear hgr9
  revert RF B_w
  generalize (World.alloc w (.cells #[.int .i64 f.vars, .slice FA fn fc] 30)) = wa
  intro RF B_w
  refine (fewF_any f FA fn fc sl wa (HF.out.up B_w.out)).mono ?_
  rintro e w1 ⟨rfl, hb⟩
  have B_w : Hid (Below w.heap.size w w1) := below_on2 B_w.out hb
  have B_wa : Hid (Below wa.heap.size wa w1) := hb
  clear hb
  cases hfw : fewF f
  · clear hfw
    go_wp2_with fail
    refine (alive_any w1).mono ?_
    rintro e w9 ⟨rfl, hb⟩
    have HBE : Hid (Below w.heap.size w w9) := below_on2 B_w.out hb
    clear hb
    go_wp2
    go_ret
    exact ⟨rfl, HBE.out⟩
  have hfn : fn ≤ 1000 := by
    unfold fewF at hfw
    rw [Bool.and_eq_true, decide_eq_true_eq, HFL.out] at hfw
    exact hfw.1
  clear hfw
  by_cases h1 : n ≤ 1000
  case neg =>
    have h1z : (1000 : Int) < (n : Int) := by omega
    go_wp2_with fail
    refine (alive_any w1).mono ?_
    rintro e w9 ⟨rfl, hb⟩
    have HBE : Hid (Below w.heap.size w w9) := below_on2 B_w.out hb
    clear hb
    go_wp2
    go_ret
    exact ⟨rfl, HBE.out⟩
  have h1z : ¬ (1000 : Int) < (n : Int) := by omega
  by_cases h2 : m ≤ 1000
  case neg =>
    have h2z : (1000 : Int) < (m : Int) := by omega
    go_wp2_with fail
    refine (alive_any w1).mono ?_
    rintro e w9 ⟨rfl, hb⟩
    have HBE : Hid (Below w.heap.size w w9) := below_on2 B_w.out hb
    clear hb
    go_wp2
    go_ret
    exact ⟨rfl, HBE.out⟩
  have h2z : ¬ (1000 : Int) < (m : Int) := by omega
  have kR : Hid (Row w1 (w.heap.size) 30 [.int .i64 f.vars, .slice FA fn fc]) := (rowCells RF.out B_wa.out)
  have k0 := kR.out.cell 0
  have k1 := kR.out.cell 1
  have kl := kR.out.lt
  simp only [List.getElem?_cons_zero, List.getElem?_cons_succ] at k0 k1
  clear kR
  go_wp2_with fail
  with_reducible refine (eEq_any f xs ys FA XP YP fn fc n xq m yq sl w1 (HF.out.up B_w.out) (HV.out.up B_w.out) (HBS.out.up B_w.out) (by omega) (by omega) (by omega)).mono ?_
  rintro e w2 ⟨XA, xn, xc, sx, rfl, hfa, hb⟩
  have HX : Hid (FAt w2 (eqR f xs ys) XA xn sx) := hfa
  obtain ⟨pv, hpv⟩ : ∃ pv, (eqR f xs ys).vars = pv := ⟨_, rfl⟩
  obtain ⟨ke, hke⟩ : ∃ ke, (eqErr f xs ys) = ke := ⟨_, rfl⟩
  have HPV : Hid ((eqR f xs ys).vars = pv) := hpv
  have HKE : Hid ((eqErr f xs ys) = ke) := hke
  rw [hpv, hke]
  clear hfa hpv hke
  have B_w : Hid (Below w.heap.size w w2) := below_on2 B_w.out hb
  have B_wa : Hid (Below wa.heap.size wa w2) := below_on2 B_wa.out hb
  have B_w1 : Hid (Below w1.heap.size w1 w2) := hb
  clear k0 k1 kl
  clear hb
  have kR : Hid (Row w2 (w.heap.size) 30 [.int .i64 f.vars, .slice FA fn fc]) := (rowCells RF.out B_wa.out)
  have k0 := kR.out.cell 0
  have k1 := kR.out.cell 1
  have kl := kR.out.lt
  simp only [List.getElem?_cons_zero, List.getElem?_cons_succ] at k0 k1
  clear kR
  go_wp2_with fail
  have RX : Hid (Row (World.alloc w2 (.cells #[.int .i64 pv, .slice XA xn xc] 30)) (w2.heap.size) 30 [.int .i64 pv, .slice XA xn xc]) := by
    have h0 := Row.new w2 30 [.int .i64 pv, .slice XA xn xc]
    try simp only [World.size_alloc] at h0
    exact h0
  have hgr9 : Below w2.heap.size w2 (World.alloc w2 (.cells #[.int .i64 pv, .slice XA xn xc] 30)) := by go_grown
  have B_w : Hid (Below w.heap.size w (World.alloc w2 (.cells #[.int .i64 pv, .slice XA xn xc] 30))) := below_on2 B_w.out hgr9
  have B_wa : Hid (Below wa.heap.size wa (World.alloc w2 (.cells #[.int .i64 pv, .slice XA xn xc] 30))) := below_on2 B_wa.out hgr9
  have B_w1 : Hid (Below w1.heap.size w1 (World.alloc w2 (.cells #[.int .i64 pv, .slice XA xn xc] 30))) := below_on2 B_w1.out hgr9
  have B_w2 : Hid (Below w2.heap.size w2 (World.alloc w2 (.cells #[.int .i64 pv, .slice XA xn xc] 30))) := hgr9
  clear hgr9
  clear k0 k1 kl
  revert RX B_w B_wa B_w1 B_w2
  generalize (World.alloc w2 (.cells #[.int .i64 pv, .slice XA xn xc] 30)) = wb
  intro RX B_w B_wa B_w1 B_w2
  with_reducible refine (rEq_any f xs ys FA XP YP fn fc n xq m yq sl wb (HF.out.up B_w.out) (HV.out.up B_w.out) (HBS.out.up B_w.out) (by omega) (by omega) (by omega)).mono ?_
  rintro e w3 ⟨YA, yn, yc, sy, rfl, hfa, hb⟩
  have HY : Hid (FAt w3 (eqR f xs ys) YA yn sy) := hfa
  rw [HPV.out, HKE.out]
  clear hfa
  have B_w : Hid (Below w.heap.size w w3) := below_on2 B_w.out hb
  have B_wa : Hid (Below wa.heap.size wa w3) := below_on2 B_wa.out hb
  have B_w1 : Hid (Below w1.heap.size w1 w3) := below_on2 B_w1.out hb
  have B_w2 : Hid (Below w2.heap.size w2 w3) := below_on2 B_w2.out hb
  have B_wb : Hid (Below wb.heap.size wb w3) := hb
  clear hb
  have kR : Hid (Row w3 (w2.heap.size) 30 [.int .i64 pv, .slice XA xn xc]) := (rowCells RX.out B_wb.out)
  have k0 := kR.out.cell 0
  have k1 := kR.out.cell 1
  have kl := kR.out.lt
  simp only [List.getElem?_cons_zero, List.getElem?_cons_succ] at k0 k1
  clear kR
  go_wp2_with fail
  have RY : Hid (Row (World.alloc w3 (.cells #[.int .i64 pv, .slice YA yn yc] 30)) (w3.heap.size) 30 [.int .i64 pv, .slice YA yn yc]) := by
    have h0 := Row.new w3 30 [.int .i64 pv, .slice YA yn yc]
    try simp only [World.size_alloc] at h0
    exact h0
  have hgr9 : Below w3.heap.size w3 (World.alloc w3 (.cells #[.int .i64 pv, .slice YA yn yc] 30)) := by go_grown
  have B_w : Hid (Below w.heap.size w (World.alloc w3 (.cells #[.int .i64 pv, .slice YA yn yc] 30))) := below_on2 B_w.out hgr9
  have B_wa : Hid (Below wa.heap.size wa (World.alloc w3 (.cells #[.int .i64 pv, .slice YA yn yc] 30))) := below_on2 B_wa.out hgr9
  have B_w1 : Hid (Below w1.heap.size w1 (World.alloc w3 (.cells #[.int .i64 pv, .slice YA yn yc] 30))) := below_on2 B_w1.out hgr9
  have B_w2 : Hid (Below w2.heap.size w2 (World.alloc w3 (.cells #[.int .i64 pv, .slice YA yn yc] 30))) := below_on2 B_w2.out hgr9
  have B_wb : Hid (Below wb.heap.size wb (World.alloc w3 (.cells #[.int .i64 pv, .slice YA yn yc] 30))) := below_on2 B_wb.out hgr9
  have B_w3 : Hid (Below w3.heap.size w3 (World.alloc w3 (.cells #[.int .i64 pv, .slice YA yn yc] 30))) := hgr9
  clear hgr9
  clear k0 k1 kl
  revert RY B_w B_wa B_w1 B_w2 B_wb B_w3
  generalize (World.alloc w3 (.cells #[.int .i64 pv, .slice YA yn yc] 30)) = wc
  intro RY B_w B_wa B_w1 B_w2 B_wb B_w3
  have HCT := rEqualF_any (eqR f xs ys) (eqR f xs ys) XA YA xn xc yn yc sx sy wc (HX.out.up B_w2.out) (HY.out.up B_w3.out)
  rw [sameF_self, HPV.out] at HCT
  with_reducible refine HCT.mono ?_
  clear HCT
  rintro e w4 ⟨rfl, hb⟩
  have B_w : Hid (Below w.heap.size w w4) := below_on2 B_w.out hb
  have B_wa : Hid (Below wa.heap.size wa w4) := below_on2 B_wa.out hb
  have B_w1 : Hid (Below w1.heap.size w1 w4) := below_on2 B_w1.out hb
  have B_w2 : Hid (Below w2.heap.size w2 w4) := below_on2 B_w2.out hb
  have B_wb : Hid (Below wb.heap.size wb w4) := below_on2 B_wb.out hb
  have B_w3 : Hid (Below w3.heap.size w3 w4) := below_on2 B_w3.out hb
  have B_wc : Hid (Below wc.heap.size wc w4) := hb
  clear hb
  go_wp2_with fail
  refine (alive_any w4).mono ?_
  rintro e w9 ⟨rfl, hb⟩
  have HBE : Hid (Below w.heap.size w w9) := below_on2 B_w.out hb
  clear hb
  go_wp2
  go_ret
  exact ⟨rfl, HBE.out⟩
set_option maxRecDepth 100000 in
set_option maxHeartbeats 4000000 in
theorem encodePlaces_walk (f : Fml) (c : Circ) (ins : List Int) (FA GA OA IA : Option Addr) (fn fc gn gc on oc k ic : Nat) (sl : List Sl) (w : World)
    (hf : FAt w f FA fn sl) (hc : CAt w c GA OA gn on) (hi : Rd w w.heap.size 1 IA k (ints ins)) (hk : k ≤ maxLen) :
    Calls Try.prog 4 #[.agg #[.int .i64 f.vars, .slice FA fn fc], .agg #[.int .i64 c.inputs, .slice GA gn gc, .slice OA on oc], .slice IA k ic] w fun e w' => e = .returned (.bool true) ∧ Below w.heap.size w w' := by
  have HF : Hid (FAt w f FA fn sl) := hf
  have HC : Hid (CAt w c GA OA gn on) := hc
  have HI : Hid (Rd w w.heap.size 1 IA k (ints ins)) := hi
  have HKM : Hid (k ≤ maxLen) := hk
  have hm1 := hc.g63
  have hm2 := hc.o63
  have hm3 := hf.n63
  unfold maxLen at hk hm1 hm2 hm3
  clear hf hc hi
  go_enter Try.func4, Try.ntmps4
  go_wp2_with fail
  have RF : Hid (Row (World.alloc (World.alloc w (.cells #[.int .i64 f.vars, .slice FA fn fc] 30)) (.cells #[.int .i64 c.inputs, .slice GA gn gc, .slice OA on oc] 25)) (w.heap.size) 30 [.int .i64 f.vars, .slice FA fn fc]) := by
    have h0 := Row.new w 30 [.int .i64 f.vars, .slice FA fn fc]
    try simp only [World.size_alloc] at h0
    exact (h0.alloc _)
  have RC : Hid (Row (World.alloc (World.alloc w (.cells #[.int .i64 f.vars, .slice FA fn fc] 30)) (.cells #[.int .i64 c.inputs, .slice GA gn gc, .slice OA on oc] 25)) (w.heap.size + 1) 25 [.int .i64 c.inputs, .slice GA gn gc, .slice OA on oc]) := by
    have h0 := Row.new (World.alloc w (.cells #[.int .i64 f.vars, .slice FA fn fc] 30)) 25 [.int .i64 c.inputs, .slice GA gn gc, .slice OA on oc]
    try simp only [World.size_alloc] at h0
    exact h0
  have hgr9 : Below w.heap.size w (World.alloc (World.alloc w (.cells #[.int .i64 f.vars, .slice FA fn fc] 30)) (.cells #[.int .i64 c.inputs, .slice GA gn gc, .slice OA on oc] 25)) := by go_grown
  have B_w : Hid (Below w.heap.size w (World.alloc (World.alloc w (.cells #[.int .i64 f.vars, .slice FA fn fc] 30)) (.cells #[.int .i64 c.inputs, .slice GA gn gc, .slice OA on oc] 25))) := hgr9
  clear hgr9
  revert RF RC B_w
  generalize (World.alloc (World.alloc w (.cells #[.int .i64 f.vars, .slice FA fn fc] 30)) (.cells #[.int .i64 c.inputs, .slice GA gn gc, .slice OA on oc] 25)) = wa
  intro RF RC B_w
  refine (fewF_any f FA fn fc sl wa (HF.out.up B_w.out)).mono ?_
  rintro e w1 ⟨rfl, hb⟩
  have B_w : Hid (Below w.heap.size w w1) := below_on2 B_w.out hb
  have B_wa : Hid (Below wa.heap.size wa w1) := hb
  clear hb
  cases hfw : fewF f
  · clear hfw
    go_wp2_with fail
    refine (alive_any w1).mono ?_
    rintro e w9 ⟨rfl, hb⟩
    have HBE : Hid (Below w.heap.size w w9) := below_on2 B_w.out hb
    clear hb
    go_wp2
    go_ret
    exact ⟨rfl, HBE.out⟩
  clear hfw
  have kR : Hid (Row w1 (w.heap.size + 1) 25 [.int .i64 c.inputs, .slice GA gn gc, .slice OA on oc]) := (rowCells RC.out B_wa.out)
  have k0 := kR.out.cell 0
  have k1 := kR.out.cell 1
  have k2 := kR.out.cell 2
  have kl := kR.out.lt
  simp only [List.getElem?_cons_zero, List.getElem?_cons_succ] at k0 k1 k2
  clear kR
  go_wp2_with fail
  refine (few17_any c GA OA gn gc on oc w1 (HC.out.up B_w.out)).mono ?_
  rintro e w2 ⟨rfl, hb⟩
  have B_w : Hid (Below w.heap.size w w2) := below_on2 B_w.out hb
  have B_wa : Hid (Below wa.heap.size wa w2) := below_on2 B_wa.out hb
  have B_w1 : Hid (Below w1.heap.size w1 w2) := hb
  clear k0 k1 k2 kl
  clear hb
  cases hfw : fewC c
  · clear hfw
    go_wp2_with fail
    refine (alive_any w2).mono ?_
    rintro e w9 ⟨rfl, hb⟩
    have HBE : Hid (Below w.heap.size w w9) := below_on2 B_w.out hb
    clear hb
    go_wp2
    go_ret
    exact ⟨rfl, HBE.out⟩
  clear hfw
  by_cases h1 : k ≤ 1100
  case neg =>
    have h1z : (1100 : Int) < (k : Int) := by omega
    go_wp2_with fail
    refine (alive_any w2).mono ?_
    rintro e w9 ⟨rfl, hb⟩
    have HBE : Hid (Below w.heap.size w w9) := below_on2 B_w.out hb
    clear hb
    go_wp2
    go_ret
    exact ⟨rfl, HBE.out⟩
  have h1z : ¬ (1100 : Int) < (k : Int) := by omega
  have kR : Hid (Row w2 (w.heap.size) 30 [.int .i64 f.vars, .slice FA fn fc]) := (rowCells RF.out B_wa.out)
  have k0 := kR.out.cell 0
  have k1 := kR.out.cell 1
  have kl := kR.out.lt
  simp only [List.getElem?_cons_zero, List.getElem?_cons_succ] at k0 k1
  clear kR
  have qR : Hid (Row w2 (w.heap.size + 1) 25 [.int .i64 c.inputs, .slice GA gn gc, .slice OA on oc]) := (rowCells RC.out B_wa.out)
  have q0 := qR.out.cell 0
  have q1 := qR.out.cell 1
  have q2 := qR.out.cell 2
  have ql := qR.out.lt
  simp only [List.getElem?_cons_zero, List.getElem?_cons_succ] at q0 q1 q2
  clear qR
  go_wp2_with fail
  with_reducible refine (ePlace_any f c ins FA GA OA IA fn fc gn gc on oc k ic sl w2 (HF.out.up B_w.out) (HC.out.up B_w.out) (HI.out.up B_w.out) HKM.out w2.heap.size (Nat.le_refl _) (HF.out.up B_w.out).next).mono ?_
  rintro e w3 ⟨XA, xn, xc, sx, QA, qn, qc, rfl, hpl, hE, hO, hqn, hb⟩
  have HX : Hid (FAt w3 (placeR f c ins) XA xn sx) := hE.fat hb.size hpl.1 hpl.2
  have HQ : Hid (Rd w3 w3.heap.size 1 QA qn (ints (placeOuts f c ins))) := Rd.of_own hO
  have HQN : Hid (qn ≤ maxLen) := hqn
  obtain ⟨pv, hpv⟩ : ∃ pv, (placeR f c ins).vars = pv := ⟨_, rfl⟩
  obtain ⟨ke, hke⟩ : ∃ ke, placeErr f c ins = ke := ⟨_, rfl⟩
  have HPV : Hid ((placeR f c ins).vars = pv) := hpv
  have HKE : Hid (placeErr f c ins = ke) := hke
  rw [hpv, hke]
  clear hpl hE hO hqn hpv hke
  have B_w : Hid (Below w.heap.size w w3) := below_on2 B_w.out hb
  have B_wa : Hid (Below wa.heap.size wa w3) := below_on2 B_wa.out hb
  have B_w1 : Hid (Below w1.heap.size w1 w3) := below_on2 B_w1.out hb
  have B_w2 : Hid (Below w2.heap.size w2 w3) := hb
  clear k0 k1 kl q0 q1 q2 ql
  clear hb
  have kR : Hid (Row w3 (w.heap.size) 30 [.int .i64 f.vars, .slice FA fn fc]) := (rowCells RF.out B_wa.out)
  have k0 := kR.out.cell 0
  have k1 := kR.out.cell 1
  have kl := kR.out.lt
  simp only [List.getElem?_cons_zero, List.getElem?_cons_succ] at k0 k1
  clear kR
  have qR : Hid (Row w3 (w.heap.size + 1) 25 [.int .i64 c.inputs, .slice GA gn gc, .slice OA on oc]) := (rowCells RC.out B_wa.out)
  have q0 := qR.out.cell 0
  have q1 := qR.out.cell 1
  have q2 := qR.out.cell 2
  have ql := qR.out.lt
  simp only [List.getElem?_cons_zero, List.getElem?_cons_succ] at q0 q1 q2
  clear qR
  go_wp2_with fail
  have RX : Hid (Row (World.alloc w3 (.cells #[.int .i64 pv, .slice XA xn xc] 30)) (w3.heap.size) 30 [.int .i64 pv, .slice XA xn xc]) := by
    have h0 := Row.new w3 30 [.int .i64 pv, .slice XA xn xc]
    try simp only [World.size_alloc] at h0
    exact h0
  have hgr9 : Below w3.heap.size w3 (World.alloc w3 (.cells #[.int .i64 pv, .slice XA xn xc] 30)) := by go_grown
  have B_w : Hid (Below w.heap.size w (World.alloc w3 (.cells #[.int .i64 pv, .slice XA xn xc] 30))) := below_on2 B_w.out hgr9
  have B_wa : Hid (Below wa.heap.size wa (World.alloc w3 (.cells #[.int .i64 pv, .slice XA xn xc] 30))) := below_on2 B_wa.out hgr9
  have B_w1 : Hid (Below w1.heap.size w1 (World.alloc w3 (.cells #[.int .i64 pv, .slice XA xn xc] 30))) := below_on2 B_w1.out hgr9
  have B_w2 : Hid (Below w2.heap.size w2 (World.alloc w3 (.cells #[.int .i64 pv, .slice XA xn xc] 30))) := below_on2 B_w2.out hgr9
  have B_w3 : Hid (Below w3.heap.size w3 (World.alloc w3 (.cells #[.int .i64 pv, .slice XA xn xc] 30))) := hgr9
  clear hgr9
  clear k0 k1 kl q0 q1 q2 ql
  revert RX B_w B_wa B_w1 B_w2 B_w3
  generalize (World.alloc w3 (.cells #[.int .i64 pv, .slice XA xn xc] 30)) = wb
  intro RX B_w B_wa B_w1 B_w2 B_w3
  with_reducible refine (rPlaceC_any f c ins FA GA OA IA fn fc gn gc on oc k ic sl wb (HF.out.up B_w.out) (HC.out.up B_w.out) (HI.out.up B_w.out) HKM.out).mono ?_
  rintro e w4 ⟨YA, yn, yc, sy, TA, tn, tc, rfl, hfa, hO, hqn, hb⟩
  have HY : Hid (FAt w4 (placeR f c ins) YA yn sy) := hfa
  have HT : Hid (Rd w4 w4.heap.size 1 TA tn (ints (placeOuts f c ins))) := hO
  have HTN : Hid (tn ≤ maxLen) := hqn
  rw [HPV.out, HKE.out]
  clear hfa hO hqn
  have B_w : Hid (Below w.heap.size w w4) := below_on2 B_w.out hb
  have B_wa : Hid (Below wa.heap.size wa w4) := below_on2 B_wa.out hb
  have B_w1 : Hid (Below w1.heap.size w1 w4) := below_on2 B_w1.out hb
  have B_w2 : Hid (Below w2.heap.size w2 w4) := below_on2 B_w2.out hb
  have B_w3 : Hid (Below w3.heap.size w3 w4) := below_on2 B_w3.out hb
  have B_wb : Hid (Below wb.heap.size wb w4) := hb
  clear hb
  have kR : Hid (Row w4 (w3.heap.size) 30 [.int .i64 pv, .slice XA xn xc]) := (rowCells RX.out B_wb.out)
  have k0 := kR.out.cell 0
  have k1 := kR.out.cell 1
  have kl := kR.out.lt
  simp only [List.getElem?_cons_zero, List.getElem?_cons_succ] at k0 k1
  clear kR
  go_wp2_with fail
  have RY : Hid (Row (World.alloc w4 (.cells #[.int .i64 pv, .slice YA yn yc] 30)) (w4.heap.size) 30 [.int .i64 pv, .slice YA yn yc]) := by
    have h0 := Row.new w4 30 [.int .i64 pv, .slice YA yn yc]
    try simp only [World.size_alloc] at h0
    exact h0
  have hgr9 : Below w4.heap.size w4 (World.alloc w4 (.cells #[.int .i64 pv, .slice YA yn yc] 30)) := by go_grown
  have B_w : Hid (Below w.heap.size w (World.alloc w4 (.cells #[.int .i64 pv, .slice YA yn yc] 30))) := below_on2 B_w.out hgr9
  have B_wa : Hid (Below wa.heap.size wa (World.alloc w4 (.cells #[.int .i64 pv, .slice YA yn yc] 30))) := below_on2 B_wa.out hgr9
  have B_w1 : Hid (Below w1.heap.size w1 (World.alloc w4 (.cells #[.int .i64 pv, .slice YA yn yc] 30))) := below_on2 B_w1.out hgr9
  have B_w2 : Hid (Below w2.heap.size w2 (World.alloc w4 (.cells #[.int .i64 pv, .slice YA yn yc] 30))) := below_on2 B_w2.out hgr9
  have B_w3 : Hid (Below w3.heap.size w3 (World.alloc w4 (.cells #[.int .i64 pv, .slice YA yn yc] 30))) := below_on2 B_w3.out hgr9
  have B_wb : Hid (Below wb.heap.size wb (World.alloc w4 (.cells #[.int .i64 pv, .slice YA yn yc] 30))) := below_on2 B_wb.out hgr9
  have B_w4 : Hid (Below w4.heap.size w4 (World.alloc w4 (.cells #[.int .i64 pv, .slice YA yn yc] 30))) := hgr9
  clear hgr9
  clear k0 k1 kl
  revert RY B_w B_wa B_w1 B_w2 B_w3 B_wb B_w4
  generalize (World.alloc w4 (.cells #[.int .i64 pv, .slice YA yn yc] 30)) = wc
  intro RY B_w B_wa B_w1 B_w2 B_w3 B_wb B_w4
  have HCT := rEqualF_any (placeR f c ins) (placeR f c ins) XA YA xn xc yn yc sx sy wc (HX.out.up B_w3.out) (HY.out.up B_w4.out)
  rw [sameF_self, HPV.out] at HCT
  with_reducible refine HCT.mono ?_
  clear HCT
  rintro e w5 ⟨rfl, hb⟩
  have B_w : Hid (Below w.heap.size w w5) := below_on2 B_w.out hb
  have B_wa : Hid (Below wa.heap.size wa w5) := below_on2 B_wa.out hb
  have B_w1 : Hid (Below w1.heap.size w1 w5) := below_on2 B_w1.out hb
  have B_w2 : Hid (Below w2.heap.size w2 w5) := below_on2 B_w2.out hb
  have B_w3 : Hid (Below w3.heap.size w3 w5) := below_on2 B_w3.out hb
  have B_wb : Hid (Below wb.heap.size wb w5) := below_on2 B_wb.out hb
  have B_w4 : Hid (Below w4.heap.size w4 w5) := below_on2 B_w4.out hb
  have B_wc : Hid (Below wc.heap.size wc w5) := hb
  clear hb
  go_wp2_with fail
  have HCT := rSameInts_any QA TA qn qc tn tc (placeOuts f c ins) (placeOuts f c ins) w5 (HQ.out.up B_w3.out) (HT.out.up B_w4.out) HQN.out HTN.out
  rw [decide_eq_true rfl] at HCT
  with_reducible refine HCT.mono ?_
  clear HCT
  rintro e w6 ⟨rfl, hb⟩
  have B_w : Hid (Below w.heap.size w w6) := below_on2 B_w.out hb
  have B_wa : Hid (Below wa.heap.size wa w6) := below_on2 B_wa.out hb
  have B_w1 : Hid (Below w1.heap.size w1 w6) := below_on2 B_w1.out hb
  have B_w2 : Hid (Below w2.heap.size w2 w6) := below_on2 B_w2.out hb
  have B_w3 : Hid (Below w3.heap.size w3 w6) := below_on2 B_w3.out hb
  have B_wb : Hid (Below wb.heap.size wb w6) := below_on2 B_wb.out hb
  have B_w4 : Hid (Below w4.heap.size w4 w6) := below_on2 B_w4.out hb
  have B_wc : Hid (Below wc.heap.size wc w6) := below_on2 B_wc.out hb
  have B_w5 : Hid (Below w5.heap.size w5 w6) := hb
  clear hb
  go_wp2_with fail
  refine (alive_any w6).mono ?_
  rintro e w9 ⟨rfl, hb⟩
  have HBE : Hid (Below w.heap.size w w9) := below_on2 B_w.out hb
  clear hb
  go_wp2
  go_ret
  exact ⟨rfl, HBE.out⟩
end Go.Proofs.Ytofflkfkakddkaa
