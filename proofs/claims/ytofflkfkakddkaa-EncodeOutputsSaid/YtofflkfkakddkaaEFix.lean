/-
  Fix of the program and of the reference, walked.
-/
import Derived.Test.YtofflkfkakddkaaEVars
import Derived.Test.YtofflkfkakddkaaEAdd
import Derived.Test.YtofflkfkakddkaaEClone
import Derived.Test.YtofflkfkakddkaaEPost
import Derived.Test.YtofflkfkakddkaaRegL
import Derived.StillTailTactics
namespace Go.Proofs.Ytofflkfkakddkaa
open Go.RowKit
set_option linter.unusedSimpArgs false
set_option linter.unusedVariables false
set_option maxRecDepth 100000 in
set_option maxHeartbeats 10000000 in
theorem rFix_any (f : Fml) (vs : List Int) (bs : List Bool) (FA VA BA : Option Addr) (fn fc n vc m bc : Nat) (sl : List Sl) (w : World)
    (hf : FAt w f FA fn sl) (hv : Rd w w.heap.size 1 VA n (ints vs)) (hbs : Rd w w.heap.size 1 BA m (bools bs)) (hfn : fn ≤ 400000) (hn : n ≤ 100000) (hm : m ≤ maxLen) :
    Calls Try.prog 19 #[.agg #[.int .i64 f.vars, .slice FA fn fc], .slice VA n vc, .slice BA m bc] w (FmlPost (fixR f vs bs) (fixErr f vs bs) w) := by
  have HF : Hid (FAt w f FA fn sl) := hf
  have HV : Hid (Rd w w.heap.size 1 VA n (ints vs)) := hv
  have HBS : Hid (Rd w w.heap.size 1 BA m (bools bs)) := hbs
  have HLV : Hid (vs.length = n) := by have := hv.1; rw [ints_length, Nat.mul_one] at this; exact this
  have HLB : Hid (bs.length = m) := by have := hbs.1; rw [bools_length, Nat.mul_one] at this; exact this
  have HFL : Hid (f.cls.length = fn) := hf.wl
  have hm3 := hf.n63
  have HNM : Hid (n ≤ maxLen) := (by show _ ≤ _; unfold maxLen; omega)
  unfold maxLen at hm hm3
  clear hf hv hbs
  by_cases hnm : n = m
  case neg =>
    have hns : ((n : Int) != (m : Int)) = true := by rw [bne_iff_ne]; omega
    have HCE : Hid (fixR f vs bs = noFml ∧ fixErr f vs bs = 2) := fixBad (by unfold fixOk; rw [decide_eq_false (by rw [HLV.out, HLB.out]; exact hnm)]; simp)
    clear hnm
    go_enter Try.func19, Try.ntmps19
    go_wp2_with fail
    have RF : Hid (Row (World.alloc (World.alloc w (.cells #[.int .i64 f.vars, .slice FA fn fc] 30)) (.cells #[.int .i64 0, .slice none 0 0] 30)) (w.heap.size) 30 [.int .i64 f.vars, .slice FA fn fc]) := by
      have h0 := Row.new w 30 [.int .i64 f.vars, .slice FA fn fc]
      try simp only [World.size_alloc] at h0
      exact (h0.alloc _)
    have RZ : Hid (Row (World.alloc (World.alloc w (.cells #[.int .i64 f.vars, .slice FA fn fc] 30)) (.cells #[.int .i64 0, .slice none 0 0] 30)) (w.heap.size + 1) 30 [.int .i64 0, .slice none 0 0]) := by
      have h0 := Row.new (World.alloc w (.cells #[.int .i64 f.vars, .slice FA fn fc] 30)) 30 [.int .i64 0, .slice none 0 0]
      try simp only [World.size_alloc] at h0
      exact h0
    have hgr9 : Below w.heap.size w (World.alloc (World.alloc w (.cells #[.int .i64 f.vars, .slice FA fn fc] 30)) (.cells #[.int .i64 0, .slice none 0 0] 30)) := by go_grown
    have B_w : Hid (Below w.heap.size w (World.alloc (World.alloc w (.cells #[.int .i64 f.vars, .slice FA fn fc] 30)) (.cells #[.int .i64 0, .slice none 0 0] 30))) := hgr9
    clear hgr9
    revert RF RZ B_w
    generalize (World.alloc (World.alloc w (.cells #[.int .i64 f.vars, .slice FA fn fc] 30)) (.cells #[.int .i64 0, .slice none 0 0] 30)) = wa
    intro RF RZ B_w
    with_reducible refine (rFRight_any f FA fn fc sl wa (HF.out.up B_w.out)).mono ?_
    rintro e w1 ⟨rfl, hb⟩
    have B_w : Hid (Below w.heap.size w w1) := below_on2 B_w.out hb
    have B_wa : Hid (Below wa.heap.size wa w1) := hb
    clear hb
    cases hr1 : rightF f
    · have RZb : Hid (Row w1 (w.heap.size + 1) 30 [.int .i64 0, .slice none 0 0]) := (rowCells RZ.out B_wa.out)
      have d0 := RZb.out.cell 0
      have d1 := RZb.out.cell 1
      have dl := RZb.out.lt
      simp only [List.getElem?_cons_zero, List.getElem?_cons_succ] at d0 d1
      have df0 := RZb.out.frozen 0
      have df1 := RZb.out.frozen 1
      have BB := B_w.out
      go_wp2
      exact bodyPost_ret (v := .tuple #[.agg #[.int .i64 0, .slice none 0 0], .int .i64 2]) (by simp [results, Try.results19, go_sem, d0, d1]) rfl (fmlPost_err HCE.out.1 HCE.out.2 (by go_grown))
    · have RZb : Hid (Row w1 (w.heap.size + 1) 30 [.int .i64 0, .slice none 0 0]) := (rowCells RZ.out B_wa.out)
      have d0 := RZb.out.cell 0
      have d1 := RZb.out.cell 1
      have dl := RZb.out.lt
      simp only [List.getElem?_cons_zero, List.getElem?_cons_succ] at d0 d1
      have df0 := RZb.out.frozen 0
      have df1 := RZb.out.frozen 1
      have BB := B_w.out
      go_wp2
      exact bodyPost_ret (v := .tuple #[.agg #[.int .i64 0, .slice none 0 0], .int .i64 2]) (by simp [results, Try.results19, go_sem, d0, d1]) rfl (fmlPost_err HCE.out.1 HCE.out.2 (by go_grown))
  subst hnm
  have hns : ((n : Int) != (n : Int)) = false := by simp
  go_enter Try.func19, Try.ntmps19
  go_wp2_with fail
  have RF : Hid (Row (World.alloc (World.alloc w (.cells #[.int .i64 f.vars, .slice FA fn fc] 30)) (.cells #[.int .i64 0, .slice none 0 0] 30)) (w.heap.size) 30 [.int .i64 f.vars, .slice FA fn fc]) := by
    have h0 := Row.new w 30 [.int .i64 f.vars, .slice FA fn fc]
    try simp only [World.size_alloc] at h0
    exact (h0.alloc _)
  have RZ : Hid (Row (World.alloc (World.alloc w (.cells #[.int .i64 f.vars, .slice FA fn fc] 30)) (.cells #[.int .i64 0, .slice none 0 0] 30)) (w.heap.size + 1) 30 [.int .i64 0, .slice none 0 0]) := by
    have h0 := Row.new (World.alloc w (.cells #[.int .i64 f.vars, .slice FA fn fc] 30)) 30 [.int .i64 0, .slice none 0 0]
    try simp only [World.size_alloc] at h0
    exact h0
  have hgr9 : Below w.heap.size w (World.alloc (World.alloc w (.cells #[.int .i64 f.vars, .slice FA fn fc] 30)) (.cells #[.int .i64 0, .slice none 0 0] 30)) := by go_grown
  have B_w : Hid (Below w.heap.size w (World.alloc (World.alloc w (.cells #[.int .i64 f.vars, .slice FA fn fc] 30)) (.cells #[.int .i64 0, .slice none 0 0] 30))) := hgr9
  clear hgr9
  revert RF RZ B_w
  generalize (World.alloc (World.alloc w (.cells #[.int .i64 f.vars, .slice FA fn fc] 30)) (.cells #[.int .i64 0, .slice none 0 0] 30)) = wa
  intro RF RZ B_w
  with_reducible refine (rFRight_any f FA fn fc sl wa (HF.out.up B_w.out)).mono ?_
  rintro e w1 ⟨rfl, hb⟩
  have B_w : Hid (Below w.heap.size w w1) := below_on2 B_w.out hb
  have B_wa : Hid (Below wa.heap.size wa w1) := hb
  clear hb
  cases hr1 : rightF f
  · have HCE : Hid (fixR f vs bs = noFml ∧ fixErr f vs bs = 2) := fixBad (by unfold fixOk; rw [hr1]; rfl)
    clear hr1
    have RZb : Hid (Row w1 (w.heap.size + 1) 30 [.int .i64 0, .slice none 0 0]) := (rowCells RZ.out B_wa.out)
    have d0 := RZb.out.cell 0
    have d1 := RZb.out.cell 1
    have dl := RZb.out.lt
    simp only [List.getElem?_cons_zero, List.getElem?_cons_succ] at d0 d1
    have df0 := RZb.out.frozen 0
    have df1 := RZb.out.frozen 1
    have BB := B_w.out
    go_wp2
    exact bodyPost_ret (v := .tuple #[.agg #[.int .i64 0, .slice none 0 0], .int .i64 2]) (by simp [results, Try.results19, go_sem, d0, d1]) rfl (fmlPost_err HCE.out.1 HCE.out.2 (by go_grown))
  have kR : Hid (Row w1 (w.heap.size) 30 [.int .i64 f.vars, .slice FA fn fc]) := (rowCells RF.out B_wa.out)
  have k0 := kR.out.cell 0
  have k1 := kR.out.cell 1
  have kl := kR.out.lt
  simp only [List.getElem?_cons_zero, List.getElem?_cons_succ] at k0 k1
  clear kR
  have HR1 : Hid (rightF f = true) := hr1
  clear hr1
  go_wp2_with fail
  with_reducible refine (rVars_any f.vars (.slice FA fn fc) VA n vc vs w1 (HV.out.up B_w.out) HNM.out).mono ?_
  rintro e w2 ⟨rfl, hb⟩
  have B_w : Hid (Below w.heap.size w w2) := below_on2 B_w.out hb
  have B_wa : Hid (Below wa.heap.size wa w2) := below_on2 B_wa.out hb
  have B_w1 : Hid (Below w1.heap.size w1 w2) := hb
  clear k0 k1 kl
  clear hb
  cases hr3 : varsOk f.vars vs
  · have HCE : Hid (fixR f vs bs = noFml ∧ fixErr f vs bs = 2) := fixBad (by unfold fixOk; rw [hr3]; simp)
    clear hr3
    have RZb : Hid (Row w2 (w.heap.size + 1) 30 [.int .i64 0, .slice none 0 0]) := (rowCells RZ.out B_wa.out)
    have d0 := RZb.out.cell 0
    have d1 := RZb.out.cell 1
    have dl := RZb.out.lt
    simp only [List.getElem?_cons_zero, List.getElem?_cons_succ] at d0 d1
    have df0 := RZb.out.frozen 0
    have df1 := RZb.out.frozen 1
    have BB := B_w.out
    go_wp2
    exact bodyPost_ret (v := .tuple #[.agg #[.int .i64 0, .slice none 0 0], .int .i64 2]) (by simp [results, Try.results19, go_sem, d0, d1]) rfl (fmlPost_err HCE.out.1 HCE.out.2 (by go_grown))
  have HOK : Hid (fixOk f vs bs = true) := (by show _ = _; unfold fixOk; rw [HR1.out, hr3, decide_eq_true (HLV.out.trans HLB.out.symm)]; rfl)
  have HR3 : Hid (varsOk f.vars vs = true) := hr3
  have hfv : 0 ≤ f.vars ∧ f.vars ≤ 65536 := by
    have := HR1.out
    unfold rightF sizesF at this
    simp only [Bool.and_eq_true, decide_eq_true_eq] at this
    exact ⟨this.1.1, this.1.2.1⟩
  obtain ⟨hfv1, hfv2⟩ := hfv
  clear hr3 hns
  have kR : Hid (Row w2 (w.heap.size) 30 [.int .i64 f.vars, .slice FA fn fc]) := (rowCells RF.out B_wa.out)
  have k0 := kR.out.cell 0
  have k1 := kR.out.cell 1
  have kl := kR.out.lt
  simp only [List.getElem?_cons_zero, List.getElem?_cons_succ] at k0 k1
  clear kR
  go_wp2_with (at_builtin; refine wpList_app rfl (.tmp 32) (.tmp 34) 28 rfl w.heap.size 23 (.slice none 0 0) 1 24 Try.underlying28 row_infoE rfl (by decide) (by decide) (.slice none 0 0) 0 [] rfl ?own w.heap.size FA fn fc (slCells sl) rfl ?rd (slCells_one _) ?hb ?hbase ?_)
  case own => exact World.ownsRow_nil _ _ _ _
  case rd => exact HF.out.rows.below (B_w.out.alloc B_w.out.size _) (Nat.le_refl _)
  case hb => omega
  case hbase => have := B_w.out.size; first | (simp; omega) | omega
  intro v' w' hown' hgrow' hat'
  obtain ⟨CA, cx, rfl, _⟩ := Rd.own hown'
  have RO5 : Hid (Row w' w2.heap.size 30 [.int .i64 f.vars, .slice none 0 0]) := (Row.new w2 30 [.int .i64 f.vars, .slice none 0 0]).grown hgrow' (by simp [Value.ownBlock])
  have BW5 : Hid (Below w.heap.size w w') := (B_w.out.alloc B_w.out.size _).grown hgrow' (by have := B_w.out.size; simp; omega) (fun k hk => by simp [Value.ownBlock] at hk)
  have RZ5 : Hid (Row w' (w.heap.size + 1) 30 [.int .i64 0, .slice none 0 0]) := (Row.alloc (rowCells RZ.out B_wa.out) _).grown hgrow' (by simp [Value.ownBlock])
  have EO5 : Hid (EOwn w' w.heap.size w.heap.size (.slice CA fn cx) sl f.cls) := EOwn.ofFAt HF.out BW5.out (by simpa using hown')
  have hgb : w.heap.size + 1 < w2.heap.size := (by have := (show Row w2 _ _ _ from (rowCells RZ.out B_wa.out)).lt; exact this)
  clear hown' hgrow' hat'
  have e0 := RO5.out.cell 0
  have e1 := RO5.out.cell 1
  have el := RO5.out.lt
  simp only [List.getElem?_cons_zero, List.getElem?_cons_succ] at e0 e1
  have ef0 := RO5.out.frozen 0
  have ef1 := RO5.out.frozen 1
  go_wp2
  have RO6 : Hid (Row (World.setCell w' ⟨w2.heap.size, 1, none⟩ (.slice CA fn cx)) w2.heap.size 30 [.int .i64 f.vars, .slice CA fn cx]) := RO5.out.set 1 _
  have RZ6 : Hid (Row (World.setCell w' ⟨w2.heap.size, 1, none⟩ (.slice CA fn cx)) (w.heap.size + 1) 30 [.int .i64 0, .slice none 0 0]) := RZ5.out.far (p := ⟨w2.heap.size, 1, none⟩) (by show w.heap.size + 1 ≠ w2.heap.size; omega) _
  have BW6 : Hid (Below w.heap.size w (World.setCell w' ⟨w2.heap.size, 1, none⟩ (.slice CA fn cx))) := BW5.out.setCell (p := ⟨w2.heap.size, 1, none⟩) (by show _ ≤ w2.heap.size; omega) _
  have EO6 : Hid (EOwn (World.setCell w' ⟨w2.heap.size, 1, none⟩ (.slice CA fn cx)) w.heap.size w.heap.size (.slice CA fn cx) sl (f.cls ++ fixTo vs bs 0)) := (by
    show EOwn _ _ _ _ _ _
    rw [show fixTo vs bs 0 = [] from rfl, List.append_nil]
    exact EO5.out.far (p := ⟨w2.heap.size, 1, none⟩) RO5.out (by decide) (by decide) (by show _ ≤ w2.heap.size; omega) _)
  clear RO5 RZ5 BW5 EO5 e0 e1 el ef0 ef1
  clear k0 k1 kl
  clear B_w B_wa B_w1 RF RZ
  revert RO6 RZ6 BW6 EO6
  generalize World.setCell w' ⟨w2.heap.size, 1, none⟩ (.slice CA fn cx) = w6
  revert hgb
  generalize w2.heap.size = gb
  intro hgb RO6 RZ6 BW6 EO6
  go_loopg [9, 10] n (fun gg s9 _ wr => ∃ (i : Nat) (v : Value) (sl2 : List Sl), i ≤ n ∧ n - i ≤ gg ∧ s9 = .int .i64 i ∧ Aside (Below w.heap.size w wr) ∧ Aside (Row wr (w.heap.size + 1) 30 [.int .i64 0, .slice none 0 0]) ∧ Aside (Row wr gb 30 [.int .i64 f.vars, v]) ∧ Aside (EOwn wr w.heap.size w.heap.size v sl2 (f.cls ++ fixTo vs bs i)))
  case atStart => exact ⟨0, _, _, Nat.zero_le _, by omega, rfl, BW6.out, RZ6.out, RO6.out, EO6.out⟩
  case round =>
    clear BW6 RZ6 RO6 EO6
    obtain ⟨i, v, sl2, hi, hgg, rfl, BW, RZ, RO, EO⟩ := hrel
    obtain ⟨XA, xc, rfl⟩ := EO.out.form
    obtain ⟨xn, hxn⟩ : ∃ xn, xn = (f.cls ++ fixTo vs bs i).length := ⟨_, rfl⟩
    have HXN : Hid ((f.cls ++ fixTo vs bs i).length = xn) := hxn.symm
    have hxb : xn ≤ 500000 := by
      rw [hxn, List.length_append, HFL.out, fixTo_length]; omega
    rw [← hxn] at RO EO
    have EO : Hid (EOwn wr w.heap.size w.heap.size (.slice XA xn xc) sl2 (f.cls ++ fixTo vs bs i)) := EO.out
    have RO : Hid (Row wr gb 30 [.int .i64 f.vars, .slice XA xn xc]) := RO.out
    clear hxn
    by_cases hlt : i < n
    · have hltz : (i : Int) < (n : Int) := by omega
      have hsz := BW.out.size
      have EOX : Hid (wr.ownsRow w.heap.size 23 1 (.slice XA xn xc) xn (slCells sl2)) := (by have h9 := EO.out.own; rw [HXN.out] at h9; exact h9)
      obtain ⟨ad, rfl, _, hcv⟩ := (HV.out.up BW.out).int hlt
      obtain ⟨ae, rfl, _, hcb⟩ := (HBS.out.up BW.out).bool hlt
      obtain ⟨x1, x2⟩ := varOk_at HR3.out (k := i) (by rw [HLV.out]; exact hlt)
      have HFX : Hid (fixTo vs bs (i + 1) = fixTo vs bs i ++ [[if bs.getD i false = true then vs.getD i 0 else -(vs.getD i 0)]]) := fixTo_succ vs bs i
      generalize vs.getD i 0 = x at hcv x1 x2 HFX
      generalize bs.getD i false = b at hcb HFX
      have e0 := RO.out.cell 0
      have e1 := RO.out.cell 1
      have el := RO.out.lt
      simp only [List.getElem?_cons_zero, List.getElem?_cons_succ] at e0 e1
      have ef0 := RO.out.frozen 0
      have ef1 := RO.out.frozen 1
      cases b
      · have HFX2 : Hid (fixTo vs bs (i + 1) = fixTo vs bs i ++ [[-x]]) := HFX.out
        clear HFX
        go_wp2_with (at_builtin; refine wpList_app rfl (.tmp 55) (.tmp 58) 28 rfl w.heap.size 23 (.slice none 0 0) 1 24 Try.underlying28 row_infoE rfl (by decide) (by decide) (.slice XA xn xc) xn (slCells sl2) rfl ?own (wr.heap.size + 1 + 1) (some ⟨wr.heap.size + 1, 0, none⟩) 1 1 (slCells [⟨some ⟨wr.heap.size, 0, none⟩, 1, 1⟩]) rfl ?rd (slCells_one _) ?hb ?hbase ?_)
        case own => exact (EOX.out.alloc _).alloc _
        case rd => exact ((rowNew1 wr _ 23 [.slice (some ⟨wr.heap.size, 0, none⟩) 1 1]).rd (sz := 1) (n := 1) rfl).more (by simp)
        case hb => omega
        case hbase => first | (simp; omega) | omega
        intro v' w' hown' hgrow' hat'
        obtain ⟨YA, yc, rfl, _⟩ := Rd.own hown'
        have E1 : Hid (EOwn (World.alloc (World.alloc wr (.cells #[.int .i64 (-x)] 3)) (.cells #[.slice (some ⟨wr.heap.size, 0, none⟩) 1 1] 23)) w.heap.size w.heap.size (.slice XA xn xc) sl2 (f.cls ++ fixTo vs bs i)) := EO.out.up BW.out.size (show Below _ _ _ by go_grown)
        have EO1 : Hid (EOwn w' w.heap.size w.heap.size (.slice YA (xn + 1) yc) (sl2 ++ [⟨some ⟨wr.heap.size, 0, none⟩, 1, 1⟩]) (f.cls ++ fixTo vs bs (i + 1))) := (by
          show EOwn _ _ _ _ _ _
          rw [HFX2.out, ← List.append_assoc]
          refine E1.out.app (by simp; omega) rfl (fun j hj => ?_) hgrow' (by rw [HXN.out]; exact hown')
          obtain rfl : j = 0 := by simp at hj; omega
          exact ⟨.inr ⟨wr.heap.size, hsz, rfl, rfl, (Row.new wr 3 [.int .i64 (-x)]).alloc _⟩, by show 1 ≤ maxLen; unfold maxLen; omega⟩)
        have RO1 : Hid (Row w' gb 30 [.int .i64 f.vars, .slice XA xn xc]) := ((RO.out.alloc _).alloc _).grown hgrow' (fun e => own_ne_row EO.out.own RO.out (by decide) e.symm)
        have RZ1 : Hid (Row w' (w.heap.size + 1) 30 [.int .i64 0, .slice none 0 0]) := ((RZ.out.alloc _).alloc _).grown hgrow' (fun e => own_ne_row EO.out.own RZ.out (by decide) e.symm)
        have BW1 : Hid (Below w.heap.size w w') := ((BW.out.alloc hsz _).alloc (by simp; omega) _).grown hgrow' (by simp; omega) (fun q hq => (EO.out.own.lt q hq).1)
        clear hown' hgrow' hat' E1 e0 e1 el ef1 EOX
        have e0 := RO1.out.cell 0
        have e1 := RO1.out.cell 1
        have el := RO1.out.lt
        simp only [List.getElem?_cons_zero, List.getElem?_cons_succ] at e0 e1
        have ef0 := RO1.out.frozen 0
        have ef1 := RO1.out.frozen 1
        go_wp2
        go_roundg (n - (i + 1))
        case measure => omega
        case rel =>
          refine ⟨i + 1, _, _, by omega, by omega, by go_num, BW1.out.setCell (p := ⟨gb, 1, none⟩) (by show _ ≤ gb; omega) _, RZ1.out.far (p := ⟨gb, 1, none⟩) (by show w.heap.size + 1 ≠ gb; omega) _, RO1.out.set 1 _, EO1.out.far (p := ⟨gb, 1, none⟩) RO1.out (by decide) (by decide) (by show _ ≤ gb; omega) _⟩
      · have HFX2 : Hid (fixTo vs bs (i + 1) = fixTo vs bs i ++ [[x]]) := HFX.out
        clear HFX
        go_wp2_with (at_builtin; refine wpList_app rfl (.tmp 55) (.tmp 58) 28 rfl w.heap.size 23 (.slice none 0 0) 1 24 Try.underlying28 row_infoE rfl (by decide) (by decide) (.slice XA xn xc) xn (slCells sl2) rfl ?own (wr.heap.size + 1 + 1) (some ⟨wr.heap.size + 1, 0, none⟩) 1 1 (slCells [⟨some ⟨wr.heap.size, 0, none⟩, 1, 1⟩]) rfl ?rd (slCells_one _) ?hb ?hbase ?_)
        case own => exact (EOX.out.alloc _).alloc _
        case rd => exact ((rowNew1 wr _ 23 [.slice (some ⟨wr.heap.size, 0, none⟩) 1 1]).rd (sz := 1) (n := 1) rfl).more (by simp)
        case hb => omega
        case hbase => first | (simp; omega) | omega
        intro v' w' hown' hgrow' hat'
        obtain ⟨YA, yc, rfl, _⟩ := Rd.own hown'
        have E1 : Hid (EOwn (World.alloc (World.alloc wr (.cells #[.int .i64 x] 3)) (.cells #[.slice (some ⟨wr.heap.size, 0, none⟩) 1 1] 23)) w.heap.size w.heap.size (.slice XA xn xc) sl2 (f.cls ++ fixTo vs bs i)) := EO.out.up BW.out.size (show Below _ _ _ by go_grown)
        have EO1 : Hid (EOwn w' w.heap.size w.heap.size (.slice YA (xn + 1) yc) (sl2 ++ [⟨some ⟨wr.heap.size, 0, none⟩, 1, 1⟩]) (f.cls ++ fixTo vs bs (i + 1))) := (by
          show EOwn _ _ _ _ _ _
          rw [HFX2.out, ← List.append_assoc]
          refine E1.out.app (by simp; omega) rfl (fun j hj => ?_) hgrow' (by rw [HXN.out]; exact hown')
          obtain rfl : j = 0 := by simp at hj; omega
          exact ⟨.inr ⟨wr.heap.size, hsz, rfl, rfl, (Row.new wr 3 [.int .i64 x]).alloc _⟩, by show 1 ≤ maxLen; unfold maxLen; omega⟩)
        have RO1 : Hid (Row w' gb 30 [.int .i64 f.vars, .slice XA xn xc]) := ((RO.out.alloc _).alloc _).grown hgrow' (fun e => own_ne_row EO.out.own RO.out (by decide) e.symm)
        have RZ1 : Hid (Row w' (w.heap.size + 1) 30 [.int .i64 0, .slice none 0 0]) := ((RZ.out.alloc _).alloc _).grown hgrow' (fun e => own_ne_row EO.out.own RZ.out (by decide) e.symm)
        have BW1 : Hid (Below w.heap.size w w') := ((BW.out.alloc hsz _).alloc (by simp; omega) _).grown hgrow' (by simp; omega) (fun q hq => (EO.out.own.lt q hq).1)
        clear hown' hgrow' hat' E1 e0 e1 el ef1 EOX
        have e0 := RO1.out.cell 0
        have e1 := RO1.out.cell 1
        have el := RO1.out.lt
        simp only [List.getElem?_cons_zero, List.getElem?_cons_succ] at e0 e1
        have ef0 := RO1.out.frozen 0
        have ef1 := RO1.out.frozen 1
        go_wp2
        go_roundg (n - (i + 1))
        case measure => omega
        case rel =>
          refine ⟨i + 1, _, _, by omega, by omega, by go_num, BW1.out.setCell (p := ⟨gb, 1, none⟩) (by show _ ≤ gb; omega) _, RZ1.out.far (p := ⟨gb, 1, none⟩) (by show w.heap.size + 1 ≠ gb; omega) _, RO1.out.set 1 _, EO1.out.far (p := ⟨gb, 1, none⟩) RO1.out (by decide) (by decide) (by show _ ≤ gb; omega) _⟩
    · have hltz : ¬ (i : Int) < (n : Int) := by omega
      obtain rfl : n = i := by omega
      have HKF : Hid ((fixF f vs bs).cls = f.cls ++ fixTo vs bs n) := (by show _ = _; unfold fixF; rw [HLV.out])
      rw [← HKF.out] at EO HXN
      have e0 := RO.out.cell 0
      have e1 := RO.out.cell 1
      have el := RO.out.lt
      simp only [List.getElem?_cons_zero, List.getElem?_cons_succ] at e0 e1
      go_wp2_with fail
      have HCT := rFits_any f.vars XA xn xc wr (by unfold maxLen; omega)
      have RZ0 : Hid (Row wr (w.heap.size + 1) 30 [.int .i64 0, .slice none 0 0]) := RZ.out
      have EO0 : Hid (EOwn wr w.heap.size w.heap.size (.slice XA xn xc) sl2 (fixF f vs bs).cls) := EO.out
      have BW0 : Hid (Below w.heap.size w wr) := BW.out
      clear RZ EO BW RO e0 e1 el
      by_cases hft : f.vars ≤ 65536 ∧ xn ≤ 262144
      · have HCE : Hid (fixR f vs bs = fixF f vs bs ∧ fixErr f vs bs = 0) := fixGood HOK.out (by
          unfold fitsErr; rw [if_pos]; show f.vars ≤ 65536 ∧ (fixF f vs bs).cls.length ≤ 262144; rw [HXN.out]; exact hft)
        rw [if_pos hft, if_pos hft] at HCT
        clear hft
        with_reducible refine HCT.mono ?_
        clear HCT
        rintro e w6 ⟨rfl, hG⟩
        have hb := grown_bel hG
        have RZ9 : Hid (Row w6 (w.heap.size + 1) 30 [.int .i64 0, .slice none 0 0]) := rowCells RZ0.out hb
        have EO9 : Hid (EOwn w6 w.heap.size w.heap.size (.slice XA xn xc) sl2 (fixF f vs bs).cls) := EO0.out.up BW0.out.size hb
        have BW9 : Hid (Below w.heap.size w w6) := below_on2 BW0.out hb
        have HRES : Hid (FmlPost (fixR f vs bs) (fixErr f vs bs) w (.returned (.tuple #[.agg #[.int .i64 f.vars, .slice XA xn xc], .int .i64 0])) (World.setCell (World.setCell w6 ⟨w.heap.size + 1, 0, none⟩ (.int .i64 f.vars)) ⟨w.heap.size + 1, 1, none⟩ (.slice XA xn xc))) := by
          have Z1 := RZ9.out.set 0 (.int .i64 f.vars)
          obtain ⟨q1, q2⟩ := HCE.out
          show FmlPost _ _ _ _ _
          rw [q1, q2]
          have hB := (BW9.out.setCell (p := ⟨w.heap.size + 1, 0, none⟩) (by show _ ≤ w.heap.size + 1; omega) (.int .i64 f.vars)).setCell (p := ⟨w.heap.size + 1, 1, none⟩) (by show _ ≤ w.heap.size + 1; omega) (.slice XA xn xc)
          refine ⟨XA, xn, xc, sl2, rfl, ?_, hB⟩
          exact ((EO9.out.far (p := ⟨w.heap.size + 1, 0, none⟩) RZ9.out (by decide) (by decide) (by show _ ≤ w.heap.size + 1; omega) (.int .i64 f.vars)).far (p := ⟨w.heap.size + 1, 1, none⟩) Z1 (by decide) (by decide) (by show _ ≤ w.heap.size + 1; omega) (.slice XA xn xc)).fat hB.size HXN.out (by unfold maxLen; omega)
        have Z9 := (RZ9.out.set 0 (.int .i64 f.vars)).set 1 (.slice XA xn xc)
        have q0 := Z9.cell 0
        have q1 := Z9.cell 1
        simp only [List.getElem?_cons_zero, List.getElem?_cons_succ, List.set_cons_zero, List.set_cons_succ] at q0 q1
        clear Z9 EO9 BW9 hb hG
        have d0 := RZ9.out.cell 0
        have d1 := RZ9.out.cell 1
        have dl := RZ9.out.lt
        simp only [List.getElem?_cons_zero, List.getElem?_cons_succ] at d0 d1
        have df0 := RZ9.out.frozen 0
        have df1 := RZ9.out.frozen 1
        clear RZ9
        go_wp2
        refine bodyPost_ret (v := .tuple #[.agg #[.int .i64 f.vars, .slice XA xn xc], .int .i64 0]) (by simp [results, Try.results19, go_sem, q0, q1]) rfl ?_
        exact HRES.out
      · have HCE : Hid (fixR f vs bs = noFml ∧ fixErr f vs bs = 6) := fixBig HOK.out (by
          unfold fitsErr; rw [if_neg]; show ¬ (f.vars ≤ 65536 ∧ (fixF f vs bs).cls.length ≤ 262144); rw [HXN.out]; exact hft)
        rw [if_neg hft, if_neg hft] at HCT
        clear hft
        with_reducible refine HCT.mono ?_
        clear HCT
        rintro e w6 ⟨rfl, hG⟩
        have hb := grown_bel hG
        have RZ6 : Hid (Row w6 (w.heap.size + 1) 30 [.int .i64 0, .slice none 0 0]) := rowCells RZ0.out hb
        have BB : Below w.heap.size w w6 := below_on2 BW0.out hb
        clear hb hG RZ0 EO0 BW0
        have d0 := RZ6.out.cell 0
        have d1 := RZ6.out.cell 1
        have dl := RZ6.out.lt
        simp only [List.getElem?_cons_zero, List.getElem?_cons_succ] at d0 d1
        have df0 := RZ6.out.frozen 0
        have df1 := RZ6.out.frozen 1
        go_wp2
        exact bodyPost_ret (v := .tuple #[.agg #[.int .i64 0, .slice none 0 0], .int .i64 6]) (by simp [results, Try.results19, go_sem, d0, d1]) rfl (fmlPost_err HCE.out.1 HCE.out.2 (by go_grown))
set_option maxRecDepth 100000 in
set_option maxHeartbeats 10000000 in
theorem eFix_any (f : Fml) (vs : List Int) (bs : List Bool) (FA VA BA : Option Addr) (fn fc n vc m bc : Nat) (sl : List Sl) (w : World)
    (hf : FAt w f FA fn sl) (hv : Rd w w.heap.size 1 VA n (ints vs)) (hbs : Rd w w.heap.size 1 BA m (bools bs)) (hfn : fn ≤ 400000) (hn : n ≤ 100000) (hm : m ≤ maxLen) :
    Calls Try.prog 18 #[.agg #[.int .i64 f.vars, .slice FA fn fc], .slice VA n vc, .slice BA m bc] w (FmlPost (fixR f vs bs) (fixErr f vs bs) w) := by
  have HF : Hid (FAt w f FA fn sl) := hf
  have HV : Hid (Rd w w.heap.size 1 VA n (ints vs)) := hv
  have HBS : Hid (Rd w w.heap.size 1 BA m (bools bs)) := hbs
  have HLV : Hid (vs.length = n) := by have := hv.1; rw [ints_length, Nat.mul_one] at this; exact this
  have HLB : Hid (bs.length = m) := by have := hbs.1; rw [bools_length, Nat.mul_one] at this; exact this
  have HFL : Hid (f.cls.length = fn) := hf.wl
  have hm3 := hf.n63
  have HNM : Hid (n ≤ maxLen) := (by show _ ≤ _; unfold maxLen; omega)
  unfold maxLen at hm hm3
  clear hf hv hbs
  by_cases hnm : n = m
  case neg =>
    have hns : ((n : Int) != (m : Int)) = true := by rw [bne_iff_ne]; omega
    have HCE : Hid (fixR f vs bs = noFml ∧ fixErr f vs bs = 2) := fixBad (by unfold fixOk; rw [decide_eq_false (by rw [HLV.out, HLB.out]; exact hnm)]; simp)
    clear hnm
    go_enter Try.func18, Try.ntmps18
    go_wp2_with fail
    have RF : Hid (Row (World.alloc (World.alloc w (.cells #[.int .i64 f.vars, .slice FA fn fc] 30)) (.cells #[.int .i64 0, .slice none 0 0] 30)) (w.heap.size) 30 [.int .i64 f.vars, .slice FA fn fc]) := by
      have h0 := Row.new w 30 [.int .i64 f.vars, .slice FA fn fc]
      try simp only [World.size_alloc] at h0
      exact (h0.alloc _)
    have RZ : Hid (Row (World.alloc (World.alloc w (.cells #[.int .i64 f.vars, .slice FA fn fc] 30)) (.cells #[.int .i64 0, .slice none 0 0] 30)) (w.heap.size + 1) 30 [.int .i64 0, .slice none 0 0]) := by
      have h0 := Row.new (World.alloc w (.cells #[.int .i64 f.vars, .slice FA fn fc] 30)) 30 [.int .i64 0, .slice none 0 0]
      try simp only [World.size_alloc] at h0
      exact h0
    have hgr9 : Below w.heap.size w (World.alloc (World.alloc w (.cells #[.int .i64 f.vars, .slice FA fn fc] 30)) (.cells #[.int .i64 0, .slice none 0 0] 30)) := by go_grown
    have B_w : Hid (Below w.heap.size w (World.alloc (World.alloc w (.cells #[.int .i64 f.vars, .slice FA fn fc] 30)) (.cells #[.int .i64 0, .slice none 0 0] 30))) := hgr9
    clear hgr9
    revert RF RZ B_w
    generalize (World.alloc (World.alloc w (.cells #[.int .i64 f.vars, .slice FA fn fc] 30)) (.cells #[.int .i64 0, .slice none 0 0] 30)) = wa
    intro RF RZ B_w
    with_reducible refine (fRight_any f FA fn fc sl wa (HF.out.up B_w.out)).mono ?_
    rintro e w1 ⟨rfl, hb⟩
    have B_w : Hid (Below w.heap.size w w1) := below_on2 B_w.out hb
    have B_wa : Hid (Below wa.heap.size wa w1) := hb
    clear hb
    cases hr1 : rightF f
    · have RZb : Hid (Row w1 (w.heap.size + 1) 30 [.int .i64 0, .slice none 0 0]) := (rowCells RZ.out B_wa.out)
      have d0 := RZb.out.cell 0
      have d1 := RZb.out.cell 1
      have dl := RZb.out.lt
      simp only [List.getElem?_cons_zero, List.getElem?_cons_succ] at d0 d1
      have df0 := RZb.out.frozen 0
      have df1 := RZb.out.frozen 1
      have BB := B_w.out
      go_wp2
      exact bodyPost_ret (v := .tuple #[.agg #[.int .i64 0, .slice none 0 0], .int .i64 2]) (by simp [results, Try.results18, go_sem, d0, d1]) rfl (fmlPost_err HCE.out.1 HCE.out.2 (by go_grown))
    · have RZb : Hid (Row w1 (w.heap.size + 1) 30 [.int .i64 0, .slice none 0 0]) := (rowCells RZ.out B_wa.out)
      have d0 := RZb.out.cell 0
      have d1 := RZb.out.cell 1
      have dl := RZb.out.lt
      simp only [List.getElem?_cons_zero, List.getElem?_cons_succ] at d0 d1
      have df0 := RZb.out.frozen 0
      have df1 := RZb.out.frozen 1
      have BB := B_w.out
      go_wp2
      exact bodyPost_ret (v := .tuple #[.agg #[.int .i64 0, .slice none 0 0], .int .i64 2]) (by simp [results, Try.results18, go_sem, d0, d1]) rfl (fmlPost_err HCE.out.1 HCE.out.2 (by go_grown))
  subst hnm
  have hns : ((n : Int) != (n : Int)) = false := by simp
  go_enter Try.func18, Try.ntmps18
  go_wp2_with fail
  have RF : Hid (Row (World.alloc (World.alloc w (.cells #[.int .i64 f.vars, .slice FA fn fc] 30)) (.cells #[.int .i64 0, .slice none 0 0] 30)) (w.heap.size) 30 [.int .i64 f.vars, .slice FA fn fc]) := by
    have h0 := Row.new w 30 [.int .i64 f.vars, .slice FA fn fc]
    try simp only [World.size_alloc] at h0
    exact (h0.alloc _)
  have RZ : Hid (Row (World.alloc (World.alloc w (.cells #[.int .i64 f.vars, .slice FA fn fc] 30)) (.cells #[.int .i64 0, .slice none 0 0] 30)) (w.heap.size + 1) 30 [.int .i64 0, .slice none 0 0]) := by
    have h0 := Row.new (World.alloc w (.cells #[.int .i64 f.vars, .slice FA fn fc] 30)) 30 [.int .i64 0, .slice none 0 0]
    try simp only [World.size_alloc] at h0
    exact h0
  have hgr9 : Below w.heap.size w (World.alloc (World.alloc w (.cells #[.int .i64 f.vars, .slice FA fn fc] 30)) (.cells #[.int .i64 0, .slice none 0 0] 30)) := by go_grown
  have B_w : Hid (Below w.heap.size w (World.alloc (World.alloc w (.cells #[.int .i64 f.vars, .slice FA fn fc] 30)) (.cells #[.int .i64 0, .slice none 0 0] 30))) := hgr9
  clear hgr9
  revert RF RZ B_w
  generalize (World.alloc (World.alloc w (.cells #[.int .i64 f.vars, .slice FA fn fc] 30)) (.cells #[.int .i64 0, .slice none 0 0] 30)) = wa
  intro RF RZ B_w
  with_reducible refine (fRight_any f FA fn fc sl wa (HF.out.up B_w.out)).mono ?_
  rintro e w1 ⟨rfl, hb⟩
  have B_w : Hid (Below w.heap.size w w1) := below_on2 B_w.out hb
  have B_wa : Hid (Below wa.heap.size wa w1) := hb
  clear hb
  cases hr1 : rightF f
  · have HCE : Hid (fixR f vs bs = noFml ∧ fixErr f vs bs = 2) := fixBad (by unfold fixOk; rw [hr1]; rfl)
    clear hr1
    have RZb : Hid (Row w1 (w.heap.size + 1) 30 [.int .i64 0, .slice none 0 0]) := (rowCells RZ.out B_wa.out)
    have d0 := RZb.out.cell 0
    have d1 := RZb.out.cell 1
    have dl := RZb.out.lt
    simp only [List.getElem?_cons_zero, List.getElem?_cons_succ] at d0 d1
    have df0 := RZb.out.frozen 0
    have df1 := RZb.out.frozen 1
    have BB := B_w.out
    go_wp2
    exact bodyPost_ret (v := .tuple #[.agg #[.int .i64 0, .slice none 0 0], .int .i64 2]) (by simp [results, Try.results18, go_sem, d0, d1]) rfl (fmlPost_err HCE.out.1 HCE.out.2 (by go_grown))
  have kR : Hid (Row w1 (w.heap.size) 30 [.int .i64 f.vars, .slice FA fn fc]) := (rowCells RF.out B_wa.out)
  have k0 := kR.out.cell 0
  have k1 := kR.out.cell 1
  have kl := kR.out.lt
  simp only [List.getElem?_cons_zero, List.getElem?_cons_succ] at k0 k1
  clear kR
  have HR1 : Hid (rightF f = true) := hr1
  clear hr1
  go_wp2_with fail
  with_reducible refine (eVars_any f.vars (.slice FA fn fc) VA n vc vs w1 (HV.out.up B_w.out) HNM.out).mono ?_
  rintro e w2 ⟨rfl, hb⟩
  have B_w : Hid (Below w.heap.size w w2) := below_on2 B_w.out hb
  have B_wa : Hid (Below wa.heap.size wa w2) := below_on2 B_wa.out hb
  have B_w1 : Hid (Below w1.heap.size w1 w2) := hb
  clear k0 k1 kl
  clear hb
  cases hr3 : varsOk f.vars vs
  · have HCE : Hid (fixR f vs bs = noFml ∧ fixErr f vs bs = 2) := fixBad (by unfold fixOk; rw [hr3]; simp)
    clear hr3
    have RZb : Hid (Row w2 (w.heap.size + 1) 30 [.int .i64 0, .slice none 0 0]) := (rowCells RZ.out B_wa.out)
    have d0 := RZb.out.cell 0
    have d1 := RZb.out.cell 1
    have dl := RZb.out.lt
    simp only [List.getElem?_cons_zero, List.getElem?_cons_succ] at d0 d1
    have df0 := RZb.out.frozen 0
    have df1 := RZb.out.frozen 1
    have BB := B_w.out
    go_wp2
    exact bodyPost_ret (v := .tuple #[.agg #[.int .i64 0, .slice none 0 0], .int .i64 2]) (by simp [results, Try.results18, go_sem, d0, d1]) rfl (fmlPost_err HCE.out.1 HCE.out.2 (by go_grown))
  have HOK : Hid (fixOk f vs bs = true) := (by show _ = _; unfold fixOk; rw [HR1.out, hr3, decide_eq_true (HLV.out.trans HLB.out.symm)]; rfl)
  have HR3 : Hid (varsOk f.vars vs = true) := hr3
  have hfv : 0 ≤ f.vars ∧ f.vars ≤ 65536 := by
    have := HR1.out
    unfold rightF sizesF at this
    simp only [Bool.and_eq_true, decide_eq_true_eq] at this
    exact ⟨this.1.1, this.1.2.1⟩
  obtain ⟨hfv1, hfv2⟩ := hfv
  clear hr3 hns
  have kR : Hid (Row w2 (w.heap.size) 30 [.int .i64 f.vars, .slice FA fn fc]) := (rowCells RF.out B_wa.out)
  have k0 := kR.out.cell 0
  have k1 := kR.out.cell 1
  have kl := kR.out.lt
  simp only [List.getElem?_cons_zero, List.getElem?_cons_succ] at k0 k1
  clear kR
  go_wp2_with fail
  refine wp_region_held_drew (S := fun w' => w'.cell? ⟨w.heap.size, 0, none⟩ = some (.int .i64 f.vars) ∧ w'.cell? ⟨w.heap.size, 1, none⟩ = some (.slice FA fn fc)) (by kernel_rfl) (by (try dsimp only); first | exact hSK | exact ⟨k0, k1⟩) (fun hHeld => ?_)
  have RFd : Hid (Row (World.drew w2) w.heap.size 30 [.int .i64 f.vars, .slice FA fn fc]) := Row.drew (rowCells RF.out B_wa.out)
  have RZd : Hid (Row (World.drew w2) (w.heap.size + 1) 30 [.int .i64 0, .slice none 0 0]) := Row.drew (rowCells RZ.out B_wa.out)
  have BWd : Hid (Below w.heap.size w (World.drew w2)) := B_w.out.drew
  clear k0 k1 kl
  clear RF RZ B_w B_wa B_w1
  revert hHeld RFd RZd BWd
  generalize World.drew w2 = wQ
  intro hHeld RFd RZd BWd
  have y0 := RFd.out.cell 0
  have y1 := RFd.out.cell 1
  simp only [List.getElem?_cons_zero, List.getElem?_cons_succ] at y0 y1
  refine wpAnyH_take (i := 0) (v := ?vq1) rfl (by kernel_rfl) (by kernel_rfl) (by kernel_rfl) (fun _ _ _ h => h) (Or.inl ⟨by rfl, ?yq1⟩) (by assumption) ?rq1
  case yq1 => intro w' hSw; (try dsimp only at hSw); go_simp; try (with_reducible rfl)
  go_simp
  refine wpAnyH_take (i := 1) (v := ?vq2) rfl (by kernel_rfl) (by kernel_rfl) (by kernel_rfl) (fun _ _ _ h => h) (Or.inl ⟨by rfl, ?yq2⟩) (by assumption) ?rq2
  case yq2 => intro w' hSw; (try dsimp only at hSw); go_simp; try (with_reducible rfl)
  go_simp
  refine wpAnyH_take (i := 2) (v := ?vq3) rfl (by kernel_rfl) (by kernel_rfl) (by kernel_rfl) (fun _ _ _ h => h) (Or.inl ⟨by rfl, ?yq3⟩) (by assumption) ?rq3
  case yq3 => intro w' hSw; (try dsimp only at hSw); go_simp; try (with_reducible rfl)
  go_simp
  refine wpAnyH_take (i := 3) (v := ?vq4) rfl (by kernel_rfl) (by kernel_rfl) (by kernel_rfl) (fun _ _ _ h => h) (Or.inl ⟨by rfl, ?yq4⟩) (by assumption) ?rq4
  case yq4 => intro w' hSw; (try dsimp only at hSw); go_simp; try (with_reducible rfl)
  go_simp
  refine wpAnyH_ready (rs := [4, 6]) (by kernel_rfl) (by simp) ?_
  refine AllReadyH.cons rfl (fun K hK => ?_) (AllReadyH.cons rfl (fun K hK => ?_) AllReadyH.nil)
  · clear y0 y1
    go_simp
    go_at_call 31
    refine (clone_rows FA fn fc sl wQ (by exact (HF.out.up BWd.out).rows) (by omega)).mono ?_
    rintro e4 w5 ⟨CA, cx, rfl, hown, hb⟩
    have HOd : Hid (w5.ownsRow w.heap.size 23 1 (.slice CA fn cx) fn (slCells sl)) := own_base hown BWd.out.size
    have RFe : Hid (Row w5 w.heap.size 30 [.int .i64 f.vars, .slice FA fn fc]) := rowCells RFd.out hb
    have RZe : Hid (Row w5 (w.heap.size + 1) 30 [.int .i64 0, .slice none 0 0]) := rowCells RZd.out hb
    have BWe : Hid (Below w.heap.size w w5) := below_on2 BWd.out hb
    clear hown hb RFd RZd BWd hHeld
    have RFd := RFe
    have RZd := RZe
    have BWd := BWe
    clear RFe RZe BWe
    have y0 := RFd.out.cell 0
    have y1 := RFd.out.cell 1
    simp only [List.getElem?_cons_zero, List.getElem?_cons_succ] at y0 y1
    have hSK := And.intro y0 y1
    refine hK.out _ _ ?_ (fun hHeld => ?_)
    · (try dsimp only); first | exact hSK | exact ⟨k0, k1⟩
    clear hK K
    try go_simp
    refine wpAnyH_take (i := 5) (v := ?vq5) rfl (by kernel_rfl) (by kernel_rfl) (by kernel_rfl) (fun _ _ _ h => h) (Or.inl ⟨by rfl, ?yq5⟩) (by assumption) ?rq5
    case yq5 => intro w' hSw; (try dsimp only at hSw); go_simp; try (with_reducible rfl)
    go_simp
    refine wpAnyH_ready (rs := [6]) (by kernel_rfl) (by simp) ?_
    refine AllReadyH.cons rfl (fun K hK => ?_) AllReadyH.nil
    go_simp
    have RFe : Hid (Row (World.alloc w5 (.cells #[.int .i64 0, .slice none 0 0] 30)) w.heap.size 30 [.int .i64 f.vars, .slice FA fn fc]) := RFd.out.alloc _
    have RZe : Hid (Row (World.alloc w5 (.cells #[.int .i64 0, .slice none 0 0] 30)) (w.heap.size + 1) 30 [.int .i64 0, .slice none 0 0]) := RZd.out.alloc _
    have BWe : Hid (Below w.heap.size w (World.alloc w5 (.cells #[.int .i64 0, .slice none 0 0] 30))) := BWd.out.alloc BWd.out.size _
    have RBe : Hid (Row (World.alloc w5 (.cells #[.int .i64 0, .slice none 0 0] 30)) w5.heap.size 30 [.int .i64 0, .slice none 0 0]) := Row.new w5 30 [.int .i64 0, .slice none 0 0]
    have HOe : Hid (World.ownsRow (World.alloc w5 (.cells #[.int .i64 0, .slice none 0 0] 30)) w.heap.size 23 1 (.slice CA fn cx) fn (slCells sl)) := HOd.out.alloc _
    have hgb : w.heap.size + 1 < w5.heap.size := RZd.out.lt
    clear y0 y1 RFd RZd BWd hHeld HOd
    revert RFe RZe BWe RBe HOe hgb
    generalize (World.alloc w5 (.cells #[.int .i64 0, .slice none 0 0] 30)) = wE
    generalize w5.heap.size = gb
    intro RFe RZe BWe RBe HOe hgb
    have RFd := RFe
    have RZd := RZe
    have BWd := BWe
    have RBd := RBe
    have HOd := HOe
    clear RFe RZe BWe RBe HOe
    have y0 := RFd.out.cell 0
    have y1 := RFd.out.cell 1
    simp only [List.getElem?_cons_zero, List.getElem?_cons_succ] at y0 y1
    have hSK := And.intro y0 y1
    refine hK.out _ _ ?_ (fun hHeld => ?_)
    · (try dsimp only); first | exact hSK | exact ⟨k0, k1⟩
    clear hK K
    try go_simp
    refine wpAnyH_ready (rs := [7]) (by kernel_rfl) (by simp) ?_
    refine AllReadyH.cons rfl (fun K hK => ?_) AllReadyH.nil
    have b0 := RBd.out.cell 0
    have b1 := RBd.out.cell 1
    have bl := RBd.out.lt
    simp only [List.getElem?_cons_zero, List.getElem?_cons_succ] at b0 b1
    have bf0 := RBd.out.frozen 0
    have bf1 := RBd.out.frozen 1
    go_simp
    have Z1 := RBd.out.set 0 (.int .i64 f.vars)
    have RO6 : Hid (Row (World.setCell (World.setCell wE ⟨gb, 0, none⟩ (.int .i64 f.vars)) ⟨gb, 1, none⟩ (.slice CA fn cx)) gb 30 [.int .i64 f.vars, .slice CA fn cx]) := Z1.set 1 _
    have RZ6 : Hid (Row (World.setCell (World.setCell wE ⟨gb, 0, none⟩ (.int .i64 f.vars)) ⟨gb, 1, none⟩ (.slice CA fn cx)) (w.heap.size + 1) 30 [.int .i64 0, .slice none 0 0]) := (RZd.out.far (p := ⟨gb, 0, none⟩) (by show w.heap.size + 1 ≠ gb; omega) _).far (p := ⟨gb, 1, none⟩) (by show w.heap.size + 1 ≠ gb; omega) _
    have RF6 : Hid (Row (World.setCell (World.setCell wE ⟨gb, 0, none⟩ (.int .i64 f.vars)) ⟨gb, 1, none⟩ (.slice CA fn cx)) w.heap.size 30 [.int .i64 f.vars, .slice FA fn fc]) := (RFd.out.far (p := ⟨gb, 0, none⟩) (by show w.heap.size ≠ gb; omega) _).far (p := ⟨gb, 1, none⟩) (by show w.heap.size ≠ gb; omega) _
    have BW6 : Hid (Below w.heap.size w (World.setCell (World.setCell wE ⟨gb, 0, none⟩ (.int .i64 f.vars)) ⟨gb, 1, none⟩ (.slice CA fn cx))) := (BWd.out.setCell (p := ⟨gb, 0, none⟩) (by show _ ≤ gb; omega) _).setCell (p := ⟨gb, 1, none⟩) (by show _ ≤ gb; omega) _
    have EO6 : Hid (EOwn (World.setCell (World.setCell wE ⟨gb, 0, none⟩ (.int .i64 f.vars)) ⟨gb, 1, none⟩ (.slice CA fn cx)) w.heap.size w.heap.size (.slice CA fn cx) sl f.cls) := (by
      have E0 := EOwn.ofFAt HF.out BWd.out HOd.out
      exact (E0.far (p := ⟨gb, 0, none⟩) RBd.out (by decide) (by decide) (by show _ ≤ gb; omega) _).far (p := ⟨gb, 1, none⟩) Z1 (by decide) (by decide) (by show _ ≤ gb; omega) _)
    clear Z1 RBd RZd RFd BWd HOd b0 b1 bl bf0 bf1 y0 y1 hHeld
    revert RO6 RZ6 RF6 BW6 EO6
    generalize (World.setCell (World.setCell wE ⟨gb, 0, none⟩ (.int .i64 f.vars)) ⟨gb, 1, none⟩ (.slice CA fn cx)) = w6
    intro RO6 RZ6 RF6 BW6 EO6
    have y0 := RF6.out.cell 0
    have y1 := RF6.out.cell 1
    simp only [List.getElem?_cons_zero, List.getElem?_cons_succ] at y0 y1
    have hSK := And.intro y0 y1
    refine hK.out _ _ ?_ (fun hHeld => ?_)
    · (try dsimp only); first | exact hSK | exact ⟨k0, k1⟩
    clear hK K
    try go_simp
    refine wpAnyH_done (by kernel_rfl) ?_ _
    clear hSK RF6 y0 y1 hHeld
    have EO6 : Hid (EOwn w6 w.heap.size w.heap.size (.slice CA fn cx) sl (f.cls ++ fixTo vs bs 0)) := (by
      show EOwn _ _ _ _ _ _
      rw [show fixTo vs bs 0 = [] from rfl, List.append_nil]
      exact EO6.out)
    go_wp2
    go_loopg [9, 10, 36] n (fun gg _ _ s36 wr => ∃ (i : Nat) (v : Value) (sl2 : List Sl), i ≤ n ∧ n - i ≤ gg ∧ s36 = .int .i64 i ∧ Aside (Below w.heap.size w wr) ∧ Aside (Row wr (w.heap.size + 1) 30 [.int .i64 0, .slice none 0 0]) ∧ Aside (Row wr gb 30 [.int .i64 f.vars, v]) ∧ Aside (EOwn wr w.heap.size w.heap.size v sl2 (f.cls ++ fixTo vs bs i)))
    case atStart => exact ⟨0, _, _, Nat.zero_le _, by omega, rfl, BW6.out, RZ6.out, RO6.out, EO6.out⟩
    case round =>
      clear BW6 RZ6 RO6 EO6
      obtain ⟨i, v, sl2, hi, hgg, rfl, BW, RZ, RO, EO⟩ := hrel
      obtain ⟨XA, xc, rfl⟩ := EO.out.form
      obtain ⟨xn, hxn⟩ : ∃ xn, xn = (f.cls ++ fixTo vs bs i).length := ⟨_, rfl⟩
      have HXN : Hid ((f.cls ++ fixTo vs bs i).length = xn) := hxn.symm
      have hxb : xn ≤ 500000 := by
        rw [hxn, List.length_append, HFL.out, fixTo_length]; omega
      rw [← hxn] at RO EO
      have EO : Hid (EOwn wr w.heap.size w.heap.size (.slice XA xn xc) sl2 (f.cls ++ fixTo vs bs i)) := EO.out
      have RO : Hid (Row wr gb 30 [.int .i64 f.vars, .slice XA xn xc]) := RO.out
      clear hxn
      by_cases hlt : i < n
      · have hltz : (i : Int) < (n : Int) := by omega
        have hsz := BW.out.size
        have EOX : Hid (wr.ownsRow w.heap.size 23 1 (.slice XA xn xc) xn (slCells sl2)) := (by have h9 := EO.out.own; rw [HXN.out] at h9; exact h9)
        obtain ⟨ad, rfl, _, hcv⟩ := (HV.out.up BW.out).int hlt
        obtain ⟨ae, rfl, _, hcb⟩ := (HBS.out.up BW.out).bool hlt
        obtain ⟨x1, x2⟩ := varOk_at HR3.out (k := i) (by rw [HLV.out]; exact hlt)
        have HFX : Hid (fixTo vs bs (i + 1) = fixTo vs bs i ++ [[if bs.getD i false = true then vs.getD i 0 else -(vs.getD i 0)]]) := fixTo_succ vs bs i
        generalize vs.getD i 0 = x at hcv x1 x2 HFX
        generalize bs.getD i false = b at hcb HFX
        have e0 := RO.out.cell 0
        have e1 := RO.out.cell 1
        have el := RO.out.lt
        simp only [List.getElem?_cons_zero, List.getElem?_cons_succ] at e0 e1
        have ef0 := RO.out.frozen 0
        have ef1 := RO.out.frozen 1
        cases b
        · have HFX2 : Hid (fixTo vs bs (i + 1) = fixTo vs bs i ++ [[-x]]) := HFX.out
          clear HFX
          go_wp2_with fail
          have R1 : Hid (Row (World.alloc (World.alloc wr (.cells #[.int .i64 (-x)] 3)) (.cells #[.slice (some ⟨wr.heap.size, 0, none⟩) 1 1] 23)) wr.heap.size 3 [.int .i64 (-x)]) := (Row.new wr 3 [.int .i64 (-x)]).alloc _
          have R2 : Hid (Row (World.alloc (World.alloc wr (.cells #[.int .i64 (-x)] 3)) (.cells #[.slice (some ⟨wr.heap.size, 0, none⟩) 1 1] 23)) (wr.heap.size + 1) 23 [.slice (some ⟨wr.heap.size, 0, none⟩) 1 1]) := rowNew1 wr _ 23 [.slice (some ⟨wr.heap.size, 0, none⟩) 1 1]
          have E1 : Hid (EOwn (World.alloc (World.alloc wr (.cells #[.int .i64 (-x)] 3)) (.cells #[.slice (some ⟨wr.heap.size, 0, none⟩) 1 1] 23)) w.heap.size w.heap.size (.slice XA xn xc) sl2 (f.cls ++ fixTo vs bs i)) := EO.out.up BW.out.size (show Below _ _ _ by go_grown)
          have RO1 : Hid (Row (World.alloc (World.alloc wr (.cells #[.int .i64 (-x)] 3)) (.cells #[.slice (some ⟨wr.heap.size, 0, none⟩) 1 1] 23)) gb 30 [.int .i64 f.vars, .slice XA xn xc]) := (RO.out.alloc _).alloc _
          have RZ1 : Hid (Row (World.alloc (World.alloc wr (.cells #[.int .i64 (-x)] 3)) (.cells #[.slice (some ⟨wr.heap.size, 0, none⟩) 1 1] 23)) (w.heap.size + 1) 30 [.int .i64 0, .slice none 0 0]) := (RZ.out.alloc _).alloc _
          have BW1 : Hid (Below w.heap.size w (World.alloc (World.alloc wr (.cells #[.int .i64 (-x)] 3)) (.cells #[.slice (some ⟨wr.heap.size, 0, none⟩) 1 1] 23))) := (BW.out.alloc hsz _).alloc (by simp; omega) _
          have HS1 : Hid (w.heap.size ≤ wr.heap.size) := hsz
          clear e0 e1 el ef0 ef1 hsz
          revert R1 R2 E1 RO1 RZ1 BW1 HS1
          generalize (World.alloc (World.alloc wr (.cells #[.int .i64 (-x)] 3)) (.cells #[.slice (some ⟨wr.heap.size, 0, none⟩) 1 1] 23)) = wl
          generalize wr.heap.size = bx
          intro R1 R2 E1 RO1 RZ1 BW1 HS1
          have HCT := add_any f.vars XA xn xc w.heap.size w.heap.size sl2 (f.cls ++ fixTo vs bs i) (some ⟨bx + 1, 0, none⟩) 1 1 [⟨some ⟨bx, 0, none⟩, 1, 1⟩] [[(-x)]] wl E1.out HXN.out (R2.out.rd rfl) rfl (fun j hj => by
            obtain rfl : j = 0 := by simp at hj; omega
            exact ⟨.inr ⟨bx, HS1.out, rfl, rfl, R1.out⟩, by show 1 ≤ maxLen; unfold maxLen; omega⟩) BW1.out.size (by omega)
          rw [List.append_assoc, ← HFX2.out] at HCT
          with_reducible refine HCT.mono ?_
          clear HCT
          rintro e w8 ⟨YA, yn, yc, sy, rfl, hyl, hE, hG, hat⟩
          have E2 : Hid (EOwn w8 w.heap.size w.heap.size (.slice YA yn yc) sy (f.cls ++ fixTo vs bs (i + 1))) := hE
          have RO2 : Hid (Row w8 gb 30 [.int .i64 f.vars, .slice XA xn xc]) := RO1.out.grown hG (fun e => own_ne_row E1.out.own RO1.out (by decide) e.symm)
          have RZ2 : Hid (Row w8 (w.heap.size + 1) 30 [.int .i64 0, .slice none 0 0]) := RZ1.out.grown hG (fun e => own_ne_row E1.out.own RZ1.out (by decide) e.symm)
          have BW2 : Hid (Below w.heap.size w w8) := BW1.out.grown hG BW1.out.size (fun q hq => (E1.out.own.lt q hq).1)
          clear hyl hE hG hat E1 RO1 RZ1 BW1 R1 R2 HS1
          have e0 := RO2.out.cell 0
          have e1 := RO2.out.cell 1
          have el := RO2.out.lt
          simp only [List.getElem?_cons_zero, List.getElem?_cons_succ] at e0 e1
          have ef0 := RO2.out.frozen 0
          have ef1 := RO2.out.frozen 1
          go_wp2
          have Z1 := RO2.out.set 0 (.int .i64 f.vars)
          go_roundg (n - (i + 1))
          case measure => omega
          case rel =>
            refine ⟨i + 1, _, _, by omega, by omega, by go_num, (BW2.out.setCell (p := ⟨gb, 0, none⟩) (by show _ ≤ gb; omega) _).setCell (p := ⟨gb, 1, none⟩) (by show _ ≤ gb; omega) _, (RZ2.out.far (p := ⟨gb, 0, none⟩) (by show w.heap.size + 1 ≠ gb; omega) _).far (p := ⟨gb, 1, none⟩) (by show w.heap.size + 1 ≠ gb; omega) _, Z1.set 1 _, (E2.out.far (p := ⟨gb, 0, none⟩) RO2.out (by decide) (by decide) (by show _ ≤ gb; omega) _).far (p := ⟨gb, 1, none⟩) Z1 (by decide) (by decide) (by show _ ≤ gb; omega) _⟩
        · have HFX2 : Hid (fixTo vs bs (i + 1) = fixTo vs bs i ++ [[x]]) := HFX.out
          clear HFX
          go_wp2_with fail
          have R1 : Hid (Row (World.alloc (World.alloc wr (.cells #[.int .i64 x] 3)) (.cells #[.slice (some ⟨wr.heap.size, 0, none⟩) 1 1] 23)) wr.heap.size 3 [.int .i64 x]) := (Row.new wr 3 [.int .i64 x]).alloc _
          have R2 : Hid (Row (World.alloc (World.alloc wr (.cells #[.int .i64 x] 3)) (.cells #[.slice (some ⟨wr.heap.size, 0, none⟩) 1 1] 23)) (wr.heap.size + 1) 23 [.slice (some ⟨wr.heap.size, 0, none⟩) 1 1]) := rowNew1 wr _ 23 [.slice (some ⟨wr.heap.size, 0, none⟩) 1 1]
          have E1 : Hid (EOwn (World.alloc (World.alloc wr (.cells #[.int .i64 x] 3)) (.cells #[.slice (some ⟨wr.heap.size, 0, none⟩) 1 1] 23)) w.heap.size w.heap.size (.slice XA xn xc) sl2 (f.cls ++ fixTo vs bs i)) := EO.out.up BW.out.size (show Below _ _ _ by go_grown)
          have RO1 : Hid (Row (World.alloc (World.alloc wr (.cells #[.int .i64 x] 3)) (.cells #[.slice (some ⟨wr.heap.size, 0, none⟩) 1 1] 23)) gb 30 [.int .i64 f.vars, .slice XA xn xc]) := (RO.out.alloc _).alloc _
          have RZ1 : Hid (Row (World.alloc (World.alloc wr (.cells #[.int .i64 x] 3)) (.cells #[.slice (some ⟨wr.heap.size, 0, none⟩) 1 1] 23)) (w.heap.size + 1) 30 [.int .i64 0, .slice none 0 0]) := (RZ.out.alloc _).alloc _
          have BW1 : Hid (Below w.heap.size w (World.alloc (World.alloc wr (.cells #[.int .i64 x] 3)) (.cells #[.slice (some ⟨wr.heap.size, 0, none⟩) 1 1] 23))) := (BW.out.alloc hsz _).alloc (by simp; omega) _
          have HS1 : Hid (w.heap.size ≤ wr.heap.size) := hsz
          clear e0 e1 el ef0 ef1 hsz
          revert R1 R2 E1 RO1 RZ1 BW1 HS1
          generalize (World.alloc (World.alloc wr (.cells #[.int .i64 x] 3)) (.cells #[.slice (some ⟨wr.heap.size, 0, none⟩) 1 1] 23)) = wl
          generalize wr.heap.size = bx
          intro R1 R2 E1 RO1 RZ1 BW1 HS1
          have HCT := add_any f.vars XA xn xc w.heap.size w.heap.size sl2 (f.cls ++ fixTo vs bs i) (some ⟨bx + 1, 0, none⟩) 1 1 [⟨some ⟨bx, 0, none⟩, 1, 1⟩] [[x]] wl E1.out HXN.out (R2.out.rd rfl) rfl (fun j hj => by
            obtain rfl : j = 0 := by simp at hj; omega
            exact ⟨.inr ⟨bx, HS1.out, rfl, rfl, R1.out⟩, by show 1 ≤ maxLen; unfold maxLen; omega⟩) BW1.out.size (by omega)
          rw [List.append_assoc, ← HFX2.out] at HCT
          with_reducible refine HCT.mono ?_
          clear HCT
          rintro e w8 ⟨YA, yn, yc, sy, rfl, hyl, hE, hG, hat⟩
          have E2 : Hid (EOwn w8 w.heap.size w.heap.size (.slice YA yn yc) sy (f.cls ++ fixTo vs bs (i + 1))) := hE
          have RO2 : Hid (Row w8 gb 30 [.int .i64 f.vars, .slice XA xn xc]) := RO1.out.grown hG (fun e => own_ne_row E1.out.own RO1.out (by decide) e.symm)
          have RZ2 : Hid (Row w8 (w.heap.size + 1) 30 [.int .i64 0, .slice none 0 0]) := RZ1.out.grown hG (fun e => own_ne_row E1.out.own RZ1.out (by decide) e.symm)
          have BW2 : Hid (Below w.heap.size w w8) := BW1.out.grown hG BW1.out.size (fun q hq => (E1.out.own.lt q hq).1)
          clear hyl hE hG hat E1 RO1 RZ1 BW1 R1 R2 HS1
          have e0 := RO2.out.cell 0
          have e1 := RO2.out.cell 1
          have el := RO2.out.lt
          simp only [List.getElem?_cons_zero, List.getElem?_cons_succ] at e0 e1
          have ef0 := RO2.out.frozen 0
          have ef1 := RO2.out.frozen 1
          go_wp2
          have Z1 := RO2.out.set 0 (.int .i64 f.vars)
          go_roundg (n - (i + 1))
          case measure => omega
          case rel =>
            refine ⟨i + 1, _, _, by omega, by omega, by go_num, (BW2.out.setCell (p := ⟨gb, 0, none⟩) (by show _ ≤ gb; omega) _).setCell (p := ⟨gb, 1, none⟩) (by show _ ≤ gb; omega) _, (RZ2.out.far (p := ⟨gb, 0, none⟩) (by show w.heap.size + 1 ≠ gb; omega) _).far (p := ⟨gb, 1, none⟩) (by show w.heap.size + 1 ≠ gb; omega) _, Z1.set 1 _, (E2.out.far (p := ⟨gb, 0, none⟩) RO2.out (by decide) (by decide) (by show _ ≤ gb; omega) _).far (p := ⟨gb, 1, none⟩) Z1 (by decide) (by decide) (by show _ ≤ gb; omega) _⟩
      · have hltz : ¬ (i : Int) < (n : Int) := by omega
        obtain rfl : n = i := by omega
        have HKF : Hid ((fixF f vs bs).cls = f.cls ++ fixTo vs bs n) := (by show _ = _; unfold fixF; rw [HLV.out])
        rw [← HKF.out] at EO HXN
        have e0 := RO.out.cell 0
        have e1 := RO.out.cell 1
        have el := RO.out.lt
        simp only [List.getElem?_cons_zero, List.getElem?_cons_succ] at e0 e1
        go_wp2_with fail
        have HCT := eFits_any f.vars XA xn xc wr (by unfold maxLen; omega)
        have RZ0 : Hid (Row wr (w.heap.size + 1) 30 [.int .i64 0, .slice none 0 0]) := RZ.out
        have EO0 : Hid (EOwn wr w.heap.size w.heap.size (.slice XA xn xc) sl2 (fixF f vs bs).cls) := EO.out
        have BW0 : Hid (Below w.heap.size w wr) := BW.out
        clear RZ EO BW RO e0 e1 el
        by_cases hft : f.vars ≤ 65536 ∧ xn ≤ 262144
        · have HCE : Hid (fixR f vs bs = fixF f vs bs ∧ fixErr f vs bs = 0) := fixGood HOK.out (by
            unfold fitsErr; rw [if_pos]; show f.vars ≤ 65536 ∧ (fixF f vs bs).cls.length ≤ 262144; rw [HXN.out]; exact hft)
          rw [if_pos hft, if_pos hft] at HCT
          clear hft
          with_reducible refine HCT.mono ?_
          clear HCT
          rintro e w6 ⟨rfl, hG⟩
          have hb := grown_bel hG
          have RZ9 : Hid (Row w6 (w.heap.size + 1) 30 [.int .i64 0, .slice none 0 0]) := rowCells RZ0.out hb
          have EO9 : Hid (EOwn w6 w.heap.size w.heap.size (.slice XA xn xc) sl2 (fixF f vs bs).cls) := EO0.out.up BW0.out.size hb
          have BW9 : Hid (Below w.heap.size w w6) := below_on2 BW0.out hb
          have HRES : Hid (FmlPost (fixR f vs bs) (fixErr f vs bs) w (.returned (.tuple #[.agg #[.int .i64 f.vars, .slice XA xn xc], .int .i64 0])) (World.setCell (World.setCell w6 ⟨w.heap.size + 1, 0, none⟩ (.int .i64 f.vars)) ⟨w.heap.size + 1, 1, none⟩ (.slice XA xn xc))) := by
            have Z1 := RZ9.out.set 0 (.int .i64 f.vars)
            obtain ⟨q1, q2⟩ := HCE.out
            show FmlPost _ _ _ _ _
            rw [q1, q2]
            have hB := (BW9.out.setCell (p := ⟨w.heap.size + 1, 0, none⟩) (by show _ ≤ w.heap.size + 1; omega) (.int .i64 f.vars)).setCell (p := ⟨w.heap.size + 1, 1, none⟩) (by show _ ≤ w.heap.size + 1; omega) (.slice XA xn xc)
            refine ⟨XA, xn, xc, sl2, rfl, ?_, hB⟩
            exact ((EO9.out.far (p := ⟨w.heap.size + 1, 0, none⟩) RZ9.out (by decide) (by decide) (by show _ ≤ w.heap.size + 1; omega) (.int .i64 f.vars)).far (p := ⟨w.heap.size + 1, 1, none⟩) Z1 (by decide) (by decide) (by show _ ≤ w.heap.size + 1; omega) (.slice XA xn xc)).fat hB.size HXN.out (by unfold maxLen; omega)
          have Z9 := (RZ9.out.set 0 (.int .i64 f.vars)).set 1 (.slice XA xn xc)
          have q0 := Z9.cell 0
          have q1 := Z9.cell 1
          simp only [List.getElem?_cons_zero, List.getElem?_cons_succ, List.set_cons_zero, List.set_cons_succ] at q0 q1
          clear Z9 EO9 BW9 hb hG
          have d0 := RZ9.out.cell 0
          have d1 := RZ9.out.cell 1
          have dl := RZ9.out.lt
          simp only [List.getElem?_cons_zero, List.getElem?_cons_succ] at d0 d1
          have df0 := RZ9.out.frozen 0
          have df1 := RZ9.out.frozen 1
          clear RZ9
          go_wp2
          refine bodyPost_ret (v := .tuple #[.agg #[.int .i64 f.vars, .slice XA xn xc], .int .i64 0]) (by simp [results, Try.results18, go_sem, q0, q1]) rfl ?_
          exact HRES.out
        · have HCE : Hid (fixR f vs bs = noFml ∧ fixErr f vs bs = 6) := fixBig HOK.out (by
            unfold fitsErr; rw [if_neg]; show ¬ (f.vars ≤ 65536 ∧ (fixF f vs bs).cls.length ≤ 262144); rw [HXN.out]; exact hft)
          rw [if_neg hft, if_neg hft] at HCT
          clear hft
          with_reducible refine HCT.mono ?_
          clear HCT
          rintro e w6 ⟨rfl, hG⟩
          have hb := grown_bel hG
          have RZ6 : Hid (Row w6 (w.heap.size + 1) 30 [.int .i64 0, .slice none 0 0]) := rowCells RZ0.out hb
          have BB : Below w.heap.size w w6 := below_on2 BW0.out hb
          clear hb hG RZ0 EO0 BW0
          have d0 := RZ6.out.cell 0
          have d1 := RZ6.out.cell 1
          have dl := RZ6.out.lt
          simp only [List.getElem?_cons_zero, List.getElem?_cons_succ] at d0 d1
          have df0 := RZ6.out.frozen 0
          have df1 := RZ6.out.frozen 1
          go_wp2
          exact bodyPost_ret (v := .tuple #[.agg #[.int .i64 0, .slice none 0 0], .int .i64 6]) (by simp [results, Try.results18, go_sem, d0, d1]) rfl (fmlPost_err HCE.out.1 HCE.out.2 (by go_grown))
  · go_simp
    have RFe : Hid (Row (World.alloc wQ (.cells #[.int .i64 0, .slice none 0 0] 30)) w.heap.size 30 [.int .i64 f.vars, .slice FA fn fc]) := RFd.out.alloc _
    have RZe : Hid (Row (World.alloc wQ (.cells #[.int .i64 0, .slice none 0 0] 30)) (w.heap.size + 1) 30 [.int .i64 0, .slice none 0 0]) := RZd.out.alloc _
    have BWe : Hid (Below w.heap.size w (World.alloc wQ (.cells #[.int .i64 0, .slice none 0 0] 30))) := BWd.out.alloc BWd.out.size _
    have RBe : Hid (Row (World.alloc wQ (.cells #[.int .i64 0, .slice none 0 0] 30)) wQ.heap.size 30 [.int .i64 0, .slice none 0 0]) := Row.new wQ 30 [.int .i64 0, .slice none 0 0]
    have hgb : w.heap.size + 1 < wQ.heap.size := RZd.out.lt
    clear y0 y1 RFd RZd BWd hHeld
    revert RFe RZe BWe RBe hgb
    generalize (World.alloc wQ (.cells #[.int .i64 0, .slice none 0 0] 30)) = wA
    generalize wQ.heap.size = gb
    intro RFe RZe BWe RBe hgb
    have RFd := RFe
    have RZd := RZe
    have BWd := BWe
    have RBd := RBe
    clear RFe RZe BWe RBe
    have y0 := RFd.out.cell 0
    have y1 := RFd.out.cell 1
    simp only [List.getElem?_cons_zero, List.getElem?_cons_succ] at y0 y1
    have hSK := And.intro y0 y1
    refine hK.out _ _ ?_ (fun hHeld => ?_)
    · (try dsimp only); first | exact hSK | exact ⟨k0, k1⟩
    clear hK K
    try go_simp
    refine wpAnyH_ready (rs := [4]) (by kernel_rfl) (by simp) ?_
    refine AllReadyH.cons rfl (fun K hK => ?_) AllReadyH.nil
    clear y0 y1
    go_simp
    go_at_call 31
    refine (clone_rows FA fn fc sl wA (by exact (HF.out.up BWd.out).rows) (by omega)).mono ?_
    rintro e4 wE ⟨CA, cx, rfl, hown, hb⟩
    have HOd : Hid (wE.ownsRow w.heap.size 23 1 (.slice CA fn cx) fn (slCells sl)) := own_base hown BWd.out.size
    have RFe : Hid (Row wE w.heap.size 30 [.int .i64 f.vars, .slice FA fn fc]) := rowCells RFd.out hb
    have RZe : Hid (Row wE (w.heap.size + 1) 30 [.int .i64 0, .slice none 0 0]) := rowCells RZd.out hb
    have BWe : Hid (Below w.heap.size w wE) := below_on2 BWd.out hb
    have RBe : Hid (Row wE gb 30 [.int .i64 0, .slice none 0 0]) := rowCells RBd.out hb
    clear RBd
    clear hown hb RFd RZd BWd hHeld
    have RFd := RFe
    have RZd := RZe
    have BWd := BWe
    clear RFe RZe BWe
    have RBd := RBe
    clear RBe
    have y0 := RFd.out.cell 0
    have y1 := RFd.out.cell 1
    simp only [List.getElem?_cons_zero, List.getElem?_cons_succ] at y0 y1
    have hSK := And.intro y0 y1
    refine hK.out _ _ ?_ (fun hHeld => ?_)
    · (try dsimp only); first | exact hSK | exact ⟨k0, k1⟩
    clear hK K
    try go_simp
    refine wpAnyH_take (i := 5) (v := ?vq6) rfl (by kernel_rfl) (by kernel_rfl) (by kernel_rfl) (fun _ _ _ h => h) (Or.inl ⟨by rfl, ?yq6⟩) (by assumption) ?rq6
    case yq6 => intro w' hSw; (try dsimp only at hSw); go_simp; try (with_reducible rfl)
    go_simp
    refine wpAnyH_ready (rs := [7]) (by kernel_rfl) (by simp) ?_
    refine AllReadyH.cons rfl (fun K hK => ?_) AllReadyH.nil
    have b0 := RBd.out.cell 0
    have b1 := RBd.out.cell 1
    have bl := RBd.out.lt
    simp only [List.getElem?_cons_zero, List.getElem?_cons_succ] at b0 b1
    have bf0 := RBd.out.frozen 0
    have bf1 := RBd.out.frozen 1
    go_simp
    have Z1 := RBd.out.set 0 (.int .i64 f.vars)
    have RO6 : Hid (Row (World.setCell (World.setCell wE ⟨gb, 0, none⟩ (.int .i64 f.vars)) ⟨gb, 1, none⟩ (.slice CA fn cx)) gb 30 [.int .i64 f.vars, .slice CA fn cx]) := Z1.set 1 _
    have RZ6 : Hid (Row (World.setCell (World.setCell wE ⟨gb, 0, none⟩ (.int .i64 f.vars)) ⟨gb, 1, none⟩ (.slice CA fn cx)) (w.heap.size + 1) 30 [.int .i64 0, .slice none 0 0]) := (RZd.out.far (p := ⟨gb, 0, none⟩) (by show w.heap.size + 1 ≠ gb; omega) _).far (p := ⟨gb, 1, none⟩) (by show w.heap.size + 1 ≠ gb; omega) _
    have RF6 : Hid (Row (World.setCell (World.setCell wE ⟨gb, 0, none⟩ (.int .i64 f.vars)) ⟨gb, 1, none⟩ (.slice CA fn cx)) w.heap.size 30 [.int .i64 f.vars, .slice FA fn fc]) := (RFd.out.far (p := ⟨gb, 0, none⟩) (by show w.heap.size ≠ gb; omega) _).far (p := ⟨gb, 1, none⟩) (by show w.heap.size ≠ gb; omega) _
    have BW6 : Hid (Below w.heap.size w (World.setCell (World.setCell wE ⟨gb, 0, none⟩ (.int .i64 f.vars)) ⟨gb, 1, none⟩ (.slice CA fn cx))) := (BWd.out.setCell (p := ⟨gb, 0, none⟩) (by show _ ≤ gb; omega) _).setCell (p := ⟨gb, 1, none⟩) (by show _ ≤ gb; omega) _
    have EO6 : Hid (EOwn (World.setCell (World.setCell wE ⟨gb, 0, none⟩ (.int .i64 f.vars)) ⟨gb, 1, none⟩ (.slice CA fn cx)) w.heap.size w.heap.size (.slice CA fn cx) sl f.cls) := (by
      have E0 := EOwn.ofFAt HF.out BWd.out HOd.out
      exact (E0.far (p := ⟨gb, 0, none⟩) RBd.out (by decide) (by decide) (by show _ ≤ gb; omega) _).far (p := ⟨gb, 1, none⟩) Z1 (by decide) (by decide) (by show _ ≤ gb; omega) _)
    clear Z1 RBd RZd RFd BWd HOd b0 b1 bl bf0 bf1 y0 y1 hHeld
    revert RO6 RZ6 RF6 BW6 EO6
    generalize (World.setCell (World.setCell wE ⟨gb, 0, none⟩ (.int .i64 f.vars)) ⟨gb, 1, none⟩ (.slice CA fn cx)) = w6
    intro RO6 RZ6 RF6 BW6 EO6
    have y0 := RF6.out.cell 0
    have y1 := RF6.out.cell 1
    simp only [List.getElem?_cons_zero, List.getElem?_cons_succ] at y0 y1
    have hSK := And.intro y0 y1
    refine hK.out _ _ ?_ (fun hHeld => ?_)
    · (try dsimp only); first | exact hSK | exact ⟨k0, k1⟩
    clear hK K
    try go_simp
    refine wpAnyH_done (by kernel_rfl) ?_ _
    clear hSK RF6 y0 y1 hHeld
    have EO6 : Hid (EOwn w6 w.heap.size w.heap.size (.slice CA fn cx) sl (f.cls ++ fixTo vs bs 0)) := (by
      show EOwn _ _ _ _ _ _
      rw [show fixTo vs bs 0 = [] from rfl, List.append_nil]
      exact EO6.out)
    go_wp2
    go_loopg [9, 10, 36] n (fun gg _ _ s36 wr => ∃ (i : Nat) (v : Value) (sl2 : List Sl), i ≤ n ∧ n - i ≤ gg ∧ s36 = .int .i64 i ∧ Aside (Below w.heap.size w wr) ∧ Aside (Row wr (w.heap.size + 1) 30 [.int .i64 0, .slice none 0 0]) ∧ Aside (Row wr gb 30 [.int .i64 f.vars, v]) ∧ Aside (EOwn wr w.heap.size w.heap.size v sl2 (f.cls ++ fixTo vs bs i)))
    case atStart => exact ⟨0, _, _, Nat.zero_le _, by omega, rfl, BW6.out, RZ6.out, RO6.out, EO6.out⟩
    case round =>
      clear BW6 RZ6 RO6 EO6
      obtain ⟨i, v, sl2, hi, hgg, rfl, BW, RZ, RO, EO⟩ := hrel
      obtain ⟨XA, xc, rfl⟩ := EO.out.form
      obtain ⟨xn, hxn⟩ : ∃ xn, xn = (f.cls ++ fixTo vs bs i).length := ⟨_, rfl⟩
      have HXN : Hid ((f.cls ++ fixTo vs bs i).length = xn) := hxn.symm
      have hxb : xn ≤ 500000 := by
        rw [hxn, List.length_append, HFL.out, fixTo_length]; omega
      rw [← hxn] at RO EO
      have EO : Hid (EOwn wr w.heap.size w.heap.size (.slice XA xn xc) sl2 (f.cls ++ fixTo vs bs i)) := EO.out
      have RO : Hid (Row wr gb 30 [.int .i64 f.vars, .slice XA xn xc]) := RO.out
      clear hxn
      by_cases hlt : i < n
      · have hltz : (i : Int) < (n : Int) := by omega
        have hsz := BW.out.size
        have EOX : Hid (wr.ownsRow w.heap.size 23 1 (.slice XA xn xc) xn (slCells sl2)) := (by have h9 := EO.out.own; rw [HXN.out] at h9; exact h9)
        obtain ⟨ad, rfl, _, hcv⟩ := (HV.out.up BW.out).int hlt
        obtain ⟨ae, rfl, _, hcb⟩ := (HBS.out.up BW.out).bool hlt
        obtain ⟨x1, x2⟩ := varOk_at HR3.out (k := i) (by rw [HLV.out]; exact hlt)
        have HFX : Hid (fixTo vs bs (i + 1) = fixTo vs bs i ++ [[if bs.getD i false = true then vs.getD i 0 else -(vs.getD i 0)]]) := fixTo_succ vs bs i
        generalize vs.getD i 0 = x at hcv x1 x2 HFX
        generalize bs.getD i false = b at hcb HFX
        have e0 := RO.out.cell 0
        have e1 := RO.out.cell 1
        have el := RO.out.lt
        simp only [List.getElem?_cons_zero, List.getElem?_cons_succ] at e0 e1
        have ef0 := RO.out.frozen 0
        have ef1 := RO.out.frozen 1
        cases b
        · have HFX2 : Hid (fixTo vs bs (i + 1) = fixTo vs bs i ++ [[-x]]) := HFX.out
          clear HFX
          go_wp2_with fail
          have R1 : Hid (Row (World.alloc (World.alloc wr (.cells #[.int .i64 (-x)] 3)) (.cells #[.slice (some ⟨wr.heap.size, 0, none⟩) 1 1] 23)) wr.heap.size 3 [.int .i64 (-x)]) := (Row.new wr 3 [.int .i64 (-x)]).alloc _
          have R2 : Hid (Row (World.alloc (World.alloc wr (.cells #[.int .i64 (-x)] 3)) (.cells #[.slice (some ⟨wr.heap.size, 0, none⟩) 1 1] 23)) (wr.heap.size + 1) 23 [.slice (some ⟨wr.heap.size, 0, none⟩) 1 1]) := rowNew1 wr _ 23 [.slice (some ⟨wr.heap.size, 0, none⟩) 1 1]
          have E1 : Hid (EOwn (World.alloc (World.alloc wr (.cells #[.int .i64 (-x)] 3)) (.cells #[.slice (some ⟨wr.heap.size, 0, none⟩) 1 1] 23)) w.heap.size w.heap.size (.slice XA xn xc) sl2 (f.cls ++ fixTo vs bs i)) := EO.out.up BW.out.size (show Below _ _ _ by go_grown)
          have RO1 : Hid (Row (World.alloc (World.alloc wr (.cells #[.int .i64 (-x)] 3)) (.cells #[.slice (some ⟨wr.heap.size, 0, none⟩) 1 1] 23)) gb 30 [.int .i64 f.vars, .slice XA xn xc]) := (RO.out.alloc _).alloc _
          have RZ1 : Hid (Row (World.alloc (World.alloc wr (.cells #[.int .i64 (-x)] 3)) (.cells #[.slice (some ⟨wr.heap.size, 0, none⟩) 1 1] 23)) (w.heap.size + 1) 30 [.int .i64 0, .slice none 0 0]) := (RZ.out.alloc _).alloc _
          have BW1 : Hid (Below w.heap.size w (World.alloc (World.alloc wr (.cells #[.int .i64 (-x)] 3)) (.cells #[.slice (some ⟨wr.heap.size, 0, none⟩) 1 1] 23))) := (BW.out.alloc hsz _).alloc (by simp; omega) _
          have HS1 : Hid (w.heap.size ≤ wr.heap.size) := hsz
          clear e0 e1 el ef0 ef1 hsz
          revert R1 R2 E1 RO1 RZ1 BW1 HS1
          generalize (World.alloc (World.alloc wr (.cells #[.int .i64 (-x)] 3)) (.cells #[.slice (some ⟨wr.heap.size, 0, none⟩) 1 1] 23)) = wl
          generalize wr.heap.size = bx
          intro R1 R2 E1 RO1 RZ1 BW1 HS1
          have HCT := add_any f.vars XA xn xc w.heap.size w.heap.size sl2 (f.cls ++ fixTo vs bs i) (some ⟨bx + 1, 0, none⟩) 1 1 [⟨some ⟨bx, 0, none⟩, 1, 1⟩] [[(-x)]] wl E1.out HXN.out (R2.out.rd rfl) rfl (fun j hj => by
            obtain rfl : j = 0 := by simp at hj; omega
            exact ⟨.inr ⟨bx, HS1.out, rfl, rfl, R1.out⟩, by show 1 ≤ maxLen; unfold maxLen; omega⟩) BW1.out.size (by omega)
          rw [List.append_assoc, ← HFX2.out] at HCT
          with_reducible refine HCT.mono ?_
          clear HCT
          rintro e w8 ⟨YA, yn, yc, sy, rfl, hyl, hE, hG, hat⟩
          have E2 : Hid (EOwn w8 w.heap.size w.heap.size (.slice YA yn yc) sy (f.cls ++ fixTo vs bs (i + 1))) := hE
          have RO2 : Hid (Row w8 gb 30 [.int .i64 f.vars, .slice XA xn xc]) := RO1.out.grown hG (fun e => own_ne_row E1.out.own RO1.out (by decide) e.symm)
          have RZ2 : Hid (Row w8 (w.heap.size + 1) 30 [.int .i64 0, .slice none 0 0]) := RZ1.out.grown hG (fun e => own_ne_row E1.out.own RZ1.out (by decide) e.symm)
          have BW2 : Hid (Below w.heap.size w w8) := BW1.out.grown hG BW1.out.size (fun q hq => (E1.out.own.lt q hq).1)
          clear hyl hE hG hat E1 RO1 RZ1 BW1 R1 R2 HS1
          have e0 := RO2.out.cell 0
          have e1 := RO2.out.cell 1
          have el := RO2.out.lt
          simp only [List.getElem?_cons_zero, List.getElem?_cons_succ] at e0 e1
          have ef0 := RO2.out.frozen 0
          have ef1 := RO2.out.frozen 1
          go_wp2
          have Z1 := RO2.out.set 0 (.int .i64 f.vars)
          go_roundg (n - (i + 1))
          case measure => omega
          case rel =>
            refine ⟨i + 1, _, _, by omega, by omega, by go_num, (BW2.out.setCell (p := ⟨gb, 0, none⟩) (by show _ ≤ gb; omega) _).setCell (p := ⟨gb, 1, none⟩) (by show _ ≤ gb; omega) _, (RZ2.out.far (p := ⟨gb, 0, none⟩) (by show w.heap.size + 1 ≠ gb; omega) _).far (p := ⟨gb, 1, none⟩) (by show w.heap.size + 1 ≠ gb; omega) _, Z1.set 1 _, (E2.out.far (p := ⟨gb, 0, none⟩) RO2.out (by decide) (by decide) (by show _ ≤ gb; omega) _).far (p := ⟨gb, 1, none⟩) Z1 (by decide) (by decide) (by show _ ≤ gb; omega) _⟩
        · have HFX2 : Hid (fixTo vs bs (i + 1) = fixTo vs bs i ++ [[x]]) := HFX.out
          clear HFX
          go_wp2_with fail
          have R1 : Hid (Row (World.alloc (World.alloc wr (.cells #[.int .i64 x] 3)) (.cells #[.slice (some ⟨wr.heap.size, 0, none⟩) 1 1] 23)) wr.heap.size 3 [.int .i64 x]) := (Row.new wr 3 [.int .i64 x]).alloc _
          have R2 : Hid (Row (World.alloc (World.alloc wr (.cells #[.int .i64 x] 3)) (.cells #[.slice (some ⟨wr.heap.size, 0, none⟩) 1 1] 23)) (wr.heap.size + 1) 23 [.slice (some ⟨wr.heap.size, 0, none⟩) 1 1]) := rowNew1 wr _ 23 [.slice (some ⟨wr.heap.size, 0, none⟩) 1 1]
          have E1 : Hid (EOwn (World.alloc (World.alloc wr (.cells #[.int .i64 x] 3)) (.cells #[.slice (some ⟨wr.heap.size, 0, none⟩) 1 1] 23)) w.heap.size w.heap.size (.slice XA xn xc) sl2 (f.cls ++ fixTo vs bs i)) := EO.out.up BW.out.size (show Below _ _ _ by go_grown)
          have RO1 : Hid (Row (World.alloc (World.alloc wr (.cells #[.int .i64 x] 3)) (.cells #[.slice (some ⟨wr.heap.size, 0, none⟩) 1 1] 23)) gb 30 [.int .i64 f.vars, .slice XA xn xc]) := (RO.out.alloc _).alloc _
          have RZ1 : Hid (Row (World.alloc (World.alloc wr (.cells #[.int .i64 x] 3)) (.cells #[.slice (some ⟨wr.heap.size, 0, none⟩) 1 1] 23)) (w.heap.size + 1) 30 [.int .i64 0, .slice none 0 0]) := (RZ.out.alloc _).alloc _
          have BW1 : Hid (Below w.heap.size w (World.alloc (World.alloc wr (.cells #[.int .i64 x] 3)) (.cells #[.slice (some ⟨wr.heap.size, 0, none⟩) 1 1] 23))) := (BW.out.alloc hsz _).alloc (by simp; omega) _
          have HS1 : Hid (w.heap.size ≤ wr.heap.size) := hsz
          clear e0 e1 el ef0 ef1 hsz
          revert R1 R2 E1 RO1 RZ1 BW1 HS1
          generalize (World.alloc (World.alloc wr (.cells #[.int .i64 x] 3)) (.cells #[.slice (some ⟨wr.heap.size, 0, none⟩) 1 1] 23)) = wl
          generalize wr.heap.size = bx
          intro R1 R2 E1 RO1 RZ1 BW1 HS1
          have HCT := add_any f.vars XA xn xc w.heap.size w.heap.size sl2 (f.cls ++ fixTo vs bs i) (some ⟨bx + 1, 0, none⟩) 1 1 [⟨some ⟨bx, 0, none⟩, 1, 1⟩] [[x]] wl E1.out HXN.out (R2.out.rd rfl) rfl (fun j hj => by
            obtain rfl : j = 0 := by simp at hj; omega
            exact ⟨.inr ⟨bx, HS1.out, rfl, rfl, R1.out⟩, by show 1 ≤ maxLen; unfold maxLen; omega⟩) BW1.out.size (by omega)
          rw [List.append_assoc, ← HFX2.out] at HCT
          with_reducible refine HCT.mono ?_
          clear HCT
          rintro e w8 ⟨YA, yn, yc, sy, rfl, hyl, hE, hG, hat⟩
          have E2 : Hid (EOwn w8 w.heap.size w.heap.size (.slice YA yn yc) sy (f.cls ++ fixTo vs bs (i + 1))) := hE
          have RO2 : Hid (Row w8 gb 30 [.int .i64 f.vars, .slice XA xn xc]) := RO1.out.grown hG (fun e => own_ne_row E1.out.own RO1.out (by decide) e.symm)
          have RZ2 : Hid (Row w8 (w.heap.size + 1) 30 [.int .i64 0, .slice none 0 0]) := RZ1.out.grown hG (fun e => own_ne_row E1.out.own RZ1.out (by decide) e.symm)
          have BW2 : Hid (Below w.heap.size w w8) := BW1.out.grown hG BW1.out.size (fun q hq => (E1.out.own.lt q hq).1)
          clear hyl hE hG hat E1 RO1 RZ1 BW1 R1 R2 HS1
          have e0 := RO2.out.cell 0
          have e1 := RO2.out.cell 1
          have el := RO2.out.lt
          simp only [List.getElem?_cons_zero, List.getElem?_cons_succ] at e0 e1
          have ef0 := RO2.out.frozen 0
          have ef1 := RO2.out.frozen 1
          go_wp2
          have Z1 := RO2.out.set 0 (.int .i64 f.vars)
          go_roundg (n - (i + 1))
          case measure => omega
          case rel =>
            refine ⟨i + 1, _, _, by omega, by omega, by go_num, (BW2.out.setCell (p := ⟨gb, 0, none⟩) (by show _ ≤ gb; omega) _).setCell (p := ⟨gb, 1, none⟩) (by show _ ≤ gb; omega) _, (RZ2.out.far (p := ⟨gb, 0, none⟩) (by show w.heap.size + 1 ≠ gb; omega) _).far (p := ⟨gb, 1, none⟩) (by show w.heap.size + 1 ≠ gb; omega) _, Z1.set 1 _, (E2.out.far (p := ⟨gb, 0, none⟩) RO2.out (by decide) (by decide) (by show _ ≤ gb; omega) _).far (p := ⟨gb, 1, none⟩) Z1 (by decide) (by decide) (by show _ ≤ gb; omega) _⟩
      · have hltz : ¬ (i : Int) < (n : Int) := by omega
        obtain rfl : n = i := by omega
        have HKF : Hid ((fixF f vs bs).cls = f.cls ++ fixTo vs bs n) := (by show _ = _; unfold fixF; rw [HLV.out])
        rw [← HKF.out] at EO HXN
        have e0 := RO.out.cell 0
        have e1 := RO.out.cell 1
        have el := RO.out.lt
        simp only [List.getElem?_cons_zero, List.getElem?_cons_succ] at e0 e1
        go_wp2_with fail
        have HCT := eFits_any f.vars XA xn xc wr (by unfold maxLen; omega)
        have RZ0 : Hid (Row wr (w.heap.size + 1) 30 [.int .i64 0, .slice none 0 0]) := RZ.out
        have EO0 : Hid (EOwn wr w.heap.size w.heap.size (.slice XA xn xc) sl2 (fixF f vs bs).cls) := EO.out
        have BW0 : Hid (Below w.heap.size w wr) := BW.out
        clear RZ EO BW RO e0 e1 el
        by_cases hft : f.vars ≤ 65536 ∧ xn ≤ 262144
        · have HCE : Hid (fixR f vs bs = fixF f vs bs ∧ fixErr f vs bs = 0) := fixGood HOK.out (by
            unfold fitsErr; rw [if_pos]; show f.vars ≤ 65536 ∧ (fixF f vs bs).cls.length ≤ 262144; rw [HXN.out]; exact hft)
          rw [if_pos hft, if_pos hft] at HCT
          clear hft
          with_reducible refine HCT.mono ?_
          clear HCT
          rintro e w6 ⟨rfl, hG⟩
          have hb := grown_bel hG
          have RZ9 : Hid (Row w6 (w.heap.size + 1) 30 [.int .i64 0, .slice none 0 0]) := rowCells RZ0.out hb
          have EO9 : Hid (EOwn w6 w.heap.size w.heap.size (.slice XA xn xc) sl2 (fixF f vs bs).cls) := EO0.out.up BW0.out.size hb
          have BW9 : Hid (Below w.heap.size w w6) := below_on2 BW0.out hb
          have HRES : Hid (FmlPost (fixR f vs bs) (fixErr f vs bs) w (.returned (.tuple #[.agg #[.int .i64 f.vars, .slice XA xn xc], .int .i64 0])) (World.setCell (World.setCell w6 ⟨w.heap.size + 1, 0, none⟩ (.int .i64 f.vars)) ⟨w.heap.size + 1, 1, none⟩ (.slice XA xn xc))) := by
            have Z1 := RZ9.out.set 0 (.int .i64 f.vars)
            obtain ⟨q1, q2⟩ := HCE.out
            show FmlPost _ _ _ _ _
            rw [q1, q2]
            have hB := (BW9.out.setCell (p := ⟨w.heap.size + 1, 0, none⟩) (by show _ ≤ w.heap.size + 1; omega) (.int .i64 f.vars)).setCell (p := ⟨w.heap.size + 1, 1, none⟩) (by show _ ≤ w.heap.size + 1; omega) (.slice XA xn xc)
            refine ⟨XA, xn, xc, sl2, rfl, ?_, hB⟩
            exact ((EO9.out.far (p := ⟨w.heap.size + 1, 0, none⟩) RZ9.out (by decide) (by decide) (by show _ ≤ w.heap.size + 1; omega) (.int .i64 f.vars)).far (p := ⟨w.heap.size + 1, 1, none⟩) Z1 (by decide) (by decide) (by show _ ≤ w.heap.size + 1; omega) (.slice XA xn xc)).fat hB.size HXN.out (by unfold maxLen; omega)
          have Z9 := (RZ9.out.set 0 (.int .i64 f.vars)).set 1 (.slice XA xn xc)
          have q0 := Z9.cell 0
          have q1 := Z9.cell 1
          simp only [List.getElem?_cons_zero, List.getElem?_cons_succ, List.set_cons_zero, List.set_cons_succ] at q0 q1
          clear Z9 EO9 BW9 hb hG
          have d0 := RZ9.out.cell 0
          have d1 := RZ9.out.cell 1
          have dl := RZ9.out.lt
          simp only [List.getElem?_cons_zero, List.getElem?_cons_succ] at d0 d1
          have df0 := RZ9.out.frozen 0
          have df1 := RZ9.out.frozen 1
          clear RZ9
          go_wp2
          refine bodyPost_ret (v := .tuple #[.agg #[.int .i64 f.vars, .slice XA xn xc], .int .i64 0]) (by simp [results, Try.results18, go_sem, q0, q1]) rfl ?_
          exact HRES.out
        · have HCE : Hid (fixR f vs bs = noFml ∧ fixErr f vs bs = 6) := fixBig HOK.out (by
            unfold fitsErr; rw [if_neg]; show ¬ (f.vars ≤ 65536 ∧ (fixF f vs bs).cls.length ≤ 262144); rw [HXN.out]; exact hft)
          rw [if_neg hft, if_neg hft] at HCT
          clear hft
          with_reducible refine HCT.mono ?_
          clear HCT
          rintro e w6 ⟨rfl, hG⟩
          have hb := grown_bel hG
          have RZ6 : Hid (Row w6 (w.heap.size + 1) 30 [.int .i64 0, .slice none 0 0]) := rowCells RZ0.out hb
          have BB : Below w.heap.size w w6 := below_on2 BW0.out hb
          clear hb hG RZ0 EO0 BW0
          have d0 := RZ6.out.cell 0
          have d1 := RZ6.out.cell 1
          have dl := RZ6.out.lt
          simp only [List.getElem?_cons_zero, List.getElem?_cons_succ] at d0 d1
          have df0 := RZ6.out.frozen 0
          have df1 := RZ6.out.frozen 1
          go_wp2
          exact bodyPost_ret (v := .tuple #[.agg #[.int .i64 0, .slice none 0 0], .int .i64 6]) (by simp [results, Try.results18, go_sem, d0, d1]) rfl (fmlPost_err HCE.out.1 HCE.out.2 (by go_grown))
end Go.Proofs.Ytofflkfkakddkaa
