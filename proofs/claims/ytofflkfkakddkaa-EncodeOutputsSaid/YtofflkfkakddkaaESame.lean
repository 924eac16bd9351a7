/-
  Same of the program and of the reference, walked.
-/
import Derived.Test.YtofflkfkakddkaaEVars
import Derived.Test.YtofflkfkakddkaaEAdd
import Derived.Test.YtofflkfkakddkaaEClone
import Derived.Test.YtofflkfkakddkaaEPost
import Derived.Test.YtofflkfkakddkaaRegL2
import Derived.StillTailTactics
namespace Go.Proofs.Ytofflkfkakddkaa
open Go.RowKit
set_option linter.unusedSimpArgs false
set_option linter.unusedVariables false
set_option maxRecDepth 100000 in
set_option maxHeartbeats 10000000 in
theorem rEq_any (f : Fml) (xs ys : List Int) (FA XP YP : Option Addr) (fn fc n xc m yc : Nat) (sl : List Sl) (w : World)
    (hf : FAt w f FA fn sl) (hv : Rd w w.heap.size 1 XP n (ints xs)) (hbs : Rd w w.heap.size 1 YP m (ints ys)) (hfn : fn ≤ 400000) (hn : n ≤ 100000) (hm : m ≤ 100000) :
    Calls Try.prog 21 #[.agg #[.int .i64 f.vars, .slice FA fn fc], .slice XP n xc, .slice YP m yc] w (FmlPost (eqR f xs ys) (eqErr f xs ys) w) := by
  have HF : Hid (FAt w f FA fn sl) := hf
  have HX : Hid (Rd w w.heap.size 1 XP n (ints xs)) := hv
  have HY : Hid (Rd w w.heap.size 1 YP m (ints ys)) := hbs
  have HLX : Hid (xs.length = n) := by have := hv.1; rw [ints_length, Nat.mul_one] at this; exact this
  have HLY : Hid (ys.length = m) := by have := hbs.1; rw [ints_length, Nat.mul_one] at this; exact this
  have HFL : Hid (f.cls.length = fn) := hf.wl
  have hm3 := hf.n63
  have HNM : Hid (n ≤ maxLen) := (by show _ ≤ _; unfold maxLen; omega)
  unfold maxLen at hm3
  clear hf hv hbs
  by_cases hnm : n = m
  case neg =>
    have hns : ((n : Int) != (m : Int)) = true := by rw [bne_iff_ne]; omega
    have HCE : Hid (eqR f xs ys = noFml ∧ eqErr f xs ys = 2) := eqBad (by unfold eqOk; rw [decide_eq_false (by rw [HLX.out, HLY.out]; exact hnm)]; simp)
    clear hnm
    go_enter Try.func21, Try.ntmps21
    go_wp2_with fail
    have RF : Hid (Row (World.alloc (World.alloc w (.cells #[.int .i64 f.vars, .slice FA fn fc] 30)) (.cells #[.int .i64 0, .slice none 0 0] 30)) (w.heap.size) 30 [.int .i64 f.vars, .slice FA fn fc]) := by
      have h0 := Row.new w 30 [.int .i64 f.vars, .slice FA fn fc]
      try simp only [World.size_alloc] at h0
      exact (h0.alloc _)
    have RZ : Hid (Row (World.alloc (World.alloc w (.cells #[.int .i64 f.vars, .slice FA fn fc] 30)) (.cells #[.int .i64 0, .slice none 0 0] 30)) (w.heap.size + 1) 30 [.int .i64 0, .slice none 0 0]) := by
      have h0 := Row.new (World.alloc w (.cells #[.int .i64 f.vars, .slice FA fn fc] 30)) 30 [.int .i64 0, .slice none 0 0]
      try simp only [World.size_alloc] at h0
      exact h0
    have hgr9 : Below w.heap.size w (World.alloc (World.alloc w (.cells #[.int .i64 f.vars, .slice FA fn fc] 30)) (.cells #[.int .i64 0, .slice none 0 0] 30)) := by go_grown
    have B_w : Hid (Below w.heap.size w (World.alloc (World.alloc w (.cells #[.int .i64 f.vars, .slice FA fn fc] 30)) (.cells #[.int .i64 0, .slice none 0 0] 30))) := hgr9
    clear hgr9
    revert RF RZ B_w
    generalize (World.alloc (World.alloc w (.cells #[.int .i64 f.vars, .slice FA fn fc] 30)) (.cells #[.int .i64 0, .slice none 0 0] 30)) = wa
    intro RF RZ B_w
    with_reducible refine (rFRight_any f FA fn fc sl wa (HF.out.up B_w.out)).mono ?_
    rintro e w1 ⟨rfl, hb⟩
    have B_w : Hid (Below w.heap.size w w1) := below_on2 B_w.out hb
    have B_wa : Hid (Below wa.heap.size wa w1) := hb
    clear hb
    cases hr1 : rightF f
    · have RZb : Hid (Row w1 (w.heap.size + 1) 30 [.int .i64 0, .slice none 0 0]) := (rowCells RZ.out B_wa.out)
      have d0 := RZb.out.cell 0
      have d1 := RZb.out.cell 1
      have dl := RZb.out.lt
      simp only [List.getElem?_cons_zero, List.getElem?_cons_succ] at d0 d1
      have df0 := RZb.out.frozen 0
      have df1 := RZb.out.frozen 1
      have BB := B_w.out
      go_wp2
      exact bodyPost_ret (v := .tuple #[.agg #[.int .i64 0, .slice none 0 0], .int .i64 2]) (by simp [results, Try.results21, go_sem, d0, d1]) rfl (fmlPost_err HCE.out.1 HCE.out.2 (by go_grown))
    · have RZb : Hid (Row w1 (w.heap.size + 1) 30 [.int .i64 0, .slice none 0 0]) := (rowCells RZ.out B_wa.out)
      have d0 := RZb.out.cell 0
      have d1 := RZb.out.cell 1
      have dl := RZb.out.lt
      simp only [List.getElem?_cons_zero, List.getElem?_cons_succ] at d0 d1
      have df0 := RZb.out.frozen 0
      have df1 := RZb.out.frozen 1
      have BB := B_w.out
      go_wp2
      exact bodyPost_ret (v := .tuple #[.agg #[.int .i64 0, .slice none 0 0], .int .i64 2]) (by simp [results, Try.results21, go_sem, d0, d1]) rfl (fmlPost_err HCE.out.1 HCE.out.2 (by go_grown))
  subst hnm
  have hns : ((n : Int) != (n : Int)) = false := by simp
  go_enter Try.func21, Try.ntmps21
  go_wp2_with fail
  have RF : Hid (Row (World.alloc (World.alloc w (.cells #[.int .i64 f.vars, .slice FA fn fc] 30)) (.cells #[.int .i64 0, .slice none 0 0] 30)) (w.heap.size) 30 [.int .i64 f.vars, .slice FA fn fc]) := by
    have h0 := Row.new w 30 [.int .i64 f.vars, .slice FA fn fc]
    try simp only [World.size_alloc] at h0
    exact (h0.alloc _)
  have RZ : Hid (Row (World.alloc (World.alloc w (.cells #[.int .i64 f.vars, .slice FA fn fc] 30)) (.cells #[.int .i64 0, .slice none 0 0] 30)) (w.heap.size + 1) 30 [.int .i64 0, .slice none 0 0]) := by
    have h0 := Row.new (World.alloc w (.cells #[.int .i64 f.vars, .slice FA fn fc] 30)) 30 [.int .i64 0, .slice none 0 0]
    try simp only [World.size_alloc] at h0
    exact h0
  have hgr9 : Below w.heap.size w (World.alloc (World.alloc w (.cells #[.int .i64 f.vars, .slice FA fn fc] 30)) (.cells #[.int .i64 0, .slice none 0 0] 30)) := by go_grown
  have B_w : Hid (Below w.heap.size w (World.alloc (World.alloc w (.cells #[.int .i64 f.vars, .slice FA fn fc] 30)) (.cells #[.int .i64 0, .slice none 0 0] 30))) := hgr9
  clear hgr9
  revert RF RZ B_w
  generalize (World.alloc (World.alloc w (.cells #[.int .i64 f.vars, .slice FA fn fc] 30)) (.cells #[.int .i64 0, .slice none 0 0] 30)) = wa
  intro RF RZ B_w
  with_reducible refine (rFRight_any f FA fn fc sl wa (HF.out.up B_w.out)).mono ?_
  rintro e w1 ⟨rfl, hb⟩
  have B_w : Hid (Below w.heap.size w w1) := below_on2 B_w.out hb
  have B_wa : Hid (Below wa.heap.size wa w1) := hb
  clear hb
  cases hr1 : rightF f
  · have HCE : Hid (eqR f xs ys = noFml ∧ eqErr f xs ys = 2) := eqBad (by unfold eqOk; rw [hr1]; rfl)
    clear hr1
    have RZb : Hid (Row w1 (w.heap.size + 1) 30 [.int .i64 0, .slice none 0 0]) := (rowCells RZ.out B_wa.out)
    have d0 := RZb.out.cell 0
    have d1 := RZb.out.cell 1
    have dl := RZb.out.lt
    simp only [List.getElem?_cons_zero, List.getElem?_cons_succ] at d0 d1
    have df0 := RZb.out.frozen 0
    have df1 := RZb.out.frozen 1
    have BB := B_w.out
    go_wp2
    exact bodyPost_ret (v := .tuple #[.agg #[.int .i64 0, .slice none 0 0], .int .i64 2]) (by simp [results, Try.results21, go_sem, d0, d1]) rfl (fmlPost_err HCE.out.1 HCE.out.2 (by go_grown))
  have kR : Hid (Row w1 (w.heap.size) 30 [.int .i64 f.vars, .slice FA fn fc]) := (rowCells RF.out B_wa.out)
  have k0 := kR.out.cell 0
  have k1 := kR.out.cell 1
  have kl := kR.out.lt
  simp only [List.getElem?_cons_zero, List.getElem?_cons_succ] at k0 k1
  clear kR
  have HR1 : Hid (rightF f = true) := hr1
  clear hr1
  go_wp2_with fail
  with_reducible refine (rVars_any f.vars (.slice FA fn fc) XP n xc xs w1 (HX.out.up B_w.out) HNM.out).mono ?_
  rintro e w2 ⟨rfl, hb⟩
  have B_w : Hid (Below w.heap.size w w2) := below_on2 B_w.out hb
  have B_wa : Hid (Below wa.heap.size wa w2) := below_on2 B_wa.out hb
  have B_w1 : Hid (Below w1.heap.size w1 w2) := hb
  clear k0 k1 kl
  clear hb
  cases hr3 : varsOk f.vars xs
  · have HCE : Hid (eqR f xs ys = noFml ∧ eqErr f xs ys = 2) := eqBad (by unfold eqOk; rw [hr3]; simp)
    clear hr3
    have RZb : Hid (Row w2 (w.heap.size + 1) 30 [.int .i64 0, .slice none 0 0]) := (rowCells RZ.out B_wa.out)
    have d0 := RZb.out.cell 0
    have d1 := RZb.out.cell 1
    have dl := RZb.out.lt
    simp only [List.getElem?_cons_zero, List.getElem?_cons_succ] at d0 d1
    have df0 := RZb.out.frozen 0
    have df1 := RZb.out.frozen 1
    have BB := B_w.out
    go_wp2
    exact bodyPost_ret (v := .tuple #[.agg #[.int .i64 0, .slice none 0 0], .int .i64 2]) (by simp [results, Try.results21, go_sem, d0, d1]) rfl (fmlPost_err HCE.out.1 HCE.out.2 (by go_grown))
  have HR3 : Hid (varsOk f.vars xs = true) := hr3
  clear hr3
  have kR : Hid (Row w2 (w.heap.size) 30 [.int .i64 f.vars, .slice FA fn fc]) := (rowCells RF.out B_wa.out)
  have k0 := kR.out.cell 0
  have k1 := kR.out.cell 1
  have kl := kR.out.lt
  simp only [List.getElem?_cons_zero, List.getElem?_cons_succ] at k0 k1
  clear kR
  go_wp2_with fail
  with_reducible refine (rVars_any f.vars (.slice FA fn fc) YP n yc ys w2 (HY.out.up B_w.out) HNM.out).mono ?_
  rintro e w3 ⟨rfl, hb⟩
  have B_w : Hid (Below w.heap.size w w3) := below_on2 B_w.out hb
  have B_wa : Hid (Below wa.heap.size wa w3) := below_on2 B_wa.out hb
  have B_w1 : Hid (Below w1.heap.size w1 w3) := below_on2 B_w1.out hb
  have B_w2 : Hid (Below w2.heap.size w2 w3) := hb
  clear k0 k1 kl
  clear hb
  cases hr3 : varsOk f.vars ys
  · have HCE : Hid (eqR f xs ys = noFml ∧ eqErr f xs ys = 2) := eqBad (by unfold eqOk; rw [hr3]; simp)
    clear hr3
    have RZb : Hid (Row w3 (w.heap.size + 1) 30 [.int .i64 0, .slice none 0 0]) := (rowCells RZ.out B_wa.out)
    have d0 := RZb.out.cell 0
    have d1 := RZb.out.cell 1
    have dl := RZb.out.lt
    simp only [List.getElem?_cons_zero, List.getElem?_cons_succ] at d0 d1
    have df0 := RZb.out.frozen 0
    have df1 := RZb.out.frozen 1
    have BB := B_w.out
    go_wp2
    exact bodyPost_ret (v := .tuple #[.agg #[.int .i64 0, .slice none 0 0], .int .i64 2]) (by simp [results, Try.results21, go_sem, d0, d1]) rfl (fmlPost_err HCE.out.1 HCE.out.2 (by go_grown))
  have HOK : Hid (eqOk f xs ys = true) := (by show _ = _; unfold eqOk; rw [HR1.out, HR3.out, hr3, decide_eq_true (HLX.out.trans HLY.out.symm)]; rfl)
  have HR4 : Hid (varsOk f.vars ys = true) := hr3
  have hfv : 0 ≤ f.vars ∧ f.vars ≤ 65536 := by
    have := HR1.out
    unfold rightF sizesF at this
    simp only [Bool.and_eq_true, decide_eq_true_eq] at this
    exact ⟨this.1.1, this.1.2.1⟩
  obtain ⟨hfv1, hfv2⟩ := hfv
  clear hr3 hns
  have kR : Hid (Row w3 (w.heap.size) 30 [.int .i64 f.vars, .slice FA fn fc]) := (rowCells RF.out B_wa.out)
  have k0 := kR.out.cell 0
  have k1 := kR.out.cell 1
  have kl := kR.out.lt
  simp only [List.getElem?_cons_zero, List.getElem?_cons_succ] at k0 k1
  clear kR
  go_wp2_with (at_builtin; refine wpList_app rfl (.tmp 37) (.tmp 39) 28 rfl w.heap.size 23 (.slice none 0 0) 1 24 Try.underlying28 row_infoE rfl (by decide) (by decide) (.slice none 0 0) 0 [] rfl ?own w.heap.size FA fn fc (slCells sl) rfl ?rd (slCells_one _) ?hb ?hbase ?_)
  case own => exact World.ownsRow_nil _ _ _ _
  case rd => exact HF.out.rows.below (B_w.out.alloc B_w.out.size _) (Nat.le_refl _)
  case hb => omega
  case hbase => have := B_w.out.size; first | (simp; omega) | omega
  intro v' w' hown' hgrow' hat'
  obtain ⟨CA, cx, rfl, _⟩ := Rd.own hown'
  have RO5 : Hid (Row w' w3.heap.size 30 [.int .i64 f.vars, .slice none 0 0]) := (Row.new w3 30 [.int .i64 f.vars, .slice none 0 0]).grown hgrow' (by simp [Value.ownBlock])
  have BW5 : Hid (Below w.heap.size w w') := (B_w.out.alloc B_w.out.size _).grown hgrow' (by have := B_w.out.size; simp; omega) (fun k hk => by simp [Value.ownBlock] at hk)
  have RZ5 : Hid (Row w' (w.heap.size + 1) 30 [.int .i64 0, .slice none 0 0]) := (Row.alloc (rowCells RZ.out B_wa.out) _).grown hgrow' (by simp [Value.ownBlock])
  have EO5 : Hid (EOwn w' w.heap.size w.heap.size (.slice CA fn cx) sl f.cls) := EOwn.ofFAt HF.out BW5.out (by simpa using hown')
  have hgb : w.heap.size + 1 < w3.heap.size := (by have := (show Row w3 _ _ _ from (rowCells RZ.out B_wa.out)).lt; exact this)
  clear hown' hgrow' hat'
  have e0 := RO5.out.cell 0
  have e1 := RO5.out.cell 1
  have el := RO5.out.lt
  simp only [List.getElem?_cons_zero, List.getElem?_cons_succ] at e0 e1
  have ef0 := RO5.out.frozen 0
  have ef1 := RO5.out.frozen 1
  go_wp2
  have RO6 : Hid (Row (World.setCell w' ⟨w3.heap.size, 1, none⟩ (.slice CA fn cx)) w3.heap.size 30 [.int .i64 f.vars, .slice CA fn cx]) := RO5.out.set 1 _
  have RZ6 : Hid (Row (World.setCell w' ⟨w3.heap.size, 1, none⟩ (.slice CA fn cx)) (w.heap.size + 1) 30 [.int .i64 0, .slice none 0 0]) := RZ5.out.far (p := ⟨w3.heap.size, 1, none⟩) (by show w.heap.size + 1 ≠ w3.heap.size; omega) _
  have BW6 : Hid (Below w.heap.size w (World.setCell w' ⟨w3.heap.size, 1, none⟩ (.slice CA fn cx))) := BW5.out.setCell (p := ⟨w3.heap.size, 1, none⟩) (by show _ ≤ w3.heap.size; omega) _
  have EO6 : Hid (EOwn (World.setCell w' ⟨w3.heap.size, 1, none⟩ (.slice CA fn cx)) w.heap.size w.heap.size (.slice CA fn cx) sl (f.cls ++ eqTo xs ys 0)) := (by
    show EOwn _ _ _ _ _ _
    rw [show eqTo xs ys 0 = [] from rfl, List.append_nil]
    exact EO5.out.far (p := ⟨w3.heap.size, 1, none⟩) RO5.out (by decide) (by decide) (by show _ ≤ w3.heap.size; omega) _)
  clear RO5 RZ5 BW5 EO5 e0 e1 el ef0 ef1
  clear k0 k1 kl
  clear B_w B_wa B_w1 B_w2 RF RZ
  revert RO6 RZ6 BW6 EO6
  generalize World.setCell w' ⟨w3.heap.size, 1, none⟩ (.slice CA fn cx) = w6
  revert hgb
  generalize w3.heap.size = gb
  intro hgb RO6 RZ6 BW6 EO6
  go_loopg [9] n (fun gg s9 wr => ∃ (i : Nat) (v : Value) (sl2 : List Sl), i ≤ n ∧ n - i ≤ gg ∧ s9 = .int .i64 i ∧ Aside (Below w.heap.size w wr) ∧ Aside (Row wr (w.heap.size + 1) 30 [.int .i64 0, .slice none 0 0]) ∧ Aside (Row wr gb 30 [.int .i64 f.vars, v]) ∧ Aside (EOwn wr w.heap.size w.heap.size v sl2 (f.cls ++ eqTo xs ys i)))
  case atStart => exact ⟨0, _, _, Nat.zero_le _, by omega, rfl, BW6.out, RZ6.out, RO6.out, EO6.out⟩
  case round =>
    clear BW6 RZ6 RO6 EO6
    obtain ⟨i, v, sl2, hi, hgg, rfl, BW, RZ, RO, EO⟩ := hrel
    obtain ⟨XA, xc, rfl⟩ := EO.out.form
    obtain ⟨xn, hxn⟩ : ∃ xn, xn = (f.cls ++ eqTo xs ys i).length := ⟨_, rfl⟩
    have HXN : Hid ((f.cls ++ eqTo xs ys i).length = xn) := hxn.symm
    have hxb : xn ≤ 600000 := by
      rw [hxn, List.length_append, HFL.out, eqTo_length]; omega
    rw [← hxn] at RO EO
    have EO : Hid (EOwn wr w.heap.size w.heap.size (.slice XA xn xc) sl2 (f.cls ++ eqTo xs ys i)) := EO.out
    have RO : Hid (Row wr gb 30 [.int .i64 f.vars, .slice XA xn xc]) := RO.out
    clear hxn
    by_cases hlt : i < n
    · have hltz : (i : Int) < (n : Int) := by omega
      obtain ⟨ad, rfl, hbx, hcx⟩ := (HX.out.up BW.out).int hlt
      obtain ⟨ae, rfl, hby, hcy⟩ := (HY.out.up BW.out).int hlt
      obtain ⟨x1, x2⟩ := varOk_at HR3.out (k := i) (by rw [HLX.out]; exact hlt)
      obtain ⟨y1, y2⟩ := varOk_at HR4.out (k := i) (by rw [HLY.out]; exact hlt)
      have HFX : Hid (eqTo xs ys (i + 1) = eqTo xs ys i ++ [[-(xs.getD i 0), ys.getD i 0], [xs.getD i 0, -(ys.getD i 0)]]) := eqTo_succ xs ys i
      generalize xs.getD i 0 = x at hcx x1 x2 HFX
      generalize ys.getD i 0 = y at hcy y1 y2 HFX
      have wx : IntKind.i64.wrap (-x) = -x := IntWalk.i64_in _ (by omega)
      have wy : IntKind.i64.wrap (-y) = -y := IntWalk.i64_in _ (by omega)
      have e0 := RO.out.cell 0
      have e1 := RO.out.cell 1
      have el := RO.out.lt
      simp only [List.getElem?_cons_zero, List.getElem?_cons_succ] at e0 e1
      have ef0 := RO.out.frozen 0
      have ef1 := RO.out.frozen 1
      go_wp2_with fail
      refine wp_region_L (fun w' => Row w' gb 30 [.int .i64 f.vars, .slice XA xn xc] ∧ w'.cell? (ad.add i) = some (.int .i64 x) ∧ w'.cell? (ae.add i) = some (.int .i64 y)) [23, 24, 25] (by kernel_rfl) (by exact ⟨RO.out.drew, hcx, hcy⟩) (fun hHeld => ?_)
      have ROd : Hid (Row wr.drew gb 30 [.int .i64 f.vars, .slice XA xn xc]) := RO.out.drew
      have RZd : Hid (Row wr.drew (w.heap.size + 1) 30 [.int .i64 0, .slice none 0 0]) := RZ.out.drew
      have BWd : Hid (Below w.heap.size w wr.drew) := BW.out.drew
      have EOd : Hid (EOwn wr.drew w.heap.size w.heap.size (.slice XA xn xc) sl2 (f.cls ++ eqTo xs ys i)) := ⟨EO.out.len, EO.out.own, EO.out.row⟩
      have CXd : Hid (wr.drew.cell? (ad.add i) = some (.int .i64 x)) := hcx
      have CYd : Hid (wr.drew.cell? (ae.add i) = some (.int .i64 y)) := hcy
      have hbxd : Hid (ad.block < wr.drew.heap.size ∧ ae.block < wr.drew.heap.size) := ⟨hbx, hby⟩
      clear RO RZ BW EO hcx hcy hbx hby e0 e1 el ef0 ef1
      revert hHeld ROd RZd BWd EOd CXd CYd hbxd
      generalize wr.drew = wQ
      intro hHeld ROd RZd BWd EOd CXd CYd hbxd
      refine restL_pure (i := 0) (v := ?vr1) rfl (by kernel_rfl) (by kernel_rfl) (by kernel_rfl) (fun _ _ _ h => h) (Or.inl ⟨by rfl, ?yr1⟩) ?rr1
      case yr1 => intro w' hSw; clear hSw; go_simp; try (with_reducible rfl)
      go_simp
      refine restL_pure (i := 2) (v := ?vr2) rfl (by kernel_rfl) (by kernel_rfl) (by kernel_rfl) (fun _ _ _ h => h) (Or.inl ⟨by rfl, ?yr2⟩) ?rr2
      case yr2 => intro w' hSw; clear hSw; go_simp; try (with_reducible rfl)
      go_simp
      refine restL_pure (i := 3) (v := ?vr3) rfl (by kernel_rfl) (by kernel_rfl) (by kernel_rfl) (fun _ _ _ h => h) (Or.inl ⟨by rfl, ?yr3⟩) ?rr3
      case yr3 => intro w' hSw; clear hSw; go_simp; try (with_reducible rfl)
      go_simp
      refine restL_pure (i := 7) (v := ?vr4) rfl (by kernel_rfl) (by kernel_rfl) (by kernel_rfl) (fun _ _ _ h => h) (Or.inl ⟨by rfl, ?yr4⟩) ?rr4
      case yr4 => intro w' hSw; clear hSw; go_simp; try (with_reducible rfl)
      go_simp
      refine restL_pure (i := 8) (v := ?vr5) rfl (by kernel_rfl) (by kernel_rfl) (by kernel_rfl) (fun _ _ _ h => h) (Or.inl ⟨by rfl, ?yr5⟩) ?rr5
      case yr5 => intro w' hSw; clear hSw; go_simp; try (with_reducible rfl)
      go_simp
      refine restL_pure (i := 12) (v := ?vr6) rfl (by kernel_rfl) (by kernel_rfl) (by kernel_rfl) (fun _ _ _ h => h) (Or.inl ⟨by rfl, ?yr6⟩) ?rr6
      case yr6 => intro w' hSw; clear hSw; go_simp; try (with_reducible rfl)
      go_simp
      refine restL_pure (i := 13) (v := ?vr7) rfl (by kernel_rfl) (by kernel_rfl) (by kernel_rfl) (fun _ _ _ h => h) (Or.inl ⟨by rfl, ?yr7⟩) ?rr7
      case yr7 => intro w' hSw; clear hSw; go_simp; try (with_reducible rfl)
      go_simp
      refine restL_pure (i := 16) (v := ?vr8) rfl (by kernel_rfl) (by kernel_rfl) (by kernel_rfl) (fun _ _ _ h => h) (Or.inl ⟨by rfl, ?yr8⟩) ?rr8
      case yr8 => intro w' hSw; clear hSw; go_simp; try (with_reducible rfl)
      go_simp
      refine restL_pure (i := 17) (v := ?vr9) rfl (by kernel_rfl) (by kernel_rfl) (by kernel_rfl) (fun _ _ _ h => h) (Or.inl ⟨by rfl, ?yr9⟩) ?rr9
      case yr9 => intro w' hSw; clear hSw; go_simp; try (with_reducible rfl)
      go_simp
      refine restL_take (i := 1) (v := ?vr10) [[23], [24], [25]] rfl (by kernel_rfl) (by kernel_rfl) (by kernel_rfl) (by kernel_rfl) (fun _ _ _ h => h) (Or.inl ⟨by rfl, ?yr10⟩) hHeld ?rr10
      case yr10 =>
        intro w' hSw
        obtain ⟨hS1, hS2, hS3⟩ := hSw
        have hSh : Hid (Row w' gb 30 [.int .i64 f.vars, .slice XA xn xc]) := hS1
        clear hS1
        have z0 := hSh.out.cell 0
        have z1 := hSh.out.cell 1
        have zl := hSh.out.lt
        simp only [List.getElem?_cons_zero, List.getElem?_cons_succ] at z0 z1
        go_simp
        try (with_reducible rfl)
      go_simp
      refine restL_take (i := 4) (v := ?vr11) [[23, 22, 11, 6, 5], [24], [25]] rfl (by kernel_rfl) (by kernel_rfl) (by kernel_rfl) (by kernel_rfl) (fun _ _ _ h => h) (Or.inl ⟨by rfl, ?yr11⟩) hHeld ?rr11
      case yr11 =>
        intro w' hSw
        obtain ⟨hS1, hS2, hS3⟩ := hSw
        have hSh : Hid (Row w' gb 30 [.int .i64 f.vars, .slice XA xn xc]) := hS1
        clear hS1
        have z0 := hSh.out.cell 0
        have z1 := hSh.out.cell 1
        have zl := hSh.out.lt
        simp only [List.getElem?_cons_zero, List.getElem?_cons_succ] at z0 z1
        go_simp
        try (with_reducible rfl)
      go_simp
      refine restL_take (i := 5) (v := ?vr12) [[23, 22, 11, 6], [24], [25]] rfl (by kernel_rfl) (by kernel_rfl) (by kernel_rfl) (by kernel_rfl) (fun _ _ _ h => h) (Or.inl ⟨by rfl, ?yr12⟩) hHeld ?rr12
      case yr12 =>
        intro w' hSw
        obtain ⟨hS1, hS2, hS3⟩ := hSw
        have hSh : Hid (Row w' gb 30 [.int .i64 f.vars, .slice XA xn xc]) := hS1
        clear hS1
        have z0 := hSh.out.cell 0
        have z1 := hSh.out.cell 1
        have zl := hSh.out.lt
        simp only [List.getElem?_cons_zero, List.getElem?_cons_succ] at z0 z1
        go_simp
        try (with_reducible rfl)
      go_simp
      refine restL_pure (i := 6) (v := ?vr13) rfl (by kernel_rfl) (by kernel_rfl) (by kernel_rfl) (fun _ _ _ h => h) (Or.inl ⟨by rfl, ?yr13⟩) ?rr13
      case yr13 => intro w' hSw; clear hSw; go_simp; try (with_reducible rfl)
      go_simp
      refine restL_take (i := 9) (v := ?vr14) [[23, 22, 11, 10], [24], [25]] rfl (by kernel_rfl) (by kernel_rfl) (by kernel_rfl) (by kernel_rfl) (fun _ _ _ h => h) (Or.inl ⟨by rfl, ?yr14⟩) hHeld ?rr14
      case yr14 =>
        intro w' hSw
        obtain ⟨hS1, hS2, hS3⟩ := hSw
        have hSh : Hid (Row w' gb 30 [.int .i64 f.vars, .slice XA xn xc]) := hS1
        clear hS1
        have z0 := hSh.out.cell 0
        have z1 := hSh.out.cell 1
        have zl := hSh.out.lt
        simp only [List.getElem?_cons_zero, List.getElem?_cons_succ] at z0 z1
        go_simp
        try (with_reducible rfl)
      go_simp
      refine restL_take (i := 10) (v := ?vr15) [[23, 22, 11], [24], [25]] rfl (by kernel_rfl) (by kernel_rfl) (by kernel_rfl) (by kernel_rfl) (fun _ _ _ h => h) (Or.inl ⟨by rfl, ?yr15⟩) hHeld ?rr15
      case yr15 =>
        intro w' hSw
        obtain ⟨hS1, hS2, hS3⟩ := hSw
        have hSh : Hid (Row w' gb 30 [.int .i64 f.vars, .slice XA xn xc]) := hS1
        clear hS1
        have z0 := hSh.out.cell 0
        have z1 := hSh.out.cell 1
        have zl := hSh.out.lt
        simp only [List.getElem?_cons_zero, List.getElem?_cons_succ] at z0 z1
        go_simp
        try (with_reducible rfl)
      go_simp
      refine restL_take (i := 14) (v := ?vr16) [[23, 22, 21, 15], [24], [25]] rfl (by kernel_rfl) (by kernel_rfl) (by kernel_rfl) (by kernel_rfl) (fun _ _ _ h => h) (Or.inl ⟨by rfl, ?yr16⟩) hHeld ?rr16
      case yr16 =>
        intro w' hSw
        obtain ⟨hS1, hS2, hS3⟩ := hSw
        have hSh : Hid (Row w' gb 30 [.int .i64 f.vars, .slice XA xn xc]) := hS1
        clear hS1
        have z0 := hSh.out.cell 0
        have z1 := hSh.out.cell 1
        have zl := hSh.out.lt
        simp only [List.getElem?_cons_zero, List.getElem?_cons_succ] at z0 z1
        go_simp
        try (with_reducible rfl)
      go_simp
      refine restL_take (i := 15) (v := ?vr17) [[23, 22, 21], [24], [25]] rfl (by kernel_rfl) (by kernel_rfl) (by kernel_rfl) (by kernel_rfl) (fun _ _ _ h => h) (Or.inl ⟨by rfl, ?yr17⟩) hHeld ?rr17
      case yr17 =>
        intro w' hSw
        obtain ⟨hS1, hS2, hS3⟩ := hSw
        have hSh : Hid (Row w' gb 30 [.int .i64 f.vars, .slice XA xn xc]) := hS1
        clear hS1
        have z0 := hSh.out.cell 0
        have z1 := hSh.out.cell 1
        have zl := hSh.out.lt
        simp only [List.getElem?_cons_zero, List.getElem?_cons_succ] at z0 z1
        go_simp
        try (with_reducible rfl)
      go_simp
      refine restL_take (i := 18) (v := ?vr18) [[23, 22, 21, 20, 19], [24], [25]] rfl (by kernel_rfl) (by kernel_rfl) (by kernel_rfl) (by kernel_rfl) (fun _ _ _ h => h) (Or.inl ⟨by rfl, ?yr18⟩) hHeld ?rr18
      case yr18 =>
        intro w' hSw
        obtain ⟨hS1, hS2, hS3⟩ := hSw
        have hSh : Hid (Row w' gb 30 [.int .i64 f.vars, .slice XA xn xc]) := hS1
        clear hS1
        have z0 := hSh.out.cell 0
        have z1 := hSh.out.cell 1
        have zl := hSh.out.lt
        simp only [List.getElem?_cons_zero, List.getElem?_cons_succ] at z0 z1
        go_simp
        try (with_reducible rfl)
      go_simp
      refine restL_take (i := 19) (v := ?vr19) [[23, 22, 21, 20], [24], [25]] rfl (by kernel_rfl) (by kernel_rfl) (by kernel_rfl) (by kernel_rfl) (fun _ _ _ h => h) (Or.inl ⟨by rfl, ?yr19⟩) hHeld ?rr19
      case yr19 =>
        intro w' hSw
        obtain ⟨hS1, hS2, hS3⟩ := hSw
        have hSh : Hid (Row w' gb 30 [.int .i64 f.vars, .slice XA xn xc]) := hS1
        clear hS1
        have z0 := hSh.out.cell 0
        have z1 := hSh.out.cell 1
        have zl := hSh.out.lt
        simp only [List.getElem?_cons_zero, List.getElem?_cons_succ] at z0 z1
        go_simp
        try (with_reducible rfl)
      go_simp
      refine restL_pure (i := 20) (v := ?vr20) rfl (by kernel_rfl) (by kernel_rfl) (by kernel_rfl) (fun _ _ _ h => h) (Or.inl ⟨by rfl, ?yr20⟩) ?rr20
      case yr20 => intro w' hSw; clear hSw; go_simp; try (with_reducible rfl)
      go_simp
      refine restL_two (i := 11) (j := 21) (by kernel_rfl) rfl rfl (fun K hK => ?_) (fun K hK => ?_)
      · go_simp
        have ROe : Hid (Row (World.alloc wQ (.cells #[.int .i64 (-x), .int .i64 y] 3)) gb 30 [.int .i64 f.vars, .slice XA xn xc]) := ROd.out.alloc _
        have RZe : Hid (Row (World.alloc wQ (.cells #[.int .i64 (-x), .int .i64 y] 3)) (w.heap.size + 1) 30 [.int .i64 0, .slice none 0 0]) := RZd.out.alloc _
        have BWe : Hid (Below w.heap.size w (World.alloc wQ (.cells #[.int .i64 (-x), .int .i64 y] 3))) := BWd.out.alloc BWd.out.size _
        have EOe : Hid (EOwn (World.alloc wQ (.cells #[.int .i64 (-x), .int .i64 y] 3)) w.heap.size w.heap.size (.slice XA xn xc) sl2 (f.cls ++ eqTo xs ys i)) := EOd.out.up BWd.out.size ((Below.refl _ _).alloc (Nat.le_refl _) _)
        have CXe : Hid ((World.alloc wQ (.cells #[.int .i64 (-x), .int .i64 y] 3)).cell? (ad.add i) = some (.int .i64 x)) := (World.cell?_alloc_lt _ _ _ (by rw [add_block]; exact hbxd.out.1)).trans CXd.out
        have CYe : Hid ((World.alloc wQ (.cells #[.int .i64 (-x), .int .i64 y] 3)).cell? (ae.add i) = some (.int .i64 y)) := (World.cell?_alloc_lt _ _ _ (by rw [add_block]; exact hbxd.out.2)).trans CYd.out
        have Rg1e : Hid (Row (World.alloc wQ (.cells #[.int .i64 (-x), .int .i64 y] 3)) wQ.heap.size 3 [.int .i64 (-x), .int .i64 y]) := Row.new wQ 3 [.int .i64 (-x), .int .i64 y]
        have hbxe : Hid (ad.block < (World.alloc wQ (.cells #[.int .i64 (-x), .int .i64 y] 3)).heap.size ∧ ae.block < (World.alloc wQ (.cells #[.int .i64 (-x), .int .i64 y] 3)).heap.size) := (by have := hbxd.out; rw [World.size_alloc]; show _ ∧ _; omega)
        have hg1 : w.heap.size ≤ wQ.heap.size := BWd.out.size
        clear hHeld ROd RZd BWd EOd CXd CYd hbxd
        revert ROe RZe BWe EOe CXe CYe Rg1e hbxe hg1
        generalize (World.alloc wQ (.cells #[.int .i64 (-x), .int .i64 y] 3)) = w8
        generalize wQ.heap.size = g1
        intro ROe RZe BWe EOe CXe CYe Rg1e hbxe hg1
        have ROd := ROe
        have RZd := RZe
        have BWd := BWe
        have EOd := EOe
        have CXd := CXe
        have CYd := CYe
        have Rg1d := Rg1e
        have hbxd := hbxe
        clear ROe RZe BWe EOe CXe CYe Rg1e hbxe
        refine hK.out _ _ (fun _ => ?keep) (fun hHeld => ?_)
        case keep => exact ⟨ROd.out, CXd.out, CYd.out⟩
        have hHeld := hHeld rfl
        clear hK K
        try go_simp
        refine restL_one (i := 21) (by kernel_rfl) rfl (fun K hK => ?_)
        go_simp
        have ROe : Hid (Row (World.alloc w8 (.cells #[.int .i64 x, .int .i64 (-y)] 3)) gb 30 [.int .i64 f.vars, .slice XA xn xc]) := ROd.out.alloc _
        have RZe : Hid (Row (World.alloc w8 (.cells #[.int .i64 x, .int .i64 (-y)] 3)) (w.heap.size + 1) 30 [.int .i64 0, .slice none 0 0]) := RZd.out.alloc _
        have BWe : Hid (Below w.heap.size w (World.alloc w8 (.cells #[.int .i64 x, .int .i64 (-y)] 3))) := BWd.out.alloc BWd.out.size _
        have EOe : Hid (EOwn (World.alloc w8 (.cells #[.int .i64 x, .int .i64 (-y)] 3)) w.heap.size w.heap.size (.slice XA xn xc) sl2 (f.cls ++ eqTo xs ys i)) := EOd.out.up BWd.out.size ((Below.refl _ _).alloc (Nat.le_refl _) _)
        have CXe : Hid ((World.alloc w8 (.cells #[.int .i64 x, .int .i64 (-y)] 3)).cell? (ad.add i) = some (.int .i64 x)) := (World.cell?_alloc_lt _ _ _ (by rw [add_block]; exact hbxd.out.1)).trans CXd.out
        have CYe : Hid ((World.alloc w8 (.cells #[.int .i64 x, .int .i64 (-y)] 3)).cell? (ae.add i) = some (.int .i64 y)) := (World.cell?_alloc_lt _ _ _ (by rw [add_block]; exact hbxd.out.2)).trans CYd.out
        have Rg2e : Hid (Row (World.alloc w8 (.cells #[.int .i64 x, .int .i64 (-y)] 3)) w8.heap.size 3 [.int .i64 x, .int .i64 (-y)]) := Row.new w8 3 [.int .i64 x, .int .i64 (-y)]
        have hbxe : Hid (ad.block < (World.alloc w8 (.cells #[.int .i64 x, .int .i64 (-y)] 3)).heap.size ∧ ae.block < (World.alloc w8 (.cells #[.int .i64 x, .int .i64 (-y)] 3)).heap.size) := (by have := hbxd.out; rw [World.size_alloc]; show _ ∧ _; omega)
        have hg2 : w.heap.size ≤ w8.heap.size := BWd.out.size
        have Rg1e : Hid (Row (World.alloc w8 (.cells #[.int .i64 x, .int .i64 (-y)] 3)) g1 3 [.int .i64 (-x), .int .i64 y]) := Rg1d.out.alloc _
        clear hHeld ROd RZd BWd EOd CXd CYd hbxd Rg1d
        revert ROe RZe BWe EOe CXe CYe Rg2e hbxe hg2 Rg1e
        generalize (World.alloc w8 (.cells #[.int .i64 x, .int .i64 (-y)] 3)) = w9
        generalize w8.heap.size = g2
        intro ROe RZe BWe EOe CXe CYe Rg2e hbxe hg2 Rg1e
        have ROd := ROe
        have RZd := RZe
        have BWd := BWe
        have EOd := EOe
        have CXd := CXe
        have CYd := CYe
        have Rg2d := Rg2e
        have hbxd := hbxe
        have Rg1d := Rg1e
        clear ROe RZe BWe EOe CXe CYe Rg2e hbxe Rg1e
        refine hK.out _ _ (fun _ => ?keep) (fun hHeld => ?_)
        case keep => exact ⟨ROd.out, CXd.out, CYd.out⟩
        have hHeld := hHeld rfl
        clear hK K
        try go_simp
        refine restL_one (i := 22) (by kernel_rfl) rfl (fun K hK => ?_)
        go_simp
        have ROe : Hid (Row (World.alloc w9 (.cells #[.slice (some ⟨g1, 0, none⟩) 2 2, .slice (some ⟨g2, 0, none⟩) 2 2] 23)) gb 30 [.int .i64 f.vars, .slice XA xn xc]) := ROd.out.alloc _
        have RZe : Hid (Row (World.alloc w9 (.cells #[.slice (some ⟨g1, 0, none⟩) 2 2, .slice (some ⟨g2, 0, none⟩) 2 2] 23)) (w.heap.size + 1) 30 [.int .i64 0, .slice none 0 0]) := RZd.out.alloc _
        have BWe : Hid (Below w.heap.size w (World.alloc w9 (.cells #[.slice (some ⟨g1, 0, none⟩) 2 2, .slice (some ⟨g2, 0, none⟩) 2 2] 23))) := BWd.out.alloc BWd.out.size _
        have EOe : Hid (EOwn (World.alloc w9 (.cells #[.slice (some ⟨g1, 0, none⟩) 2 2, .slice (some ⟨g2, 0, none⟩) 2 2] 23)) w.heap.size w.heap.size (.slice XA xn xc) sl2 (f.cls ++ eqTo xs ys i)) := EOd.out.up BWd.out.size ((Below.refl _ _).alloc (Nat.le_refl _) _)
        have CXe : Hid ((World.alloc w9 (.cells #[.slice (some ⟨g1, 0, none⟩) 2 2, .slice (some ⟨g2, 0, none⟩) 2 2] 23)).cell? (ad.add i) = some (.int .i64 x)) := (World.cell?_alloc_lt _ _ _ (by rw [add_block]; exact hbxd.out.1)).trans CXd.out
        have CYe : Hid ((World.alloc w9 (.cells #[.slice (some ⟨g1, 0, none⟩) 2 2, .slice (some ⟨g2, 0, none⟩) 2 2] 23)).cell? (ae.add i) = some (.int .i64 y)) := (World.cell?_alloc_lt _ _ _ (by rw [add_block]; exact hbxd.out.2)).trans CYd.out
        have Rg1e : Hid (Row (World.alloc w9 (.cells #[.slice (some ⟨g1, 0, none⟩) 2 2, .slice (some ⟨g2, 0, none⟩) 2 2] 23)) g1 3 [.int .i64 (-x), .int .i64 y]) := Rg1d.out.alloc _
        have Rg2e : Hid (Row (World.alloc w9 (.cells #[.slice (some ⟨g1, 0, none⟩) 2 2, .slice (some ⟨g2, 0, none⟩) 2 2] 23)) g2 3 [.int .i64 x, .int .i64 (-y)]) := Rg2d.out.alloc _
        have Rgoe : Hid (Row (World.alloc w9 (.cells #[.slice (some ⟨g1, 0, none⟩) 2 2, .slice (some ⟨g2, 0, none⟩) 2 2] 23)) w9.heap.size 23 [.slice (some ⟨g1, 0, none⟩) 2 2, .slice (some ⟨g2, 0, none⟩) 2 2]) := Row.new w9 23 [.slice (some ⟨g1, 0, none⟩) 2 2, .slice (some ⟨g2, 0, none⟩) 2 2]
        clear hHeld ROd RZd BWd EOd CXd CYd hbxd Rg1d Rg2d
        revert ROe RZe BWe EOe CXe CYe Rg1e Rg2e Rgoe
        generalize (World.alloc w9 (.cells #[.slice (some ⟨g1, 0, none⟩) 2 2, .slice (some ⟨g2, 0, none⟩) 2 2] 23)) = w10
        generalize w9.heap.size = go
        intro ROe RZe BWe EOe CXe CYe Rg1e Rg2e Rgoe
        have ROd := ROe
        have RZd := RZe
        have BWd := BWe
        have EOd := EOe
        have CXd := CXe
        have CYd := CYe
        have Rg1d := Rg1e
        have Rg2d := Rg2e
        have Rgod := Rgoe
        clear ROe RZe BWe EOe CXe CYe Rg1e Rg2e Rgoe
        have hszw := BWd.out.size
        refine hK.out _ _ (fun _ => ?keep) (fun hHeld => ?_)
        case keep => exact ⟨ROd.out, CXd.out, CYd.out⟩
        have hHeld := hHeld rfl
        clear hK K
        try go_simp
        refine restL_one (i := 23) (by kernel_rfl) rfl (fun K hK => ?_)
        have EOX : Hid (w10.ownsRow w.heap.size 23 1 (.slice XA xn xc) xn (slCells sl2)) := (by have h9 := EOd.out.own; rw [HXN.out] at h9; exact h9)
        refine step_app rfl (.tmp 49) (.tmp 70) 28 rfl w.heap.size 23 (.slice none 0 0) 1 24 Try.underlying28 row_infoE rfl (by decide) (by decide) (.slice XA xn xc) xn (slCells sl2) rfl ?own w10.heap.size (some ⟨go, 0, none⟩) 2 2 (slCells [⟨some ⟨g1, 0, none⟩, 2, 2⟩, ⟨some ⟨g2, 0, none⟩, 2, 2⟩]) rfl ?rd (slCells_one _) ?hb ?hbase ?_
        case own => exact EOX.out
        case rd => exact Rgod.out.rd rfl
        case hb => omega
        case hbase => omega
        intro v' w11 hown' hgrow' hat'
        obtain ⟨YA, yd, rfl, _⟩ := Rd.own hown'
        have EO1 : Hid (EOwn w11 w.heap.size w.heap.size (.slice YA (xn + 2) yd) (sl2 ++ [⟨some ⟨g1, 0, none⟩, 2, 2⟩, ⟨some ⟨g2, 0, none⟩, 2, 2⟩]) (f.cls ++ eqTo xs ys (i + 1))) := (by
          show EOwn _ _ _ _ _ _
          rw [HFX.out, ← List.append_assoc]
          exact EOd.out.app hszw rfl (fun j hj => by
            have hc : j = 0 ∨ j = 1 := by simp at hj; omega
            rcases hc with rfl | rfl
            · exact ⟨.inr ⟨g1, hg1, rfl, rfl, Rg1d.out⟩, by show 2 ≤ maxLen; unfold maxLen; omega⟩
            · exact ⟨.inr ⟨g2, hg2, rfl, rfl, Rg2d.out⟩, by show 2 ≤ maxLen; unfold maxLen; omega⟩) hgrow' (by rw [HXN.out]; exact hown'))
        have RO1 : Hid (Row w11 gb 30 [.int .i64 f.vars, .slice XA xn xc]) := ROd.out.grown hgrow' (fun e => own_ne_row EOd.out.own ROd.out (by decide) e.symm)
        have RZ1 : Hid (Row w11 (w.heap.size + 1) 30 [.int .i64 0, .slice none 0 0]) := RZd.out.grown hgrow' (fun e => own_ne_row EOd.out.own RZd.out (by decide) e.symm)
        have BW1 : Hid (Below w.heap.size w w11) := BWd.out.grown hgrow' hszw (fun q hq => (EOd.out.own.lt q hq).1)
        clear hown' hgrow' hat' ROd RZd BWd EOd CXd CYd Rg1d Rg2d Rgod EOX hHeld
        have e0 := RO1.out.cell 0
        have e1 := RO1.out.cell 1
        have el := RO1.out.lt
        simp only [List.getElem?_cons_zero, List.getElem?_cons_succ] at e0 e1
        have ef0 := RO1.out.frozen 0
        have ef1 := RO1.out.frozen 1
        refine hK.out _ _ (fun h => absurd h (by decide)) (fun _ => ?_)
        clear hK K
        try go_simp
        refine restL_pure (i := 24) (v := ?vr21) rfl (by kernel_rfl) (by kernel_rfl) (by kernel_rfl) (fun _ _ _ h => h) (Or.inl ⟨by rfl, ?yr21⟩) ?rr21
        case yr21 => intro w' hSw; clear hSw; go_simp; try (with_reducible rfl)
        go_simp
        refine restL_one (i := 25) (by kernel_rfl) rfl (fun K hK => ?_)
        go_simp
        refine hK.out _ _ (fun h => absurd h (by decide)) (fun _ => ?_)
        clear hK K
        try go_simp
        refine restL_done (by kernel_rfl) ?_ _
        have RO2 : Hid (Row (World.setCell w11 ⟨gb, 1, none⟩ (.slice YA (xn + 2) yd)) gb 30 [.int .i64 f.vars, .slice YA (xn + 2) yd]) := RO1.out.set 1 _
        have RZ2 : Hid (Row (World.setCell w11 ⟨gb, 1, none⟩ (.slice YA (xn + 2) yd)) (w.heap.size + 1) 30 [.int .i64 0, .slice none 0 0]) := RZ1.out.far (p := ⟨gb, 1, none⟩) (by show w.heap.size + 1 ≠ gb; omega) _
        have BW2 : Hid (Below w.heap.size w (World.setCell w11 ⟨gb, 1, none⟩ (.slice YA (xn + 2) yd))) := BW1.out.setCell (p := ⟨gb, 1, none⟩) (by show _ ≤ gb; omega) _
        have EO2 : Hid (EOwn (World.setCell w11 ⟨gb, 1, none⟩ (.slice YA (xn + 2) yd)) w.heap.size w.heap.size (.slice YA (xn + 2) yd) (sl2 ++ [⟨some ⟨g1, 0, none⟩, 2, 2⟩, ⟨some ⟨g2, 0, none⟩, 2, 2⟩]) (f.cls ++ eqTo xs ys (i + 1))) := EO1.out.far (p := ⟨gb, 1, none⟩) RO1.out (by decide) (by decide) (by show _ ≤ gb; omega) _
        clear RO1 RZ1 BW1 EO1 e0 e1 el ef0 ef1
        revert RO2 RZ2 BW2 EO2
        generalize (World.setCell w11 ⟨gb, 1, none⟩ (.slice YA (xn + 2) yd)) = w12
        intro RO2 RZ2 BW2 EO2
        go_wp2
        go_roundg (n - (i + 1))
        case measure => omega
        case rel => exact ⟨i + 1, _, _, by omega, by omega, by go_num, BW2.out, RZ2.out, RO2.out, EO2.out⟩
      · go_simp
        have ROe : Hid (Row (World.alloc wQ (.cells #[.int .i64 x, .int .i64 (-y)] 3)) gb 30 [.int .i64 f.vars, .slice XA xn xc]) := ROd.out.alloc _
        have RZe : Hid (Row (World.alloc wQ (.cells #[.int .i64 x, .int .i64 (-y)] 3)) (w.heap.size + 1) 30 [.int .i64 0, .slice none 0 0]) := RZd.out.alloc _
        have BWe : Hid (Below w.heap.size w (World.alloc wQ (.cells #[.int .i64 x, .int .i64 (-y)] 3))) := BWd.out.alloc BWd.out.size _
        have EOe : Hid (EOwn (World.alloc wQ (.cells #[.int .i64 x, .int .i64 (-y)] 3)) w.heap.size w.heap.size (.slice XA xn xc) sl2 (f.cls ++ eqTo xs ys i)) := EOd.out.up BWd.out.size ((Below.refl _ _).alloc (Nat.le_refl _) _)
        have CXe : Hid ((World.alloc wQ (.cells #[.int .i64 x, .int .i64 (-y)] 3)).cell? (ad.add i) = some (.int .i64 x)) := (World.cell?_alloc_lt _ _ _ (by rw [add_block]; exact hbxd.out.1)).trans CXd.out
        have CYe : Hid ((World.alloc wQ (.cells #[.int .i64 x, .int .i64 (-y)] 3)).cell? (ae.add i) = some (.int .i64 y)) := (World.cell?_alloc_lt _ _ _ (by rw [add_block]; exact hbxd.out.2)).trans CYd.out
        have Rg2e : Hid (Row (World.alloc wQ (.cells #[.int .i64 x, .int .i64 (-y)] 3)) wQ.heap.size 3 [.int .i64 x, .int .i64 (-y)]) := Row.new wQ 3 [.int .i64 x, .int .i64 (-y)]
        have hbxe : Hid (ad.block < (World.alloc wQ (.cells #[.int .i64 x, .int .i64 (-y)] 3)).heap.size ∧ ae.block < (World.alloc wQ (.cells #[.int .i64 x, .int .i64 (-y)] 3)).heap.size) := (by have := hbxd.out; rw [World.size_alloc]; show _ ∧ _; omega)
        have hg2 : w.heap.size ≤ wQ.heap.size := BWd.out.size
        clear hHeld ROd RZd BWd EOd CXd CYd hbxd
        revert ROe RZe BWe EOe CXe CYe Rg2e hbxe hg2
        generalize (World.alloc wQ (.cells #[.int .i64 x, .int .i64 (-y)] 3)) = w8
        generalize wQ.heap.size = g2
        intro ROe RZe BWe EOe CXe CYe Rg2e hbxe hg2
        have ROd := ROe
        have RZd := RZe
        have BWd := BWe
        have EOd := EOe
        have CXd := CXe
        have CYd := CYe
        have Rg2d := Rg2e
        have hbxd := hbxe
        clear ROe RZe BWe EOe CXe CYe Rg2e hbxe
        refine hK.out _ _ (fun _ => ?keep) (fun hHeld => ?_)
        case keep => exact ⟨ROd.out, CXd.out, CYd.out⟩
        have hHeld := hHeld rfl
        clear hK K
        try go_simp
        refine restL_one (i := 11) (by kernel_rfl) rfl (fun K hK => ?_)
        go_simp
        have ROe : Hid (Row (World.alloc w8 (.cells #[.int .i64 (-x), .int .i64 y] 3)) gb 30 [.int .i64 f.vars, .slice XA xn xc]) := ROd.out.alloc _
        have RZe : Hid (Row (World.alloc w8 (.cells #[.int .i64 (-x), .int .i64 y] 3)) (w.heap.size + 1) 30 [.int .i64 0, .slice none 0 0]) := RZd.out.alloc _
        have BWe : Hid (Below w.heap.size w (World.alloc w8 (.cells #[.int .i64 (-x), .int .i64 y] 3))) := BWd.out.alloc BWd.out.size _
        have EOe : Hid (EOwn (World.alloc w8 (.cells #[.int .i64 (-x), .int .i64 y] 3)) w.heap.size w.heap.size (.slice XA xn xc) sl2 (f.cls ++ eqTo xs ys i)) := EOd.out.up BWd.out.size ((Below.refl _ _).alloc (Nat.le_refl _) _)
        have CXe : Hid ((World.alloc w8 (.cells #[.int .i64 (-x), .int .i64 y] 3)).cell? (ad.add i) = some (.int .i64 x)) := (World.cell?_alloc_lt _ _ _ (by rw [add_block]; exact hbxd.out.1)).trans CXd.out
        have CYe : Hid ((World.alloc w8 (.cells #[.int .i64 (-x), .int .i64 y] 3)).cell? (ae.add i) = some (.int .i64 y)) := (World.cell?_alloc_lt _ _ _ (by rw [add_block]; exact hbxd.out.2)).trans CYd.out
        have Rg1e : Hid (Row (World.alloc w8 (.cells #[.int .i64 (-x), .int .i64 y] 3)) w8.heap.size 3 [.int .i64 (-x), .int .i64 y]) := Row.new w8 3 [.int .i64 (-x), .int .i64 y]
        have hbxe : Hid (ad.block < (World.alloc w8 (.cells #[.int .i64 (-x), .int .i64 y] 3)).heap.size ∧ ae.block < (World.alloc w8 (.cells #[.int .i64 (-x), .int .i64 y] 3)).heap.size) := (by have := hbxd.out; rw [World.size_alloc]; show _ ∧ _; omega)
        have hg1 : w.heap.size ≤ w8.heap.size := BWd.out.size
        have Rg2e : Hid (Row (World.alloc w8 (.cells #[.int .i64 (-x), .int .i64 y] 3)) g2 3 [.int .i64 x, .int .i64 (-y)]) := Rg2d.out.alloc _
        clear hHeld ROd RZd BWd EOd CXd CYd hbxd Rg2d
        revert ROe RZe BWe EOe CXe CYe Rg1e hbxe hg1 Rg2e
        generalize (World.alloc w8 (.cells #[.int .i64 (-x), .int .i64 y] 3)) = w9
        generalize w8.heap.size = g1
        intro ROe RZe BWe EOe CXe CYe Rg1e hbxe hg1 Rg2e
        have ROd := ROe
        have RZd := RZe
        have BWd := BWe
        have EOd := EOe
        have CXd := CXe
        have CYd := CYe
        have Rg1d := Rg1e
        have hbxd := hbxe
        have Rg2d := Rg2e
        clear ROe RZe BWe EOe CXe CYe Rg1e hbxe Rg2e
        refine hK.out _ _ (fun _ => ?keep) (fun hHeld => ?_)
        case keep => exact ⟨ROd.out, CXd.out, CYd.out⟩
        have hHeld := hHeld rfl
        clear hK K
        try go_simp
        refine restL_one (i := 22) (by kernel_rfl) rfl (fun K hK => ?_)
        go_simp
        have ROe : Hid (Row (World.alloc w9 (.cells #[.slice (some ⟨g1, 0, none⟩) 2 2, .slice (some ⟨g2, 0, none⟩) 2 2] 23)) gb 30 [.int .i64 f.vars, .slice XA xn xc]) := ROd.out.alloc _
        have RZe : Hid (Row (World.alloc w9 (.cells #[.slice (some ⟨g1, 0, none⟩) 2 2, .slice (some ⟨g2, 0, none⟩) 2 2] 23)) (w.heap.size + 1) 30 [.int .i64 0, .slice none 0 0]) := RZd.out.alloc _
        have BWe : Hid (Below w.heap.size w (World.alloc w9 (.cells #[.slice (some ⟨g1, 0, none⟩) 2 2, .slice (some ⟨g2, 0, none⟩) 2 2] 23))) := BWd.out.alloc BWd.out.size _
        have EOe : Hid (EOwn (World.alloc w9 (.cells #[.slice (some ⟨g1, 0, none⟩) 2 2, .slice (some ⟨g2, 0, none⟩) 2 2] 23)) w.heap.size w.heap.size (.slice XA xn xc) sl2 (f.cls ++ eqTo xs ys i)) := EOd.out.up BWd.out.size ((Below.refl _ _).alloc (Nat.le_refl _) _)
        have CXe : Hid ((World.alloc w9 (.cells #[.slice (some ⟨g1, 0, none⟩) 2 2, .slice (some ⟨g2, 0, none⟩) 2 2] 23)).cell? (ad.add i) = some (.int .i64 x)) := (World.cell?_alloc_lt _ _ _ (by rw [add_block]; exact hbxd.out.1)).trans CXd.out
        have CYe : Hid ((World.alloc w9 (.cells #[.slice (some ⟨g1, 0, none⟩) 2 2, .slice (some ⟨g2, 0, none⟩) 2 2] 23)).cell? (ae.add i) = some (.int .i64 y)) := (World.cell?_alloc_lt _ _ _ (by rw [add_block]; exact hbxd.out.2)).trans CYd.out
        have Rg1e : Hid (Row (World.alloc w9 (.cells #[.slice (some ⟨g1, 0, none⟩) 2 2, .slice (some ⟨g2, 0, none⟩) 2 2] 23)) g1 3 [.int .i64 (-x), .int .i64 y]) := Rg1d.out.alloc _
        have Rg2e : Hid (Row (World.alloc w9 (.cells #[.slice (some ⟨g1, 0, none⟩) 2 2, .slice (some ⟨g2, 0, none⟩) 2 2] 23)) g2 3 [.int .i64 x, .int .i64 (-y)]) := Rg2d.out.alloc _
        have Rgoe : Hid (Row (World.alloc w9 (.cells #[.slice (some ⟨g1, 0, none⟩) 2 2, .slice (some ⟨g2, 0, none⟩) 2 2] 23)) w9.heap.size 23 [.slice (some ⟨g1, 0, none⟩) 2 2, .slice (some ⟨g2, 0, none⟩) 2 2]) := Row.new w9 23 [.slice (some ⟨g1, 0, none⟩) 2 2, .slice (some ⟨g2, 0, none⟩) 2 2]
        clear hHeld ROd RZd BWd EOd CXd CYd hbxd Rg1d Rg2d
        revert ROe RZe BWe EOe CXe CYe Rg1e Rg2e Rgoe
        generalize (World.alloc w9 (.cells #[.slice (some ⟨g1, 0, none⟩) 2 2, .slice (some ⟨g2, 0, none⟩) 2 2] 23)) = w10
        generalize w9.heap.size = go
        intro ROe RZe BWe EOe CXe CYe Rg1e Rg2e Rgoe
        have ROd := ROe
        have RZd := RZe
        have BWd := BWe
        have EOd := EOe
        have CXd := CXe
        have CYd := CYe
        have Rg1d := Rg1e
        have Rg2d := Rg2e
        have Rgod := Rgoe
        clear ROe RZe BWe EOe CXe CYe Rg1e Rg2e Rgoe
        have hszw := BWd.out.size
        refine hK.out _ _ (fun _ => ?keep) (fun hHeld => ?_)
        case keep => exact ⟨ROd.out, CXd.out, CYd.out⟩
        have hHeld := hHeld rfl
        clear hK K
        try go_simp
        refine restL_one (i := 23) (by kernel_rfl) rfl (fun K hK => ?_)
        have EOX : Hid (w10.ownsRow w.heap.size 23 1 (.slice XA xn xc) xn (slCells sl2)) := (by have h9 := EOd.out.own; rw [HXN.out] at h9; exact h9)
        refine step_app rfl (.tmp 49) (.tmp 70) 28 rfl w.heap.size 23 (.slice none 0 0) 1 24 Try.underlying28 row_infoE rfl (by decide) (by decide) (.slice XA xn xc) xn (slCells sl2) rfl ?own w10.heap.size (some ⟨go, 0, none⟩) 2 2 (slCells [⟨some ⟨g1, 0, none⟩, 2, 2⟩, ⟨some ⟨g2, 0, none⟩, 2, 2⟩]) rfl ?rd (slCells_one _) ?hb ?hbase ?_
        case own => exact EOX.out
        case rd => exact Rgod.out.rd rfl
        case hb => omega
        case hbase => omega
        intro v' w11 hown' hgrow' hat'
        obtain ⟨YA, yd, rfl, _⟩ := Rd.own hown'
        have EO1 : Hid (EOwn w11 w.heap.size w.heap.size (.slice YA (xn + 2) yd) (sl2 ++ [⟨some ⟨g1, 0, none⟩, 2, 2⟩, ⟨some ⟨g2, 0, none⟩, 2, 2⟩]) (f.cls ++ eqTo xs ys (i + 1))) := (by
          show EOwn _ _ _ _ _ _
          rw [HFX.out, ← List.append_assoc]
          exact EOd.out.app hszw rfl (fun j hj => by
            have hc : j = 0 ∨ j = 1 := by simp at hj; omega
            rcases hc with rfl | rfl
            · exact ⟨.inr ⟨g1, hg1, rfl, rfl, Rg1d.out⟩, by show 2 ≤ maxLen; unfold maxLen; omega⟩
            · exact ⟨.inr ⟨g2, hg2, rfl, rfl, Rg2d.out⟩, by show 2 ≤ maxLen; unfold maxLen; omega⟩) hgrow' (by rw [HXN.out]; exact hown'))
        have RO1 : Hid (Row w11 gb 30 [.int .i64 f.vars, .slice XA xn xc]) := ROd.out.grown hgrow' (fun e => own_ne_row EOd.out.own ROd.out (by decide) e.symm)
        have RZ1 : Hid (Row w11 (w.heap.size + 1) 30 [.int .i64 0, .slice none 0 0]) := RZd.out.grown hgrow' (fun e => own_ne_row EOd.out.own RZd.out (by decide) e.symm)
        have BW1 : Hid (Below w.heap.size w w11) := BWd.out.grown hgrow' hszw (fun q hq => (EOd.out.own.lt q hq).1)
        clear hown' hgrow' hat' ROd RZd BWd EOd CXd CYd Rg1d Rg2d Rgod EOX hHeld
        have e0 := RO1.out.cell 0
        have e1 := RO1.out.cell 1
        have el := RO1.out.lt
        simp only [List.getElem?_cons_zero, List.getElem?_cons_succ] at e0 e1
        have ef0 := RO1.out.frozen 0
        have ef1 := RO1.out.frozen 1
        refine hK.out _ _ (fun h => absurd h (by decide)) (fun _ => ?_)
        clear hK K
        try go_simp
        refine restL_pure (i := 24) (v := ?vr22) rfl (by kernel_rfl) (by kernel_rfl) (by kernel_rfl) (fun _ _ _ h => h) (Or.inl ⟨by rfl, ?yr22⟩) ?rr22
        case yr22 => intro w' hSw; clear hSw; go_simp; try (with_reducible rfl)
        go_simp
        refine restL_one (i := 25) (by kernel_rfl) rfl (fun K hK => ?_)
        go_simp
        refine hK.out _ _ (fun h => absurd h (by decide)) (fun _ => ?_)
        clear hK K
        try go_simp
        refine restL_done (by kernel_rfl) ?_ _
        have RO2 : Hid (Row (World.setCell w11 ⟨gb, 1, none⟩ (.slice YA (xn + 2) yd)) gb 30 [.int .i64 f.vars, .slice YA (xn + 2) yd]) := RO1.out.set 1 _
        have RZ2 : Hid (Row (World.setCell w11 ⟨gb, 1, none⟩ (.slice YA (xn + 2) yd)) (w.heap.size + 1) 30 [.int .i64 0, .slice none 0 0]) := RZ1.out.far (p := ⟨gb, 1, none⟩) (by show w.heap.size + 1 ≠ gb; omega) _
        have BW2 : Hid (Below w.heap.size w (World.setCell w11 ⟨gb, 1, none⟩ (.slice YA (xn + 2) yd))) := BW1.out.setCell (p := ⟨gb, 1, none⟩) (by show _ ≤ gb; omega) _
        have EO2 : Hid (EOwn (World.setCell w11 ⟨gb, 1, none⟩ (.slice YA (xn + 2) yd)) w.heap.size w.heap.size (.slice YA (xn + 2) yd) (sl2 ++ [⟨some ⟨g1, 0, none⟩, 2, 2⟩, ⟨some ⟨g2, 0, none⟩, 2, 2⟩]) (f.cls ++ eqTo xs ys (i + 1))) := EO1.out.far (p := ⟨gb, 1, none⟩) RO1.out (by decide) (by decide) (by show _ ≤ gb; omega) _
        clear RO1 RZ1 BW1 EO1 e0 e1 el ef0 ef1
        revert RO2 RZ2 BW2 EO2
        generalize (World.setCell w11 ⟨gb, 1, none⟩ (.slice YA (xn + 2) yd)) = w12
        intro RO2 RZ2 BW2 EO2
        go_wp2
        go_roundg (n - (i + 1))
        case measure => omega
        case rel => exact ⟨i + 1, _, _, by omega, by omega, by go_num, BW2.out, RZ2.out, RO2.out, EO2.out⟩
    · have hltz : ¬ (i : Int) < (n : Int) := by omega
      obtain rfl : n = i := by omega
      have HKF : Hid ((eqF f xs ys).cls = f.cls ++ eqTo xs ys n) := (by show _ = _; unfold eqF; rw [HLX.out])
      rw [← HKF.out] at EO HXN
      have e0 := RO.out.cell 0
      have e1 := RO.out.cell 1
      have el := RO.out.lt
      simp only [List.getElem?_cons_zero, List.getElem?_cons_succ] at e0 e1
      go_wp2_with fail
      have HCT := rFits_any f.vars XA xn xc wr (by unfold maxLen; omega)
      have RZ0 : Hid (Row wr (w.heap.size + 1) 30 [.int .i64 0, .slice none 0 0]) := RZ.out
      have EO0 : Hid (EOwn wr w.heap.size w.heap.size (.slice XA xn xc) sl2 (eqF f xs ys).cls) := EO.out
      have BW0 : Hid (Below w.heap.size w wr) := BW.out
      clear RZ EO BW RO e0 e1 el
      by_cases hft : f.vars ≤ 65536 ∧ xn ≤ 262144
      · have HCE : Hid (eqR f xs ys = eqF f xs ys ∧ eqErr f xs ys = 0) := eqGood HOK.out (by
          unfold fitsErr; rw [if_pos]; show f.vars ≤ 65536 ∧ (eqF f xs ys).cls.length ≤ 262144; rw [HXN.out]; exact hft)
        rw [if_pos hft, if_pos hft] at HCT
        clear hft
        with_reducible refine HCT.mono ?_
        clear HCT
        rintro e w6 ⟨rfl, hG⟩
        have hb := grown_bel hG
        have RZ9 : Hid (Row w6 (w.heap.size + 1) 30 [.int .i64 0, .slice none 0 0]) := rowCells RZ0.out hb
        have EO9 : Hid (EOwn w6 w.heap.size w.heap.size (.slice XA xn xc) sl2 (eqF f xs ys).cls) := EO0.out.up BW0.out.size hb
        have BW9 : Hid (Below w.heap.size w w6) := below_on2 BW0.out hb
        have HRES : Hid (FmlPost (eqR f xs ys) (eqErr f xs ys) w (.returned (.tuple #[.agg #[.int .i64 f.vars, .slice XA xn xc], .int .i64 0])) (World.setCell (World.setCell w6 ⟨w.heap.size + 1, 0, none⟩ (.int .i64 f.vars)) ⟨w.heap.size + 1, 1, none⟩ (.slice XA xn xc))) := by
          have Z1 := RZ9.out.set 0 (.int .i64 f.vars)
          obtain ⟨q1, q2⟩ := HCE.out
          show FmlPost _ _ _ _ _
          rw [q1, q2]
          have hB := (BW9.out.setCell (p := ⟨w.heap.size + 1, 0, none⟩) (by show _ ≤ w.heap.size + 1; omega) (.int .i64 f.vars)).setCell (p := ⟨w.heap.size + 1, 1, none⟩) (by show _ ≤ w.heap.size + 1; omega) (.slice XA xn xc)
          refine ⟨XA, xn, xc, sl2, rfl, ?_, hB⟩
          exact ((EO9.out.far (p := ⟨w.heap.size + 1, 0, none⟩) RZ9.out (by decide) (by decide) (by show _ ≤ w.heap.size + 1; omega) (.int .i64 f.vars)).far (p := ⟨w.heap.size + 1, 1, none⟩) Z1 (by decide) (by decide) (by show _ ≤ w.heap.size + 1; omega) (.slice XA xn xc)).fat hB.size HXN.out (by unfold maxLen; omega)
        have Z9 := (RZ9.out.set 0 (.int .i64 f.vars)).set 1 (.slice XA xn xc)
        have q0 := Z9.cell 0
        have q1 := Z9.cell 1
        simp only [List.getElem?_cons_zero, List.getElem?_cons_succ, List.set_cons_zero, List.set_cons_succ] at q0 q1
        clear Z9 EO9 BW9 hb hG
        have d0 := RZ9.out.cell 0
        have d1 := RZ9.out.cell 1
        have dl := RZ9.out.lt
        simp only [List.getElem?_cons_zero, List.getElem?_cons_succ] at d0 d1
        have df0 := RZ9.out.frozen 0
        have df1 := RZ9.out.frozen 1
        clear RZ9
        go_wp2
        refine bodyPost_ret (v := .tuple #[.agg #[.int .i64 f.vars, .slice XA xn xc], .int .i64 0]) (by simp [results, Try.results21, go_sem, q0, q1]) rfl ?_
        exact HRES.out
      · have HCE : Hid (eqR f xs ys = noFml ∧ eqErr f xs ys = 6) := eqBig HOK.out (by
          unfold fitsErr; rw [if_neg]; show ¬ (f.vars ≤ 65536 ∧ (eqF f xs ys).cls.length ≤ 262144); rw [HXN.out]; exact hft)
        rw [if_neg hft, if_neg hft] at HCT
        clear hft
        with_reducible refine HCT.mono ?_
        clear HCT
        rintro e w6 ⟨rfl, hG⟩
        have hb := grown_bel hG
        have RZ6 : Hid (Row w6 (w.heap.size + 1) 30 [.int .i64 0, .slice none 0 0]) := rowCells RZ0.out hb
        have BB : Below w.heap.size w w6 := below_on2 BW0.out hb
        clear hb hG RZ0 EO0 BW0
        have d0 := RZ6.out.cell 0
        have d1 := RZ6.out.cell 1
        have dl := RZ6.out.lt
        simp only [List.getElem?_cons_zero, List.getElem?_cons_succ] at d0 d1
        have df0 := RZ6.out.frozen 0
        have df1 := RZ6.out.frozen 1
        go_wp2
        exact bodyPost_ret (v := .tuple #[.agg #[.int .i64 0, .slice none 0 0], .int .i64 6]) (by simp [results, Try.results21, go_sem, d0, d1]) rfl (fmlPost_err HCE.out.1 HCE.out.2 (by go_grown))
set_option maxRecDepth 100000 in
set_option maxHeartbeats 10000000 in
theorem eEq_any (f : Fml) (xs ys : List Int) (FA XP YP : Option Addr) (fn fc n xc m yc : Nat) (sl : List Sl) (w : World)
    (hf : FAt w f FA fn sl) (hv : Rd w w.heap.size 1 XP n (ints xs)) (hbs : Rd w w.heap.size 1 YP m (ints ys)) (hfn : fn ≤ 400000) (hn : n ≤ 100000) (hm : m ≤ 100000) :
    Calls Try.prog 20 #[.agg #[.int .i64 f.vars, .slice FA fn fc], .slice XP n xc, .slice YP m yc] w (FmlPost (eqR f xs ys) (eqErr f xs ys) w) := by
  have HF : Hid (FAt w f FA fn sl) := hf
  have HX : Hid (Rd w w.heap.size 1 XP n (ints xs)) := hv
  have HY : Hid (Rd w w.heap.size 1 YP m (ints ys)) := hbs
  have HLX : Hid (xs.length = n) := by have := hv.1; rw [ints_length, Nat.mul_one] at this; exact this
  have HLY : Hid (ys.length = m) := by have := hbs.1; rw [ints_length, Nat.mul_one] at this; exact this
  have HFL : Hid (f.cls.length = fn) := hf.wl
  have hm3 := hf.n63
  have HNM : Hid (n ≤ maxLen) := (by show _ ≤ _; unfold maxLen; omega)
  unfold maxLen at hm3
  clear hf hv hbs
  by_cases hnm : n = m
  case neg =>
    have hns : ((n : Int) != (m : Int)) = true := by rw [bne_iff_ne]; omega
    have HCE : Hid (eqR f xs ys = noFml ∧ eqErr f xs ys = 2) := eqBad (by unfold eqOk; rw [decide_eq_false (by rw [HLX.out, HLY.out]; exact hnm)]; simp)
    clear hnm
    go_enter Try.func20, Try.ntmps20
    go_wp2_with fail
    have RF : Hid (Row (World.alloc (World.alloc w (.cells #[.int .i64 f.vars, .slice FA fn fc] 30)) (.cells #[.int .i64 0, .slice none 0 0] 30)) (w.heap.size) 30 [.int .i64 f.vars, .slice FA fn fc]) := by
      have h0 := Row.new w 30 [.int .i64 f.vars, .slice FA fn fc]
      try simp only [World.size_alloc] at h0
      exact (h0.alloc _)
    have RZ : Hid (Row (World.alloc (World.alloc w (.cells #[.int .i64 f.vars, .slice FA fn fc] 30)) (.cells #[.int .i64 0, .slice none 0 0] 30)) (w.heap.size + 1) 30 [.int .i64 0, .slice none 0 0]) := by
      have h0 := Row.new (World.alloc w (.cells #[.int .i64 f.vars, .slice FA fn fc] 30)) 30 [.int .i64 0, .slice none 0 0]
      try simp only [World.size_alloc] at h0
      exact h0
    have hgr9 : Below w.heap.size w (World.alloc (World.alloc w (.cells #[.int .i64 f.vars, .slice FA fn fc] 30)) (.cells #[.int .i64 0, .slice none 0 0] 30)) := by go_grown
    have B_w : Hid (Below w.heap.size w (World.alloc (World.alloc w (.cells #[.int .i64 f.vars, .slice FA fn fc] 30)) (.cells #[.int .i64 0, .slice none 0 0] 30))) := hgr9
    clear hgr9
    revert RF RZ B_w
    generalize (World.alloc (World.alloc w (.cells #[.int .i64 f.vars, .slice FA fn fc] 30)) (.cells #[.int .i64 0, .slice none 0 0] 30)) = wa
    intro RF RZ B_w
    with_reducible refine (fRight_any f FA fn fc sl wa (HF.out.up B_w.out)).mono ?_
    rintro e w1 ⟨rfl, hb⟩
    have B_w : Hid (Below w.heap.size w w1) := below_on2 B_w.out hb
    have B_wa : Hid (Below wa.heap.size wa w1) := hb
    clear hb
    cases hr1 : rightF f
    · have RZb : Hid (Row w1 (w.heap.size + 1) 30 [.int .i64 0, .slice none 0 0]) := (rowCells RZ.out B_wa.out)
      have d0 := RZb.out.cell 0
      have d1 := RZb.out.cell 1
      have dl := RZb.out.lt
      simp only [List.getElem?_cons_zero, List.getElem?_cons_succ] at d0 d1
      have df0 := RZb.out.frozen 0
      have df1 := RZb.out.frozen 1
      have BB := B_w.out
      go_wp2
      exact bodyPost_ret (v := .tuple #[.agg #[.int .i64 0, .slice none 0 0], .int .i64 2]) (by simp [results, Try.results20, go_sem, d0, d1]) rfl (fmlPost_err HCE.out.1 HCE.out.2 (by go_grown))
    · have RZb : Hid (Row w1 (w.heap.size + 1) 30 [.int .i64 0, .slice none 0 0]) := (rowCells RZ.out B_wa.out)
      have d0 := RZb.out.cell 0
      have d1 := RZb.out.cell 1
      have dl := RZb.out.lt
      simp only [List.getElem?_cons_zero, List.getElem?_cons_succ] at d0 d1
      have df0 := RZb.out.frozen 0
      have df1 := RZb.out.frozen 1
      have BB := B_w.out
      go_wp2
      exact bodyPost_ret (v := .tuple #[.agg #[.int .i64 0, .slice none 0 0], .int .i64 2]) (by simp [results, Try.results20, go_sem, d0, d1]) rfl (fmlPost_err HCE.out.1 HCE.out.2 (by go_grown))
  subst hnm
  have hns : ((n : Int) != (n : Int)) = false := by simp
  go_enter Try.func20, Try.ntmps20
  go_wp2_with fail
  have RF : Hid (Row (World.alloc (World.alloc w (.cells #[.int .i64 f.vars, .slice FA fn fc] 30)) (.cells #[.int .i64 0, .slice none 0 0] 30)) (w.heap.size) 30 [.int .i64 f.vars, .slice FA fn fc]) := by
    have h0 := Row.new w 30 [.int .i64 f.vars, .slice FA fn fc]
    try simp only [World.size_alloc] at h0
    exact (h0.alloc _)
  have RZ : Hid (Row (World.alloc (World.alloc w (.cells #[.int .i64 f.vars, .slice FA fn fc] 30)) (.cells #[.int .i64 0, .slice none 0 0] 30)) (w.heap.size + 1) 30 [.int .i64 0, .slice none 0 0]) := by
    have h0 := Row.new (World.alloc w (.cells #[.int .i64 f.vars, .slice FA fn fc] 30)) 30 [.int .i64 0, .slice none 0 0]
    try simp only [World.size_alloc] at h0
    exact h0
  have hgr9 : Below w.heap.size w (World.alloc (World.alloc w (.cells #[.int .i64 f.vars, .slice FA fn fc] 30)) (.cells #[.int .i64 0, .slice none 0 0] 30)) := by go_grown
  have B_w : Hid (Below w.heap.size w (World.alloc (World.alloc w (.cells #[.int .i64 f.vars, .slice FA fn fc] 30)) (.cells #[.int .i64 0, .slice none 0 0] 30))) := hgr9
  clear hgr9
  revert RF RZ B_w
  generalize (World.alloc (World.alloc w (.cells #[.int .i64 f.vars, .slice FA fn fc] 30)) (.cells #[.int .i64 0, .slice none 0 0] 30)) = wa
  intro RF RZ B_w
  with_reducible refine (fRight_any f FA fn fc sl wa (HF.out.up B_w.out)).mono ?_
  rintro e w1 ⟨rfl, hb⟩
  have B_w : Hid (Below w.heap.size w w1) := below_on2 B_w.out hb
  have B_wa : Hid (Below wa.heap.size wa w1) := hb
  clear hb
  cases hr1 : rightF f
  · have HCE : Hid (eqR f xs ys = noFml ∧ eqErr f xs ys = 2) := eqBad (by unfold eqOk; rw [hr1]; rfl)
    clear hr1
    have RZb : Hid (Row w1 (w.heap.size + 1) 30 [.int .i64 0, .slice none 0 0]) := (rowCells RZ.out B_wa.out)
    have d0 := RZb.out.cell 0
    have d1 := RZb.out.cell 1
    have dl := RZb.out.lt
    simp only [List.getElem?_cons_zero, List.getElem?_cons_succ] at d0 d1
    have df0 := RZb.out.frozen 0
    have df1 := RZb.out.frozen 1
    have BB := B_w.out
    go_wp2
    exact bodyPost_ret (v := .tuple #[.agg #[.int .i64 0, .slice none 0 0], .int .i64 2]) (by simp [results, Try.results20, go_sem, d0, d1]) rfl (fmlPost_err HCE.out.1 HCE.out.2 (by go_grown))
  have kR : Hid (Row w1 (w.heap.size) 30 [.int .i64 f.vars, .slice FA fn fc]) := (rowCells RF.out B_wa.out)
  have k0 := kR.out.cell 0
  have k1 := kR.out.cell 1
  have kl := kR.out.lt
  simp only [List.getElem?_cons_zero, List.getElem?_cons_succ] at k0 k1
  clear kR
  have HR1 : Hid (rightF f = true) := hr1
  clear hr1
  go_wp2_with fail
  with_reducible refine (eVars_any f.vars (.slice FA fn fc) XP n xc xs w1 (HX.out.up B_w.out) HNM.out).mono ?_
  rintro e w2 ⟨rfl, hb⟩
  have B_w : Hid (Below w.heap.size w w2) := below_on2 B_w.out hb
  have B_wa : Hid (Below wa.heap.size wa w2) := below_on2 B_wa.out hb
  have B_w1 : Hid (Below w1.heap.size w1 w2) := hb
  clear k0 k1 kl
  clear hb
  cases hr3 : varsOk f.vars xs
  · have HCE : Hid (eqR f xs ys = noFml ∧ eqErr f xs ys = 2) := eqBad (by unfold eqOk; rw [hr3]; simp)
    clear hr3
    have RZb : Hid (Row w2 (w.heap.size + 1) 30 [.int .i64 0, .slice none 0 0]) := (rowCells RZ.out B_wa.out)
    have d0 := RZb.out.cell 0
    have d1 := RZb.out.cell 1
    have dl := RZb.out.lt
    simp only [List.getElem?_cons_zero, List.getElem?_cons_succ] at d0 d1
    have df0 := RZb.out.frozen 0
    have df1 := RZb.out.frozen 1
    have BB := B_w.out
    go_wp2
    exact bodyPost_ret (v := .tuple #[.agg #[.int .i64 0, .slice none 0 0], .int .i64 2]) (by simp [results, Try.results20, go_sem, d0, d1]) rfl (fmlPost_err HCE.out.1 HCE.out.2 (by go_grown))
  have HR3 : Hid (varsOk f.vars xs = true) := hr3
  clear hr3
  have kR : Hid (Row w2 (w.heap.size) 30 [.int .i64 f.vars, .slice FA fn fc]) := (rowCells RF.out B_wa.out)
  have k0 := kR.out.cell 0
  have k1 := kR.out.cell 1
  have kl := kR.out.lt
  simp only [List.getElem?_cons_zero, List.getElem?_cons_succ] at k0 k1
  clear kR
  go_wp2_with fail
  with_reducible refine (eVars_any f.vars (.slice FA fn fc) YP n yc ys w2 (HY.out.up B_w.out) HNM.out).mono ?_
  rintro e w3 ⟨rfl, hb⟩
  have B_w : Hid (Below w.heap.size w w3) := below_on2 B_w.out hb
  have B_wa : Hid (Below wa.heap.size wa w3) := below_on2 B_wa.out hb
  have B_w1 : Hid (Below w1.heap.size w1 w3) := below_on2 B_w1.out hb
  have B_w2 : Hid (Below w2.heap.size w2 w3) := hb
  clear k0 k1 kl
  clear hb
  cases hr3 : varsOk f.vars ys
  · have HCE : Hid (eqR f xs ys = noFml ∧ eqErr f xs ys = 2) := eqBad (by unfold eqOk; rw [hr3]; simp)
    clear hr3
    have RZb : Hid (Row w3 (w.heap.size + 1) 30 [.int .i64 0, .slice none 0 0]) := (rowCells RZ.out B_wa.out)
    have d0 := RZb.out.cell 0
    have d1 := RZb.out.cell 1
    have dl := RZb.out.lt
    simp only [List.getElem?_cons_zero, List.getElem?_cons_succ] at d0 d1
    have df0 := RZb.out.frozen 0
    have df1 := RZb.out.frozen 1
    have BB := B_w.out
    go_wp2
    exact bodyPost_ret (v := .tuple #[.agg #[.int .i64 0, .slice none 0 0], .int .i64 2]) (by simp [results, Try.results20, go_sem, d0, d1]) rfl (fmlPost_err HCE.out.1 HCE.out.2 (by go_grown))
  have HOK : Hid (eqOk f xs ys = true) := (by show _ = _; unfold eqOk; rw [HR1.out, HR3.out, hr3, decide_eq_true (HLX.out.trans HLY.out.symm)]; rfl)
  have HR4 : Hid (varsOk f.vars ys = true) := hr3
  have hfv : 0 ≤ f.vars ∧ f.vars ≤ 65536 := by
    have := HR1.out
    unfold rightF sizesF at this
    simp only [Bool.and_eq_true, decide_eq_true_eq] at this
    exact ⟨this.1.1, this.1.2.1⟩
  obtain ⟨hfv1, hfv2⟩ := hfv
  clear hr3 hns
  have kR : Hid (Row w3 (w.heap.size) 30 [.int .i64 f.vars, .slice FA fn fc]) := (rowCells RF.out B_wa.out)
  have k0 := kR.out.cell 0
  have k1 := kR.out.cell 1
  have kl := kR.out.lt
  simp only [List.getElem?_cons_zero, List.getElem?_cons_succ] at k0 k1
  clear kR
  go_wp2_with fail
  refine wp_region_held_drew (S := fun w' => w'.cell? ⟨w.heap.size, 0, none⟩ = some (.int .i64 f.vars) ∧ w'.cell? ⟨w.heap.size, 1, none⟩ = some (.slice FA fn fc)) (by kernel_rfl) (by (try dsimp only); first | exact hSK | exact ⟨k0, k1⟩) (fun hHeld => ?_)
  have RFd : Hid (Row (World.drew w3) w.heap.size 30 [.int .i64 f.vars, .slice FA fn fc]) := Row.drew (rowCells RF.out B_wa.out)
  have RZd : Hid (Row (World.drew w3) (w.heap.size + 1) 30 [.int .i64 0, .slice none 0 0]) := Row.drew (rowCells RZ.out B_wa.out)
  have BWd : Hid (Below w.heap.size w (World.drew w3)) := B_w.out.drew
  clear k0 k1 kl
  clear RF RZ B_w B_wa B_w1 B_w2
  revert hHeld RFd RZd BWd
  generalize World.drew w3 = wQ
  intro hHeld RFd RZd BWd
  have y0 := RFd.out.cell 0
  have y1 := RFd.out.cell 1
  simp only [List.getElem?_cons_zero, List.getElem?_cons_succ] at y0 y1
  refine wpAnyH_take (i := 0) (v := ?vq1) rfl (by kernel_rfl) (by kernel_rfl) (by kernel_rfl) (fun _ _ _ h => h) (Or.inl ⟨by rfl, ?yq1⟩) (by assumption) ?rq1
  case yq1 => intro w' hSw; (try dsimp only at hSw); go_simp; try (with_reducible rfl)
  go_simp
  refine wpAnyH_take (i := 1) (v := ?vq2) rfl (by kernel_rfl) (by kernel_rfl) (by kernel_rfl) (fun _ _ _ h => h) (Or.inl ⟨by rfl, ?yq2⟩) (by assumption) ?rq2
  case yq2 => intro w' hSw; (try dsimp only at hSw); go_simp; try (with_reducible rfl)
  go_simp
  refine wpAnyH_take (i := 2) (v := ?vq3) rfl (by kernel_rfl) (by kernel_rfl) (by kernel_rfl) (fun _ _ _ h => h) (Or.inl ⟨by rfl, ?yq3⟩) (by assumption) ?rq3
  case yq3 => intro w' hSw; (try dsimp only at hSw); go_simp; try (with_reducible rfl)
  go_simp
  refine wpAnyH_take (i := 3) (v := ?vq4) rfl (by kernel_rfl) (by kernel_rfl) (by kernel_rfl) (fun _ _ _ h => h) (Or.inl ⟨by rfl, ?yq4⟩) (by assumption) ?rq4
  case yq4 => intro w' hSw; (try dsimp only at hSw); go_simp; try (with_reducible rfl)
  go_simp
  refine wpAnyH_ready (rs := [4, 6]) (by kernel_rfl) (by simp) ?_
  refine AllReadyH.cons rfl (fun K hK => ?_) (AllReadyH.cons rfl (fun K hK => ?_) AllReadyH.nil)
  · clear y0 y1
    go_simp
    go_at_call 31
    refine (clone_rows FA fn fc sl wQ (by exact (HF.out.up BWd.out).rows) (by omega)).mono ?_
    rintro e4 w5 ⟨CA, cx, rfl, hown, hb⟩
    have HOd : Hid (w5.ownsRow w.heap.size 23 1 (.slice CA fn cx) fn (slCells sl)) := own_base hown BWd.out.size
    have RFe : Hid (Row w5 w.heap.size 30 [.int .i64 f.vars, .slice FA fn fc]) := rowCells RFd.out hb
    have RZe : Hid (Row w5 (w.heap.size + 1) 30 [.int .i64 0, .slice none 0 0]) := rowCells RZd.out hb
    have BWe : Hid (Below w.heap.size w w5) := below_on2 BWd.out hb
    clear hown hb RFd RZd BWd hHeld
    have RFd := RFe
    have RZd := RZe
    have BWd := BWe
    clear RFe RZe BWe
    have y0 := RFd.out.cell 0
    have y1 := RFd.out.cell 1
    simp only [List.getElem?_cons_zero, List.getElem?_cons_succ] at y0 y1
    have hSK := And.intro y0 y1
    refine hK.out _ _ ?_ (fun hHeld => ?_)
    · (try dsimp only); first | exact hSK | exact ⟨k0, k1⟩
    clear hK K
    try go_simp
    refine wpAnyH_take (i := 5) (v := ?vq5) rfl (by kernel_rfl) (by kernel_rfl) (by kernel_rfl) (fun _ _ _ h => h) (Or.inl ⟨by rfl, ?yq5⟩) (by assumption) ?rq5
    case yq5 => intro w' hSw; (try dsimp only at hSw); go_simp; try (with_reducible rfl)
    go_simp
    refine wpAnyH_ready (rs := [6]) (by kernel_rfl) (by simp) ?_
    refine AllReadyH.cons rfl (fun K hK => ?_) AllReadyH.nil
    go_simp
    have RFe : Hid (Row (World.alloc w5 (.cells #[.int .i64 0, .slice none 0 0] 30)) w.heap.size 30 [.int .i64 f.vars, .slice FA fn fc]) := RFd.out.alloc _
    have RZe : Hid (Row (World.alloc w5 (.cells #[.int .i64 0, .slice none 0 0] 30)) (w.heap.size + 1) 30 [.int .i64 0, .slice none 0 0]) := RZd.out.alloc _
    have BWe : Hid (Below w.heap.size w (World.alloc w5 (.cells #[.int .i64 0, .slice none 0 0] 30))) := BWd.out.alloc BWd.out.size _
    have RBe : Hid (Row (World.alloc w5 (.cells #[.int .i64 0, .slice none 0 0] 30)) w5.heap.size 30 [.int .i64 0, .slice none 0 0]) := Row.new w5 30 [.int .i64 0, .slice none 0 0]
    have HOe : Hid (World.ownsRow (World.alloc w5 (.cells #[.int .i64 0, .slice none 0 0] 30)) w.heap.size 23 1 (.slice CA fn cx) fn (slCells sl)) := HOd.out.alloc _
    have hgb : w.heap.size + 1 < w5.heap.size := RZd.out.lt
    clear y0 y1 RFd RZd BWd hHeld HOd
    revert RFe RZe BWe RBe HOe hgb
    generalize (World.alloc w5 (.cells #[.int .i64 0, .slice none 0 0] 30)) = wE
    generalize w5.heap.size = gb
    intro RFe RZe BWe RBe HOe hgb
    have RFd := RFe
    have RZd := RZe
    have BWd := BWe
    have RBd := RBe
    have HOd := HOe
    clear RFe RZe BWe RBe HOe
    have y0 := RFd.out.cell 0
    have y1 := RFd.out.cell 1
    simp only [List.getElem?_cons_zero, List.getElem?_cons_succ] at y0 y1
    have hSK := And.intro y0 y1
    refine hK.out _ _ ?_ (fun hHeld => ?_)
    · (try dsimp only); first | exact hSK | exact ⟨k0, k1⟩
    clear hK K
    try go_simp
    refine wpAnyH_ready (rs := [7]) (by kernel_rfl) (by simp) ?_
    refine AllReadyH.cons rfl (fun K hK => ?_) AllReadyH.nil
    have b0 := RBd.out.cell 0
    have b1 := RBd.out.cell 1
    have bl := RBd.out.lt
    simp only [List.getElem?_cons_zero, List.getElem?_cons_succ] at b0 b1
    have bf0 := RBd.out.frozen 0
    have bf1 := RBd.out.frozen 1
    go_simp
    have Z1 := RBd.out.set 0 (.int .i64 f.vars)
    have RO6 : Hid (Row (World.setCell (World.setCell wE ⟨gb, 0, none⟩ (.int .i64 f.vars)) ⟨gb, 1, none⟩ (.slice CA fn cx)) gb 30 [.int .i64 f.vars, .slice CA fn cx]) := Z1.set 1 _
    have RZ6 : Hid (Row (World.setCell (World.setCell wE ⟨gb, 0, none⟩ (.int .i64 f.vars)) ⟨gb, 1, none⟩ (.slice CA fn cx)) (w.heap.size + 1) 30 [.int .i64 0, .slice none 0 0]) := (RZd.out.far (p := ⟨gb, 0, none⟩) (by show w.heap.size + 1 ≠ gb; omega) _).far (p := ⟨gb, 1, none⟩) (by show w.heap.size + 1 ≠ gb; omega) _
    have RF6 : Hid (Row (World.setCell (World.setCell wE ⟨gb, 0, none⟩ (.int .i64 f.vars)) ⟨gb, 1, none⟩ (.slice CA fn cx)) w.heap.size 30 [.int .i64 f.vars, .slice FA fn fc]) := (RFd.out.far (p := ⟨gb, 0, none⟩) (by show w.heap.size ≠ gb; omega) _).far (p := ⟨gb, 1, none⟩) (by show w.heap.size ≠ gb; omega) _
    have BW6 : Hid (Below w.heap.size w (World.setCell (World.setCell wE ⟨gb, 0, none⟩ (.int .i64 f.vars)) ⟨gb, 1, none⟩ (.slice CA fn cx))) := (BWd.out.setCell (p := ⟨gb, 0, none⟩) (by show _ ≤ gb; omega) _).setCell (p := ⟨gb, 1, none⟩) (by show _ ≤ gb; omega) _
    have EO6 : Hid (EOwn (World.setCell (World.setCell wE ⟨gb, 0, none⟩ (.int .i64 f.vars)) ⟨gb, 1, none⟩ (.slice CA fn cx)) w.heap.size w.heap.size (.slice CA fn cx) sl f.cls) := (by
      have E0 := EOwn.ofFAt HF.out BWd.out HOd.out
      exact (E0.far (p := ⟨gb, 0, none⟩) RBd.out (by decide) (by decide) (by show _ ≤ gb; omega) _).far (p := ⟨gb, 1, none⟩) Z1 (by decide) (by decide) (by show _ ≤ gb; omega) _)
    clear Z1 RBd RZd RFd BWd HOd b0 b1 bl bf0 bf1 y0 y1 hHeld
    revert RO6 RZ6 RF6 BW6 EO6
    generalize (World.setCell (World.setCell wE ⟨gb, 0, none⟩ (.int .i64 f.vars)) ⟨gb, 1, none⟩ (.slice CA fn cx)) = w6
    intro RO6 RZ6 RF6 BW6 EO6
    have y0 := RF6.out.cell 0
    have y1 := RF6.out.cell 1
    simp only [List.getElem?_cons_zero, List.getElem?_cons_succ] at y0 y1
    have hSK := And.intro y0 y1
    refine hK.out _ _ ?_ (fun hHeld => ?_)
    · (try dsimp only); first | exact hSK | exact ⟨k0, k1⟩
    clear hK K
    try go_simp
    refine wpAnyH_done (by kernel_rfl) ?_ _
    clear hSK RF6 y0 y1 hHeld
    have EO6 : Hid (EOwn w6 w.heap.size w.heap.size (.slice CA fn cx) sl (f.cls ++ eqTo xs ys 0)) := (by
      show EOwn _ _ _ _ _ _
      rw [show eqTo xs ys 0 = [] from rfl, List.append_nil]
      exact EO6.out)
    go_wp2
    go_loopg [9, 41] n (fun gg _ s41 wr => ∃ (i : Nat) (v : Value) (sl2 : List Sl), i ≤ n ∧ n - i ≤ gg ∧ s41 = .int .i64 i ∧ Aside (Below w.heap.size w wr) ∧ Aside (Row wr (w.heap.size + 1) 30 [.int .i64 0, .slice none 0 0]) ∧ Aside (Row wr gb 30 [.int .i64 f.vars, v]) ∧ Aside (EOwn wr w.heap.size w.heap.size v sl2 (f.cls ++ eqTo xs ys i)))
    case atStart => exact ⟨0, _, _, Nat.zero_le _, by omega, rfl, BW6.out, RZ6.out, RO6.out, EO6.out⟩
    case round =>
      clear BW6 RZ6 RO6 EO6
      obtain ⟨i, v, sl2, hi, hgg, rfl, BW, RZ, RO, EO⟩ := hrel
      obtain ⟨XA, xc, rfl⟩ := EO.out.form
      obtain ⟨xn, hxn⟩ : ∃ xn, xn = (f.cls ++ eqTo xs ys i).length := ⟨_, rfl⟩
      have HXN : Hid ((f.cls ++ eqTo xs ys i).length = xn) := hxn.symm
      have hxb : xn ≤ 600000 := by
        rw [hxn, List.length_append, HFL.out, eqTo_length]; omega
      rw [← hxn] at RO EO
      have EO : Hid (EOwn wr w.heap.size w.heap.size (.slice XA xn xc) sl2 (f.cls ++ eqTo xs ys i)) := EO.out
      have RO : Hid (Row wr gb 30 [.int .i64 f.vars, .slice XA xn xc]) := RO.out
      clear hxn
      by_cases hlt : i < n
      · have hltz : (i : Int) < (n : Int) := by omega
        obtain ⟨ad, rfl, hbx, hcx⟩ := (HX.out.up BW.out).int hlt
        obtain ⟨ae, rfl, hby, hcy⟩ := (HY.out.up BW.out).int hlt
        obtain ⟨x1, x2⟩ := varOk_at HR3.out (k := i) (by rw [HLX.out]; exact hlt)
        obtain ⟨y1, y2⟩ := varOk_at HR4.out (k := i) (by rw [HLY.out]; exact hlt)
        have HFX : Hid (eqTo xs ys (i + 1) = eqTo xs ys i ++ [[-(xs.getD i 0), ys.getD i 0], [xs.getD i 0, -(ys.getD i 0)]]) := eqTo_succ xs ys i
        generalize xs.getD i 0 = x at hcx x1 x2 HFX
        generalize ys.getD i 0 = y at hcy y1 y2 HFX
        have wx : IntKind.i64.wrap (-x) = -x := IntWalk.i64_in _ (by omega)
        have wy : IntKind.i64.wrap (-y) = -y := IntWalk.i64_in _ (by omega)
        have e0 := RO.out.cell 0
        have e1 := RO.out.cell 1
        have el := RO.out.lt
        simp only [List.getElem?_cons_zero, List.getElem?_cons_succ] at e0 e1
        have ef0 := RO.out.frozen 0
        have ef1 := RO.out.frozen 1
        go_wp2_with fail
        refine wp_region_L (fun w' => Row w' gb 30 [.int .i64 f.vars, .slice XA xn xc] ∧ w'.cell? (ad.add i) = some (.int .i64 x) ∧ w'.cell? (ae.add i) = some (.int .i64 y)) [22, 23] (by kernel_rfl) (by exact ⟨RO.out.drew, hcx, hcy⟩) (fun hHeld => ?_)
        have ROd : Hid (Row wr.drew gb 30 [.int .i64 f.vars, .slice XA xn xc]) := RO.out.drew
        have RZd : Hid (Row wr.drew (w.heap.size + 1) 30 [.int .i64 0, .slice none 0 0]) := RZ.out.drew
        have BWd : Hid (Below w.heap.size w wr.drew) := BW.out.drew
        have EOd : Hid (EOwn wr.drew w.heap.size w.heap.size (.slice XA xn xc) sl2 (f.cls ++ eqTo xs ys i)) := ⟨EO.out.len, EO.out.own, EO.out.row⟩
        have CXd : Hid (wr.drew.cell? (ad.add i) = some (.int .i64 x)) := hcx
        have CYd : Hid (wr.drew.cell? (ae.add i) = some (.int .i64 y)) := hcy
        have hbxd : Hid (ad.block < wr.drew.heap.size ∧ ae.block < wr.drew.heap.size) := ⟨hbx, hby⟩
        clear RO RZ BW EO hcx hcy hbx hby e0 e1 el ef0 ef1
        revert hHeld ROd RZd BWd EOd CXd CYd hbxd
        generalize wr.drew = wQ
        intro hHeld ROd RZd BWd EOd CXd CYd hbxd
        refine restL_pure (i := 1) (v := ?ve6x1) rfl (by kernel_rfl) (by kernel_rfl) (by kernel_rfl) (fun _ _ _ h => h) (Or.inl ⟨by rfl, ?ye6x1⟩) ?re6x1
        case ye6x1 => intro w' hSw; clear hSw; go_simp; try (with_reducible rfl)
        go_simp
        refine restL_pure (i := 2) (v := ?ve6x2) rfl (by kernel_rfl) (by kernel_rfl) (by kernel_rfl) (fun _ _ _ h => h) (Or.inl ⟨by rfl, ?ye6x2⟩) ?re6x2
        case ye6x2 => intro w' hSw; clear hSw; go_simp; try (with_reducible rfl)
        go_simp
        refine restL_pure (i := 6) (v := ?ve6x3) rfl (by kernel_rfl) (by kernel_rfl) (by kernel_rfl) (fun _ _ _ h => h) (Or.inl ⟨by rfl, ?ye6x3⟩) ?re6x3
        case ye6x3 => intro w' hSw; clear hSw; go_simp; try (with_reducible rfl)
        go_simp
        refine restL_pure (i := 7) (v := ?ve6x4) rfl (by kernel_rfl) (by kernel_rfl) (by kernel_rfl) (fun _ _ _ h => h) (Or.inl ⟨by rfl, ?ye6x4⟩) ?re6x4
        case ye6x4 => intro w' hSw; clear hSw; go_simp; try (with_reducible rfl)
        go_simp
        refine restL_pure (i := 11) (v := ?ve6x5) rfl (by kernel_rfl) (by kernel_rfl) (by kernel_rfl) (fun _ _ _ h => h) (Or.inl ⟨by rfl, ?ye6x5⟩) ?re6x5
        case ye6x5 => intro w' hSw; clear hSw; go_simp; try (with_reducible rfl)
        go_simp
        refine restL_pure (i := 12) (v := ?ve6x6) rfl (by kernel_rfl) (by kernel_rfl) (by kernel_rfl) (fun _ _ _ h => h) (Or.inl ⟨by rfl, ?ye6x6⟩) ?re6x6
        case ye6x6 => intro w' hSw; clear hSw; go_simp; try (with_reducible rfl)
        go_simp
        refine restL_pure (i := 15) (v := ?ve6x7) rfl (by kernel_rfl) (by kernel_rfl) (by kernel_rfl) (fun _ _ _ h => h) (Or.inl ⟨by rfl, ?ye6x7⟩) ?re6x7
        case ye6x7 => intro w' hSw; clear hSw; go_simp; try (with_reducible rfl)
        go_simp
        refine restL_pure (i := 16) (v := ?ve6x8) rfl (by kernel_rfl) (by kernel_rfl) (by kernel_rfl) (fun _ _ _ h => h) (Or.inl ⟨by rfl, ?ye6x8⟩) ?re6x8
        case ye6x8 => intro w' hSw; clear hSw; go_simp; try (with_reducible rfl)
        go_simp
        refine restL_take (i := 0) (v := ?ve6x9) [[22], [23]] rfl (by kernel_rfl) (by kernel_rfl) (by kernel_rfl) (by kernel_rfl) (fun _ _ _ h => h) (Or.inl ⟨by rfl, ?ye6x9⟩) hHeld ?re6x9
        case ye6x9 =>
          intro w' hSw
          obtain ⟨hS1, hS2, hS3⟩ := hSw
          have hSh : Hid (Row w' gb 30 [.int .i64 f.vars, .slice XA xn xc]) := hS1
          clear hS1
          have z0 := hSh.out.cell 0
          have z1 := hSh.out.cell 1
          have zl := hSh.out.lt
          simp only [List.getElem?_cons_zero, List.getElem?_cons_succ] at z0 z1
          go_simp
          try (with_reducible rfl)
        go_simp
        refine restL_take (i := 3) (v := ?ve6x10) [[22, 21, 10, 5, 4], [23]] rfl (by kernel_rfl) (by kernel_rfl) (by kernel_rfl) (by kernel_rfl) (fun _ _ _ h => h) (Or.inl ⟨by rfl, ?ye6x10⟩) hHeld ?re6x10
        case ye6x10 =>
          intro w' hSw
          obtain ⟨hS1, hS2, hS3⟩ := hSw
          have hSh : Hid (Row w' gb 30 [.int .i64 f.vars, .slice XA xn xc]) := hS1
          clear hS1
          have z0 := hSh.out.cell 0
          have z1 := hSh.out.cell 1
          have zl := hSh.out.lt
          simp only [List.getElem?_cons_zero, List.getElem?_cons_succ] at z0 z1
          go_simp
          try (with_reducible rfl)
        go_simp
        refine restL_take (i := 4) (v := ?ve6x11) [[22, 21, 10, 5], [23]] rfl (by kernel_rfl) (by kernel_rfl) (by kernel_rfl) (by kernel_rfl) (fun _ _ _ h => h) (Or.inl ⟨by rfl, ?ye6x11⟩) hHeld ?re6x11
        case ye6x11 =>
          intro w' hSw
          obtain ⟨hS1, hS2, hS3⟩ := hSw
          have hSh : Hid (Row w' gb 30 [.int .i64 f.vars, .slice XA xn xc]) := hS1
          clear hS1
          have z0 := hSh.out.cell 0
          have z1 := hSh.out.cell 1
          have zl := hSh.out.lt
          simp only [List.getElem?_cons_zero, List.getElem?_cons_succ] at z0 z1
          go_simp
          try (with_reducible rfl)
        go_simp
        refine restL_pure (i := 5) (v := ?ve6x12) rfl (by kernel_rfl) (by kernel_rfl) (by kernel_rfl) (fun _ _ _ h => h) (Or.inl ⟨by rfl, ?ye6x12⟩) ?re6x12
        case ye6x12 => intro w' hSw; clear hSw; go_simp; try (with_reducible rfl)
        go_simp
        refine restL_take (i := 8) (v := ?ve6x13) [[22, 21, 10, 9], [23]] rfl (by kernel_rfl) (by kernel_rfl) (by kernel_rfl) (by kernel_rfl) (fun _ _ _ h => h) (Or.inl ⟨by rfl, ?ye6x13⟩) hHeld ?re6x13
        case ye6x13 =>
          intro w' hSw
          obtain ⟨hS1, hS2, hS3⟩ := hSw
          have hSh : Hid (Row w' gb 30 [.int .i64 f.vars, .slice XA xn xc]) := hS1
          clear hS1
          have z0 := hSh.out.cell 0
          have z1 := hSh.out.cell 1
          have zl := hSh.out.lt
          simp only [List.getElem?_cons_zero, List.getElem?_cons_succ] at z0 z1
          go_simp
          try (with_reducible rfl)
        go_simp
        refine restL_take (i := 9) (v := ?ve6x14) [[22, 21, 10], [23]] rfl (by kernel_rfl) (by kernel_rfl) (by kernel_rfl) (by kernel_rfl) (fun _ _ _ h => h) (Or.inl ⟨by rfl, ?ye6x14⟩) hHeld ?re6x14
        case ye6x14 =>
          intro w' hSw
          obtain ⟨hS1, hS2, hS3⟩ := hSw
          have hSh : Hid (Row w' gb 30 [.int .i64 f.vars, .slice XA xn xc]) := hS1
          clear hS1
          have z0 := hSh.out.cell 0
          have z1 := hSh.out.cell 1
          have zl := hSh.out.lt
          simp only [List.getElem?_cons_zero, List.getElem?_cons_succ] at z0 z1
          go_simp
          try (with_reducible rfl)
        go_simp
        refine restL_take (i := 13) (v := ?ve6x15) [[22, 21, 20, 14], [23]] rfl (by kernel_rfl) (by kernel_rfl) (by kernel_rfl) (by kernel_rfl) (fun _ _ _ h => h) (Or.inl ⟨by rfl, ?ye6x15⟩) hHeld ?re6x15
        case ye6x15 =>
          intro w' hSw
          obtain ⟨hS1, hS2, hS3⟩ := hSw
          have hSh : Hid (Row w' gb 30 [.int .i64 f.vars, .slice XA xn xc]) := hS1
          clear hS1
          have z0 := hSh.out.cell 0
          have z1 := hSh.out.cell 1
          have zl := hSh.out.lt
          simp only [List.getElem?_cons_zero, List.getElem?_cons_succ] at z0 z1
          go_simp
          try (with_reducible rfl)
        go_simp
        refine restL_take (i := 14) (v := ?ve6x16) [[22, 21, 20], [23]] rfl (by kernel_rfl) (by kernel_rfl) (by kernel_rfl) (by kernel_rfl) (fun _ _ _ h => h) (Or.inl ⟨by rfl, ?ye6x16⟩) hHeld ?re6x16
        case ye6x16 =>
          intro w' hSw
          obtain ⟨hS1, hS2, hS3⟩ := hSw
          have hSh : Hid (Row w' gb 30 [.int .i64 f.vars, .slice XA xn xc]) := hS1
          clear hS1
          have z0 := hSh.out.cell 0
          have z1 := hSh.out.cell 1
          have zl := hSh.out.lt
          simp only [List.getElem?_cons_zero, List.getElem?_cons_succ] at z0 z1
          go_simp
          try (with_reducible rfl)
        go_simp
        refine restL_take (i := 17) (v := ?ve6x17) [[22, 21, 20, 19, 18], [23]] rfl (by kernel_rfl) (by kernel_rfl) (by kernel_rfl) (by kernel_rfl) (fun _ _ _ h => h) (Or.inl ⟨by rfl, ?ye6x17⟩) hHeld ?re6x17
        case ye6x17 =>
          intro w' hSw
          obtain ⟨hS1, hS2, hS3⟩ := hSw
          have hSh : Hid (Row w' gb 30 [.int .i64 f.vars, .slice XA xn xc]) := hS1
          clear hS1
          have z0 := hSh.out.cell 0
          have z1 := hSh.out.cell 1
          have zl := hSh.out.lt
          simp only [List.getElem?_cons_zero, List.getElem?_cons_succ] at z0 z1
          go_simp
          try (with_reducible rfl)
        go_simp
        refine restL_take (i := 18) (v := ?ve6x18) [[22, 21, 20, 19], [23]] rfl (by kernel_rfl) (by kernel_rfl) (by kernel_rfl) (by kernel_rfl) (fun _ _ _ h => h) (Or.inl ⟨by rfl, ?ye6x18⟩) hHeld ?re6x18
        case ye6x18 =>
          intro w' hSw
          obtain ⟨hS1, hS2, hS3⟩ := hSw
          have hSh : Hid (Row w' gb 30 [.int .i64 f.vars, .slice XA xn xc]) := hS1
          clear hS1
          have z0 := hSh.out.cell 0
          have z1 := hSh.out.cell 1
          have zl := hSh.out.lt
          simp only [List.getElem?_cons_zero, List.getElem?_cons_succ] at z0 z1
          go_simp
          try (with_reducible rfl)
        go_simp
        refine restL_pure (i := 19) (v := ?ve6x19) rfl (by kernel_rfl) (by kernel_rfl) (by kernel_rfl) (fun _ _ _ h => h) (Or.inl ⟨by rfl, ?ye6x19⟩) ?re6x19
        case ye6x19 => intro w' hSw; clear hSw; go_simp; try (with_reducible rfl)
        go_simp
        refine restL_two (i := 10) (j := 20) (by kernel_rfl) rfl rfl (fun K hK => ?_) (fun K hK => ?_)
        · go_simp
          have ROe : Hid (Row (World.alloc wQ (.cells #[.int .i64 (-x), .int .i64 y] 3)) gb 30 [.int .i64 f.vars, .slice XA xn xc]) := ROd.out.alloc _
          have RZe : Hid (Row (World.alloc wQ (.cells #[.int .i64 (-x), .int .i64 y] 3)) (w.heap.size + 1) 30 [.int .i64 0, .slice none 0 0]) := RZd.out.alloc _
          have BWe : Hid (Below w.heap.size w (World.alloc wQ (.cells #[.int .i64 (-x), .int .i64 y] 3))) := BWd.out.alloc BWd.out.size _
          have EOe : Hid (EOwn (World.alloc wQ (.cells #[.int .i64 (-x), .int .i64 y] 3)) w.heap.size w.heap.size (.slice XA xn xc) sl2 (f.cls ++ eqTo xs ys i)) := EOd.out.up BWd.out.size ((Below.refl _ _).alloc (Nat.le_refl _) _)
          have CXe : Hid ((World.alloc wQ (.cells #[.int .i64 (-x), .int .i64 y] 3)).cell? (ad.add i) = some (.int .i64 x)) := (World.cell?_alloc_lt _ _ _ (by rw [add_block]; exact hbxd.out.1)).trans CXd.out
          have CYe : Hid ((World.alloc wQ (.cells #[.int .i64 (-x), .int .i64 y] 3)).cell? (ae.add i) = some (.int .i64 y)) := (World.cell?_alloc_lt _ _ _ (by rw [add_block]; exact hbxd.out.2)).trans CYd.out
          have Rg1e : Hid (Row (World.alloc wQ (.cells #[.int .i64 (-x), .int .i64 y] 3)) wQ.heap.size 3 [.int .i64 (-x), .int .i64 y]) := Row.new wQ 3 [.int .i64 (-x), .int .i64 y]
          have hbxe : Hid (ad.block < (World.alloc wQ (.cells #[.int .i64 (-x), .int .i64 y] 3)).heap.size ∧ ae.block < (World.alloc wQ (.cells #[.int .i64 (-x), .int .i64 y] 3)).heap.size) := (by have := hbxd.out; rw [World.size_alloc]; show _ ∧ _; omega)
          have hg1 : w.heap.size ≤ wQ.heap.size := BWd.out.size
          clear hHeld ROd RZd BWd EOd CXd CYd hbxd
          revert ROe RZe BWe EOe CXe CYe Rg1e hbxe hg1
          generalize (World.alloc wQ (.cells #[.int .i64 (-x), .int .i64 y] 3)) = w8
          generalize wQ.heap.size = g1
          intro ROe RZe BWe EOe CXe CYe Rg1e hbxe hg1
          have ROd := ROe
          have RZd := RZe
          have BWd := BWe
          have EOd := EOe
          have CXd := CXe
          have CYd := CYe
          have Rg1d := Rg1e
          have hbxd := hbxe
          clear ROe RZe BWe EOe CXe CYe Rg1e hbxe
          refine hK.out _ _ (fun _ => ?keep) (fun hHeld => ?_)
          case keep => exact ⟨ROd.out, CXd.out, CYd.out⟩
          have hHeld := hHeld rfl
          clear hK K
          try go_simp
          refine restL_one (i := 20) (by kernel_rfl) rfl (fun K hK => ?_)
          go_simp
          have ROe : Hid (Row (World.alloc w8 (.cells #[.int .i64 x, .int .i64 (-y)] 3)) gb 30 [.int .i64 f.vars, .slice XA xn xc]) := ROd.out.alloc _
          have RZe : Hid (Row (World.alloc w8 (.cells #[.int .i64 x, .int .i64 (-y)] 3)) (w.heap.size + 1) 30 [.int .i64 0, .slice none 0 0]) := RZd.out.alloc _
          have BWe : Hid (Below w.heap.size w (World.alloc w8 (.cells #[.int .i64 x, .int .i64 (-y)] 3))) := BWd.out.alloc BWd.out.size _
          have EOe : Hid (EOwn (World.alloc w8 (.cells #[.int .i64 x, .int .i64 (-y)] 3)) w.heap.size w.heap.size (.slice XA xn xc) sl2 (f.cls ++ eqTo xs ys i)) := EOd.out.up BWd.out.size ((Below.refl _ _).alloc (Nat.le_refl _) _)
          have CXe : Hid ((World.alloc w8 (.cells #[.int .i64 x, .int .i64 (-y)] 3)).cell? (ad.add i) = some (.int .i64 x)) := (World.cell?_alloc_lt _ _ _ (by rw [add_block]; exact hbxd.out.1)).trans CXd.out
          have CYe : Hid ((World.alloc w8 (.cells #[.int .i64 x, .int .i64 (-y)] 3)).cell? (ae.add i) = some (.int .i64 y)) := (World.cell?_alloc_lt _ _ _ (by rw [add_block]; exact hbxd.out.2)).trans CYd.out
          have Rg2e : Hid (Row (World.alloc w8 (.cells #[.int .i64 x, .int .i64 (-y)] 3)) w8.heap.size 3 [.int .i64 x, .int .i64 (-y)]) := Row.new w8 3 [.int .i64 x, .int .i64 (-y)]
          have hbxe : Hid (ad.block < (World.alloc w8 (.cells #[.int .i64 x, .int .i64 (-y)] 3)).heap.size ∧ ae.block < (World.alloc w8 (.cells #[.int .i64 x, .int .i64 (-y)] 3)).heap.size) := (by have := hbxd.out; rw [World.size_alloc]; show _ ∧ _; omega)
          have hg2 : w.heap.size ≤ w8.heap.size := BWd.out.size
          have Rg1e : Hid (Row (World.alloc w8 (.cells #[.int .i64 x, .int .i64 (-y)] 3)) g1 3 [.int .i64 (-x), .int .i64 y]) := Rg1d.out.alloc _
          clear hHeld ROd RZd BWd EOd CXd CYd hbxd Rg1d
          revert ROe RZe BWe EOe CXe CYe Rg2e hbxe hg2 Rg1e
          generalize (World.alloc w8 (.cells #[.int .i64 x, .int .i64 (-y)] 3)) = w9
          generalize w8.heap.size = g2
          intro ROe RZe BWe EOe CXe CYe Rg2e hbxe hg2 Rg1e
          have ROd := ROe
          have RZd := RZe
          have BWd := BWe
          have EOd := EOe
          have CXd := CXe
          have CYd := CYe
          have Rg2d := Rg2e
          have hbxd := hbxe
          have Rg1d := Rg1e
          clear ROe RZe BWe EOe CXe CYe Rg2e hbxe Rg1e
          refine hK.out _ _ (fun _ => ?keep) (fun hHeld => ?_)
          case keep => exact ⟨ROd.out, CXd.out, CYd.out⟩
          have hHeld := hHeld rfl
          clear hK K
          try go_simp
          refine restL_one (i := 21) (by kernel_rfl) rfl (fun K hK => ?_)
          go_simp
          have ROe : Hid (Row (World.alloc w9 (.cells #[.slice (some ⟨g1, 0, none⟩) 2 2, .slice (some ⟨g2, 0, none⟩) 2 2] 23)) gb 30 [.int .i64 f.vars, .slice XA xn xc]) := ROd.out.alloc _
          have RZe : Hid (Row (World.alloc w9 (.cells #[.slice (some ⟨g1, 0, none⟩) 2 2, .slice (some ⟨g2, 0, none⟩) 2 2] 23)) (w.heap.size + 1) 30 [.int .i64 0, .slice none 0 0]) := RZd.out.alloc _
          have BWe : Hid (Below w.heap.size w (World.alloc w9 (.cells #[.slice (some ⟨g1, 0, none⟩) 2 2, .slice (some ⟨g2, 0, none⟩) 2 2] 23))) := BWd.out.alloc BWd.out.size _
          have EOe : Hid (EOwn (World.alloc w9 (.cells #[.slice (some ⟨g1, 0, none⟩) 2 2, .slice (some ⟨g2, 0, none⟩) 2 2] 23)) w.heap.size w.heap.size (.slice XA xn xc) sl2 (f.cls ++ eqTo xs ys i)) := EOd.out.up BWd.out.size ((Below.refl _ _).alloc (Nat.le_refl _) _)
          have CXe : Hid ((World.alloc w9 (.cells #[.slice (some ⟨g1, 0, none⟩) 2 2, .slice (some ⟨g2, 0, none⟩) 2 2] 23)).cell? (ad.add i) = some (.int .i64 x)) := (World.cell?_alloc_lt _ _ _ (by rw [add_block]; exact hbxd.out.1)).trans CXd.out
          have CYe : Hid ((World.alloc w9 (.cells #[.slice (some ⟨g1, 0, none⟩) 2 2, .slice (some ⟨g2, 0, none⟩) 2 2] 23)).cell? (ae.add i) = some (.int .i64 y)) := (World.cell?_alloc_lt _ _ _ (by rw [add_block]; exact hbxd.out.2)).trans CYd.out
          have Rg1e : Hid (Row (World.alloc w9 (.cells #[.slice (some ⟨g1, 0, none⟩) 2 2, .slice (some ⟨g2, 0, none⟩) 2 2] 23)) g1 3 [.int .i64 (-x), .int .i64 y]) := Rg1d.out.alloc _
          have Rg2e : Hid (Row (World.alloc w9 (.cells #[.slice (some ⟨g1, 0, none⟩) 2 2, .slice (some ⟨g2, 0, none⟩) 2 2] 23)) g2 3 [.int .i64 x, .int .i64 (-y)]) := Rg2d.out.alloc _
          have Rgoe : Hid (Row (World.alloc w9 (.cells #[.slice (some ⟨g1, 0, none⟩) 2 2, .slice (some ⟨g2, 0, none⟩) 2 2] 23)) w9.heap.size 23 [.slice (some ⟨g1, 0, none⟩) 2 2, .slice (some ⟨g2, 0, none⟩) 2 2]) := Row.new w9 23 [.slice (some ⟨g1, 0, none⟩) 2 2, .slice (some ⟨g2, 0, none⟩) 2 2]
          clear hHeld ROd RZd BWd EOd CXd CYd hbxd Rg1d Rg2d
          revert ROe RZe BWe EOe CXe CYe Rg1e Rg2e Rgoe
          generalize (World.alloc w9 (.cells #[.slice (some ⟨g1, 0, none⟩) 2 2, .slice (some ⟨g2, 0, none⟩) 2 2] 23)) = w10
          generalize w9.heap.size = go
          intro ROe RZe BWe EOe CXe CYe Rg1e Rg2e Rgoe
          have ROd := ROe
          have RZd := RZe
          have BWd := BWe
          have EOd := EOe
          have CXd := CXe
          have CYd := CYe
          have Rg1d := Rg1e
          have Rg2d := Rg2e
          have Rgod := Rgoe
          clear ROe RZe BWe EOe CXe CYe Rg1e Rg2e Rgoe
          have hszw := BWd.out.size
          refine hK.out _ _ (fun _ => ?keep) (fun hHeld => ?_)
          case keep => exact ⟨ROd.out, CXd.out, CYd.out⟩
          have hHeld := hHeld rfl
          clear hK K
          try go_simp
          refine restL_one (i := 22) (by kernel_rfl) rfl (fun K hK => ?_)
          go_simp
          go_at_call 36
          have HCT := add_any f.vars XA xn xc w.heap.size w.heap.size sl2 (f.cls ++ eqTo xs ys i) (some ⟨go, 0, none⟩) 2 2 [⟨some ⟨g1, 0, none⟩, 2, 2⟩, ⟨some ⟨g2, 0, none⟩, 2, 2⟩] [[-x, y], [x, -y]] w10 EOd.out HXN.out (Rgod.out.rd rfl) rfl (fun j hj => by
            have hc : j = 0 ∨ j = 1 := by simp at hj; omega
            rcases hc with rfl | rfl
            · exact ⟨.inr ⟨g1, hg1, rfl, rfl, Rg1d.out⟩, by show 2 ≤ maxLen; unfold maxLen; omega⟩
            · exact ⟨.inr ⟨g2, hg2, rfl, rfl, Rg2d.out⟩, by show 2 ≤ maxLen; unfold maxLen; omega⟩) hszw (by omega)
          rw [List.append_assoc, ← HFX.out] at HCT
          with_reducible refine HCT.mono ?_
          clear HCT
          rintro e w11 ⟨YA, yn, yd, sy, rfl, hyl, hE, hG, hat⟩
          have EO1 : Hid (EOwn w11 w.heap.size w.heap.size (.slice YA yn yd) sy (f.cls ++ eqTo xs ys (i + 1))) := hE
          have RO1 : Hid (Row w11 gb 30 [.int .i64 f.vars, .slice XA xn xc]) := ROd.out.grown hG (fun e => own_ne_row EOd.out.own ROd.out (by decide) e.symm)
          have RZ1 : Hid (Row w11 (w.heap.size + 1) 30 [.int .i64 0, .slice none 0 0]) := RZd.out.grown hG (fun e => own_ne_row EOd.out.own RZd.out (by decide) e.symm)
          have BW1 : Hid (Below w.heap.size w w11) := BWd.out.grown hG hszw (fun q hq => (EOd.out.own.lt q hq).1)
          clear hyl hE hG hat ROd RZd BWd EOd CXd CYd Rg1d Rg2d Rgod hHeld
          have e0 := RO1.out.cell 0
          have e1 := RO1.out.cell 1
          have el := RO1.out.lt
          simp only [List.getElem?_cons_zero, List.getElem?_cons_succ] at e0 e1
          have ef0 := RO1.out.frozen 0
          have ef1 := RO1.out.frozen 1
          refine hK.out _ _ (fun h => absurd h (by decide)) (fun _ => ?_)
          clear hK K
          try go_simp
          refine restL_one (i := 23) (by kernel_rfl) rfl (fun K hK => ?_)
          go_simp
          refine hK.out _ _ (fun h => absurd h (by decide)) (fun _ => ?_)
          clear hK K
          try go_simp
          refine restL_done (by kernel_rfl) ?_ _
          have Z1 := RO1.out.set 0 (.int .i64 f.vars)
          have RO2 : Hid (Row (World.setCell (World.setCell w11 ⟨gb, 0, none⟩ (.int .i64 f.vars)) ⟨gb, 1, none⟩ (.slice YA yn yd)) gb 30 [.int .i64 f.vars, .slice YA yn yd]) := Z1.set 1 _
          have RZ2 : Hid (Row (World.setCell (World.setCell w11 ⟨gb, 0, none⟩ (.int .i64 f.vars)) ⟨gb, 1, none⟩ (.slice YA yn yd)) (w.heap.size + 1) 30 [.int .i64 0, .slice none 0 0]) := (RZ1.out.far (p := ⟨gb, 0, none⟩) (by show w.heap.size + 1 ≠ gb; omega) _).far (p := ⟨gb, 1, none⟩) (by show w.heap.size + 1 ≠ gb; omega) _
          have BW2 : Hid (Below w.heap.size w (World.setCell (World.setCell w11 ⟨gb, 0, none⟩ (.int .i64 f.vars)) ⟨gb, 1, none⟩ (.slice YA yn yd))) := (BW1.out.setCell (p := ⟨gb, 0, none⟩) (by show _ ≤ gb; omega) _).setCell (p := ⟨gb, 1, none⟩) (by show _ ≤ gb; omega) _
          have EO2 : Hid (EOwn (World.setCell (World.setCell w11 ⟨gb, 0, none⟩ (.int .i64 f.vars)) ⟨gb, 1, none⟩ (.slice YA yn yd)) w.heap.size w.heap.size (.slice YA yn yd) sy (f.cls ++ eqTo xs ys (i + 1))) := (EO1.out.far (p := ⟨gb, 0, none⟩) RO1.out (by decide) (by decide) (by show _ ≤ gb; omega) _).far (p := ⟨gb, 1, none⟩) Z1 (by decide) (by decide) (by show _ ≤ gb; omega) _
          clear Z1 RO1 RZ1 BW1 EO1 e0 e1 el ef0 ef1
          revert RO2 RZ2 BW2 EO2
          generalize (World.setCell (World.setCell w11 ⟨gb, 0, none⟩ (.int .i64 f.vars)) ⟨gb, 1, none⟩ (.slice YA yn yd)) = w12
          intro RO2 RZ2 BW2 EO2
          go_wp2
          go_roundg (n - (i + 1))
          case measure => omega
          case rel => exact ⟨i + 1, _, _, by omega, by omega, by go_num, BW2.out, RZ2.out, RO2.out, EO2.out⟩
        · go_simp
          have ROe : Hid (Row (World.alloc wQ (.cells #[.int .i64 x, .int .i64 (-y)] 3)) gb 30 [.int .i64 f.vars, .slice XA xn xc]) := ROd.out.alloc _
          have RZe : Hid (Row (World.alloc wQ (.cells #[.int .i64 x, .int .i64 (-y)] 3)) (w.heap.size + 1) 30 [.int .i64 0, .slice none 0 0]) := RZd.out.alloc _
          have BWe : Hid (Below w.heap.size w (World.alloc wQ (.cells #[.int .i64 x, .int .i64 (-y)] 3))) := BWd.out.alloc BWd.out.size _
          have EOe : Hid (EOwn (World.alloc wQ (.cells #[.int .i64 x, .int .i64 (-y)] 3)) w.heap.size w.heap.size (.slice XA xn xc) sl2 (f.cls ++ eqTo xs ys i)) := EOd.out.up BWd.out.size ((Below.refl _ _).alloc (Nat.le_refl _) _)
          have CXe : Hid ((World.alloc wQ (.cells #[.int .i64 x, .int .i64 (-y)] 3)).cell? (ad.add i) = some (.int .i64 x)) := (World.cell?_alloc_lt _ _ _ (by rw [add_block]; exact hbxd.out.1)).trans CXd.out
          have CYe : Hid ((World.alloc wQ (.cells #[.int .i64 x, .int .i64 (-y)] 3)).cell? (ae.add i) = some (.int .i64 y)) := (World.cell?_alloc_lt _ _ _ (by rw [add_block]; exact hbxd.out.2)).trans CYd.out
          have Rg2e : Hid (Row (World.alloc wQ (.cells #[.int .i64 x, .int .i64 (-y)] 3)) wQ.heap.size 3 [.int .i64 x, .int .i64 (-y)]) := Row.new wQ 3 [.int .i64 x, .int .i64 (-y)]
          have hbxe : Hid (ad.block < (World.alloc wQ (.cells #[.int .i64 x, .int .i64 (-y)] 3)).heap.size ∧ ae.block < (World.alloc wQ (.cells #[.int .i64 x, .int .i64 (-y)] 3)).heap.size) := (by have := hbxd.out; rw [World.size_alloc]; show _ ∧ _; omega)
          have hg2 : w.heap.size ≤ wQ.heap.size := BWd.out.size
          clear hHeld ROd RZd BWd EOd CXd CYd hbxd
          revert ROe RZe BWe EOe CXe CYe Rg2e hbxe hg2
          generalize (World.alloc wQ (.cells #[.int .i64 x, .int .i64 (-y)] 3)) = w8
          generalize wQ.heap.size = g2
          intro ROe RZe BWe EOe CXe CYe Rg2e hbxe hg2
          have ROd := ROe
          have RZd := RZe
          have BWd := BWe
          have EOd := EOe
          have CXd := CXe
          have CYd := CYe
          have Rg2d := Rg2e
          have hbxd := hbxe
          clear ROe RZe BWe EOe CXe CYe Rg2e hbxe
          refine hK.out _ _ (fun _ => ?keep) (fun hHeld => ?_)
          case keep => exact ⟨ROd.out, CXd.out, CYd.out⟩
          have hHeld := hHeld rfl
          clear hK K
          try go_simp
          refine restL_one (i := 10) (by kernel_rfl) rfl (fun K hK => ?_)
          go_simp
          have ROe : Hid (Row (World.alloc w8 (.cells #[.int .i64 (-x), .int .i64 y] 3)) gb 30 [.int .i64 f.vars, .slice XA xn xc]) := ROd.out.alloc _
          have RZe : Hid (Row (World.alloc w8 (.cells #[.int .i64 (-x), .int .i64 y] 3)) (w.heap.size + 1) 30 [.int .i64 0, .slice none 0 0]) := RZd.out.alloc _
          have BWe : Hid (Below w.heap.size w (World.alloc w8 (.cells #[.int .i64 (-x), .int .i64 y] 3))) := BWd.out.alloc BWd.out.size _
          have EOe : Hid (EOwn (World.alloc w8 (.cells #[.int .i64 (-x), .int .i64 y] 3)) w.heap.size w.heap.size (.slice XA xn xc) sl2 (f.cls ++ eqTo xs ys i)) := EOd.out.up BWd.out.size ((Below.refl _ _).alloc (Nat.le_refl _) _)
          have CXe : Hid ((World.alloc w8 (.cells #[.int .i64 (-x), .int .i64 y] 3)).cell? (ad.add i) = some (.int .i64 x)) := (World.cell?_alloc_lt _ _ _ (by rw [add_block]; exact hbxd.out.1)).trans CXd.out
          have CYe : Hid ((World.alloc w8 (.cells #[.int .i64 (-x), .int .i64 y] 3)).cell? (ae.add i) = some (.int .i64 y)) := (World.cell?_alloc_lt _ _ _ (by rw [add_block]; exact hbxd.out.2)).trans CYd.out
          have Rg1e : Hid (Row (World.alloc w8 (.cells #[.int .i64 (-x), .int .i64 y] 3)) w8.heap.size 3 [.int .i64 (-x), .int .i64 y]) := Row.new w8 3 [.int .i64 (-x), .int .i64 y]
          have hbxe : Hid (ad.block < (World.alloc w8 (.cells #[.int .i64 (-x), .int .i64 y] 3)).heap.size ∧ ae.block < (World.alloc w8 (.cells #[.int .i64 (-x), .int .i64 y] 3)).heap.size) := (by have := hbxd.out; rw [World.size_alloc]; show _ ∧ _; omega)
          have hg1 : w.heap.size ≤ w8.heap.size := BWd.out.size
          have Rg2e : Hid (Row (World.alloc w8 (.cells #[.int .i64 (-x), .int .i64 y] 3)) g2 3 [.int .i64 x, .int .i64 (-y)]) := Rg2d.out.alloc _
          clear hHeld ROd RZd BWd EOd CXd CYd hbxd Rg2d
          revert ROe RZe BWe EOe CXe CYe Rg1e hbxe hg1 Rg2e
          generalize (World.alloc w8 (.cells #[.int .i64 (-x), .int .i64 y] 3)) = w9
          generalize w8.heap.size = g1
          intro ROe RZe BWe EOe CXe CYe Rg1e hbxe hg1 Rg2e
          have ROd := ROe
          have RZd := RZe
          have BWd := BWe
          have EOd := EOe
          have CXd := CXe
          have CYd := CYe
          have Rg1d := Rg1e
          have hbxd := hbxe
          have Rg2d := Rg2e
          clear ROe RZe BWe EOe CXe CYe Rg1e hbxe Rg2e
          refine hK.out _ _ (fun _ => ?keep) (fun hHeld => ?_)
          case keep => exact ⟨ROd.out, CXd.out, CYd.out⟩
          have hHeld := hHeld rfl
          clear hK K
          try go_simp
          refine restL_one (i := 21) (by kernel_rfl) rfl (fun K hK => ?_)
          go_simp
          have ROe : Hid (Row (World.alloc w9 (.cells #[.slice (some ⟨g1, 0, none⟩) 2 2, .slice (some ⟨g2, 0, none⟩) 2 2] 23)) gb 30 [.int .i64 f.vars, .slice XA xn xc]) := ROd.out.alloc _
          have RZe : Hid (Row (World.alloc w9 (.cells #[.slice (some ⟨g1, 0, none⟩) 2 2, .slice (some ⟨g2, 0, none⟩) 2 2] 23)) (w.heap.size + 1) 30 [.int .i64 0, .slice none 0 0]) := RZd.out.alloc _
          have BWe : Hid (Below w.heap.size w (World.alloc w9 (.cells #[.slice (some ⟨g1, 0, none⟩) 2 2, .slice (some ⟨g2, 0, none⟩) 2 2] 23))) := BWd.out.alloc BWd.out.size _
          have EOe : Hid (EOwn (World.alloc w9 (.cells #[.slice (some ⟨g1, 0, none⟩) 2 2, .slice (some ⟨g2, 0, none⟩) 2 2] 23)) w.heap.size w.heap.size (.slice XA xn xc) sl2 (f.cls ++ eqTo xs ys i)) := EOd.out.up BWd.out.size ((Below.refl _ _).alloc (Nat.le_refl _) _)
          have CXe : Hid ((World.alloc w9 (.cells #[.slice (some ⟨g1, 0, none⟩) 2 2, .slice (some ⟨g2, 0, none⟩) 2 2] 23)).cell? (ad.add i) = some (.int .i64 x)) := (World.cell?_alloc_lt _ _ _ (by rw [add_block]; exact hbxd.out.1)).trans CXd.out
          have CYe : Hid ((World.alloc w9 (.cells #[.slice (some ⟨g1, 0, none⟩) 2 2, .slice (some ⟨g2, 0, none⟩) 2 2] 23)).cell? (ae.add i) = some (.int .i64 y)) := (World.cell?_alloc_lt _ _ _ (by rw [add_block]; exact hbxd.out.2)).trans CYd.out
          have Rg1e : Hid (Row (World.alloc w9 (.cells #[.slice (some ⟨g1, 0, none⟩) 2 2, .slice (some ⟨g2, 0, none⟩) 2 2] 23)) g1 3 [.int .i64 (-x), .int .i64 y]) := Rg1d.out.alloc _
          have Rg2e : Hid (Row (World.alloc w9 (.cells #[.slice (some ⟨g1, 0, none⟩) 2 2, .slice (some ⟨g2, 0, none⟩) 2 2] 23)) g2 3 [.int .i64 x, .int .i64 (-y)]) := Rg2d.out.alloc _
          have Rgoe : Hid (Row (World.alloc w9 (.cells #[.slice (some ⟨g1, 0, none⟩) 2 2, .slice (some ⟨g2, 0, none⟩) 2 2] 23)) w9.heap.size 23 [.slice (some ⟨g1, 0, none⟩) 2 2, .slice (some ⟨g2, 0, none⟩) 2 2]) := Row.new w9 23 [.slice (some ⟨g1, 0, none⟩) 2 2, .slice (some ⟨g2, 0, none⟩) 2 2]
          clear hHeld ROd RZd BWd EOd CXd CYd hbxd Rg1d Rg2d
          revert ROe RZe BWe EOe CXe CYe Rg1e Rg2e Rgoe
          generalize (World.alloc w9 (.cells #[.slice (some ⟨g1, 0, none⟩) 2 2, .slice (some ⟨g2, 0, none⟩) 2 2] 23)) = w10
          generalize w9.heap.size = go
          intro ROe RZe BWe EOe CXe CYe Rg1e Rg2e Rgoe
          have ROd := ROe
          have RZd := RZe
          have BWd := BWe
          have EOd := EOe
          have CXd := CXe
          have CYd := CYe
          have Rg1d := Rg1e
          have Rg2d := Rg2e
          have Rgod := Rgoe
          clear ROe RZe BWe EOe CXe CYe Rg1e Rg2e Rgoe
          have hszw := BWd.out.size
          refine hK.out _ _ (fun _ => ?keep) (fun hHeld => ?_)
          case keep => exact ⟨ROd.out, CXd.out, CYd.out⟩
          have hHeld := hHeld rfl
          clear hK K
          try go_simp
          refine restL_one (i := 22) (by kernel_rfl) rfl (fun K hK => ?_)
          go_simp
          go_at_call 36
          have HCT := add_any f.vars XA xn xc w.heap.size w.heap.size sl2 (f.cls ++ eqTo xs ys i) (some ⟨go, 0, none⟩) 2 2 [⟨some ⟨g1, 0, none⟩, 2, 2⟩, ⟨some ⟨g2, 0, none⟩, 2, 2⟩] [[-x, y], [x, -y]] w10 EOd.out HXN.out (Rgod.out.rd rfl) rfl (fun j hj => by
            have hc : j = 0 ∨ j = 1 := by simp at hj; omega
            rcases hc with rfl | rfl
            · exact ⟨.inr ⟨g1, hg1, rfl, rfl, Rg1d.out⟩, by show 2 ≤ maxLen; unfold maxLen; omega⟩
            · exact ⟨.inr ⟨g2, hg2, rfl, rfl, Rg2d.out⟩, by show 2 ≤ maxLen; unfold maxLen; omega⟩) hszw (by omega)
          rw [List.append_assoc, ← HFX.out] at HCT
          with_reducible refine HCT.mono ?_
          clear HCT
          rintro e w11 ⟨YA, yn, yd, sy, rfl, hyl, hE, hG, hat⟩
          have EO1 : Hid (EOwn w11 w.heap.size w.heap.size (.slice YA yn yd) sy (f.cls ++ eqTo xs ys (i + 1))) := hE
          have RO1 : Hid (Row w11 gb 30 [.int .i64 f.vars, .slice XA xn xc]) := ROd.out.grown hG (fun e => own_ne_row EOd.out.own ROd.out (by decide) e.symm)
          have RZ1 : Hid (Row w11 (w.heap.size + 1) 30 [.int .i64 0, .slice none 0 0]) := RZd.out.grown hG (fun e => own_ne_row EOd.out.own RZd.out (by decide) e.symm)
          have BW1 : Hid (Below w.heap.size w w11) := BWd.out.grown hG hszw (fun q hq => (EOd.out.own.lt q hq).1)
          clear hyl hE hG hat ROd RZd BWd EOd CXd CYd Rg1d Rg2d Rgod hHeld
          have e0 := RO1.out.cell 0
          have e1 := RO1.out.cell 1
          have el := RO1.out.lt
          simp only [List.getElem?_cons_zero, List.getElem?_cons_succ] at e0 e1
          have ef0 := RO1.out.frozen 0
          have ef1 := RO1.out.frozen 1
          refine hK.out _ _ (fun h => absurd h (by decide)) (fun _ => ?_)
          clear hK K
          try go_simp
          refine restL_one (i := 23) (by kernel_rfl) rfl (fun K hK => ?_)
          go_simp
          refine hK.out _ _ (fun h => absurd h (by decide)) (fun _ => ?_)
          clear hK K
          try go_simp
          refine restL_done (by kernel_rfl) ?_ _
          have Z1 := RO1.out.set 0 (.int .i64 f.vars)
          have RO2 : Hid (Row (World.setCell (World.setCell w11 ⟨gb, 0, none⟩ (.int .i64 f.vars)) ⟨gb, 1, none⟩ (.slice YA yn yd)) gb 30 [.int .i64 f.vars, .slice YA yn yd]) := Z1.set 1 _
          have RZ2 : Hid (Row (World.setCell (World.setCell w11 ⟨gb, 0, none⟩ (.int .i64 f.vars)) ⟨gb, 1, none⟩ (.slice YA yn yd)) (w.heap.size + 1) 30 [.int .i64 0, .slice none 0 0]) := (RZ1.out.far (p := ⟨gb, 0, none⟩) (by show w.heap.size + 1 ≠ gb; omega) _).far (p := ⟨gb, 1, none⟩) (by show w.heap.size + 1 ≠ gb; omega) _
          have BW2 : Hid (Below w.heap.size w (World.setCell (World.setCell w11 ⟨gb, 0, none⟩ (.int .i64 f.vars)) ⟨gb, 1, none⟩ (.slice YA yn yd))) := (BW1.out.setCell (p := ⟨gb, 0, none⟩) (by show _ ≤ gb; omega) _).setCell (p := ⟨gb, 1, none⟩) (by show _ ≤ gb; omega) _
          have EO2 : Hid (EOwn (World.setCell (World.setCell w11 ⟨gb, 0, none⟩ (.int .i64 f.vars)) ⟨gb, 1, none⟩ (.slice YA yn yd)) w.heap.size w.heap.size (.slice YA yn yd) sy (f.cls ++ eqTo xs ys (i + 1))) := (EO1.out.far (p := ⟨gb, 0, none⟩) RO1.out (by decide) (by decide) (by show _ ≤ gb; omega) _).far (p := ⟨gb, 1, none⟩) Z1 (by decide) (by decide) (by show _ ≤ gb; omega) _
          clear Z1 RO1 RZ1 BW1 EO1 e0 e1 el ef0 ef1
          revert RO2 RZ2 BW2 EO2
          generalize (World.setCell (World.setCell w11 ⟨gb, 0, none⟩ (.int .i64 f.vars)) ⟨gb, 1, none⟩ (.slice YA yn yd)) = w12
          intro RO2 RZ2 BW2 EO2
          go_wp2
          go_roundg (n - (i + 1))
          case measure => omega
          case rel => exact ⟨i + 1, _, _, by omega, by omega, by go_num, BW2.out, RZ2.out, RO2.out, EO2.out⟩
      · have hltz : ¬ (i : Int) < (n : Int) := by omega
        obtain rfl : n = i := by omega
        have HKF : Hid ((eqF f xs ys).cls = f.cls ++ eqTo xs ys n) := (by show _ = _; unfold eqF; rw [HLX.out])
        rw [← HKF.out] at EO HXN
        have e0 := RO.out.cell 0
        have e1 := RO.out.cell 1
        have el := RO.out.lt
        simp only [List.getElem?_cons_zero, List.getElem?_cons_succ] at e0 e1
        go_wp2_with fail
        have HCT := eFits_any f.vars XA xn xc wr (by unfold maxLen; omega)
        have RZ0 : Hid (Row wr (w.heap.size + 1) 30 [.int .i64 0, .slice none 0 0]) := RZ.out
        have EO0 : Hid (EOwn wr w.heap.size w.heap.size (.slice XA xn xc) sl2 (eqF f xs ys).cls) := EO.out
        have BW0 : Hid (Below w.heap.size w wr) := BW.out
        clear RZ EO BW RO e0 e1 el
        by_cases hft : f.vars ≤ 65536 ∧ xn ≤ 262144
        · have HCE : Hid (eqR f xs ys = eqF f xs ys ∧ eqErr f xs ys = 0) := eqGood HOK.out (by
            unfold fitsErr; rw [if_pos]; show f.vars ≤ 65536 ∧ (eqF f xs ys).cls.length ≤ 262144; rw [HXN.out]; exact hft)
          rw [if_pos hft, if_pos hft] at HCT
          clear hft
          with_reducible refine HCT.mono ?_
          clear HCT
          rintro e w6 ⟨rfl, hG⟩
          have hb := grown_bel hG
          have RZ9 : Hid (Row w6 (w.heap.size + 1) 30 [.int .i64 0, .slice none 0 0]) := rowCells RZ0.out hb
          have EO9 : Hid (EOwn w6 w.heap.size w.heap.size (.slice XA xn xc) sl2 (eqF f xs ys).cls) := EO0.out.up BW0.out.size hb
          have BW9 : Hid (Below w.heap.size w w6) := below_on2 BW0.out hb
          have HRES : Hid (FmlPost (eqR f xs ys) (eqErr f xs ys) w (.returned (.tuple #[.agg #[.int .i64 f.vars, .slice XA xn xc], .int .i64 0])) (World.setCell (World.setCell w6 ⟨w.heap.size + 1, 0, none⟩ (.int .i64 f.vars)) ⟨w.heap.size + 1, 1, none⟩ (.slice XA xn xc))) := by
            have Z1 := RZ9.out.set 0 (.int .i64 f.vars)
            obtain ⟨q1, q2⟩ := HCE.out
            show FmlPost _ _ _ _ _
            rw [q1, q2]
            have hB := (BW9.out.setCell (p := ⟨w.heap.size + 1, 0, none⟩) (by show _ ≤ w.heap.size + 1; omega) (.int .i64 f.vars)).setCell (p := ⟨w.heap.size + 1, 1, none⟩) (by show _ ≤ w.heap.size + 1; omega) (.slice XA xn xc)
            refine ⟨XA, xn, xc, sl2, rfl, ?_, hB⟩
            exact ((EO9.out.far (p := ⟨w.heap.size + 1, 0, none⟩) RZ9.out (by decide) (by decide) (by show _ ≤ w.heap.size + 1; omega) (.int .i64 f.vars)).far (p := ⟨w.heap.size + 1, 1, none⟩) Z1 (by decide) (by decide) (by show _ ≤ w.heap.size + 1; omega) (.slice XA xn xc)).fat hB.size HXN.out (by unfold maxLen; omega)
          have Z9 := (RZ9.out.set 0 (.int .i64 f.vars)).set 1 (.slice XA xn xc)
          have q0 := Z9.cell 0
          have q1 := Z9.cell 1
          simp only [List.getElem?_cons_zero, List.getElem?_cons_succ, List.set_cons_zero, List.set_cons_succ] at q0 q1
          clear Z9 EO9 BW9 hb hG
          have d0 := RZ9.out.cell 0
          have d1 := RZ9.out.cell 1
          have dl := RZ9.out.lt
          simp only [List.getElem?_cons_zero, List.getElem?_cons_succ] at d0 d1
          have df0 := RZ9.out.frozen 0
          have df1 := RZ9.out.frozen 1
          clear RZ9
          go_wp2
          refine bodyPost_ret (v := .tuple #[.agg #[.int .i64 f.vars, .slice XA xn xc], .int .i64 0]) (by simp [results, Try.results20, go_sem, q0, q1]) rfl ?_
          exact HRES.out
        · have HCE : Hid (eqR f xs ys = noFml ∧ eqErr f xs ys = 6) := eqBig HOK.out (by
            unfold fitsErr; rw [if_neg]; show ¬ (f.vars ≤ 65536 ∧ (eqF f xs ys).cls.length ≤ 262144); rw [HXN.out]; exact hft)
          rw [if_neg hft, if_neg hft] at HCT
          clear hft
          with_reducible refine HCT.mono ?_
          clear HCT
          rintro e w6 ⟨rfl, hG⟩
          have hb := grown_bel hG
          have RZ6 : Hid (Row w6 (w.heap.size + 1) 30 [.int .i64 0, .slice none 0 0]) := rowCells RZ0.out hb
          have BB : Below w.heap.size w w6 := below_on2 BW0.out hb
          clear hb hG RZ0 EO0 BW0
          have d0 := RZ6.out.cell 0
          have d1 := RZ6.out.cell 1
          have dl := RZ6.out.lt
          simp only [List.getElem?_cons_zero, List.getElem?_cons_succ] at d0 d1
          have df0 := RZ6.out.frozen 0
          have df1 := RZ6.out.frozen 1
          go_wp2
          exact bodyPost_ret (v := .tuple #[.agg #[.int .i64 0, .slice none 0 0], .int .i64 6]) (by simp [results, Try.results20, go_sem, d0, d1]) rfl (fmlPost_err HCE.out.1 HCE.out.2 (by go_grown))
  · go_simp
    have RFe : Hid (Row (World.alloc wQ (.cells #[.int .i64 0, .slice none 0 0] 30)) w.heap.size 30 [.int .i64 f.vars, .slice FA fn fc]) := RFd.out.alloc _
    have RZe : Hid (Row (World.alloc wQ (.cells #[.int .i64 0, .slice none 0 0] 30)) (w.heap.size + 1) 30 [.int .i64 0, .slice none 0 0]) := RZd.out.alloc _
    have BWe : Hid (Below w.heap.size w (World.alloc wQ (.cells #[.int .i64 0, .slice none 0 0] 30))) := BWd.out.alloc BWd.out.size _
    have RBe : Hid (Row (World.alloc wQ (.cells #[.int .i64 0, .slice none 0 0] 30)) wQ.heap.size 30 [.int .i64 0, .slice none 0 0]) := Row.new wQ 30 [.int .i64 0, .slice none 0 0]
    have hgb : w.heap.size + 1 < wQ.heap.size := RZd.out.lt
    clear y0 y1 RFd RZd BWd hHeld
    revert RFe RZe BWe RBe hgb
    generalize (World.alloc wQ (.cells #[.int .i64 0, .slice none 0 0] 30)) = wA
    generalize wQ.heap.size = gb
    intro RFe RZe BWe RBe hgb
    have RFd := RFe
    have RZd := RZe
    have BWd := BWe
    have RBd := RBe
    clear RFe RZe BWe RBe
    have y0 := RFd.out.cell 0
    have y1 := RFd.out.cell 1
    simp only [List.getElem?_cons_zero, List.getElem?_cons_succ] at y0 y1
    have hSK := And.intro y0 y1
    refine hK.out _ _ ?_ (fun hHeld => ?_)
    · (try dsimp only); first | exact hSK | exact ⟨k0, k1⟩
    clear hK K
    try go_simp
    refine wpAnyH_ready (rs := [4]) (by kernel_rfl) (by simp) ?_
    refine AllReadyH.cons rfl (fun K hK => ?_) AllReadyH.nil
    clear y0 y1
    go_simp
    go_at_call 31
    refine (clone_rows FA fn fc sl wA (by exact (HF.out.up BWd.out).rows) (by omega)).mono ?_
    rintro e4 wE ⟨CA, cx, rfl, hown, hb⟩
    have HOd : Hid (wE.ownsRow w.heap.size 23 1 (.slice CA fn cx) fn (slCells sl)) := own_base hown BWd.out.size
    have RFe : Hid (Row wE w.heap.size 30 [.int .i64 f.vars, .slice FA fn fc]) := rowCells RFd.out hb
    have RZe : Hid (Row wE (w.heap.size + 1) 30 [.int .i64 0, .slice none 0 0]) := rowCells RZd.out hb
    have BWe : Hid (Below w.heap.size w wE) := below_on2 BWd.out hb
    have RBe : Hid (Row wE gb 30 [.int .i64 0, .slice none 0 0]) := rowCells RBd.out hb
    clear RBd
    clear hown hb RFd RZd BWd hHeld
    have RFd := RFe
    have RZd := RZe
    have BWd := BWe
    clear RFe RZe BWe
    have RBd := RBe
    clear RBe
    have y0 := RFd.out.cell 0
    have y1 := RFd.out.cell 1
    simp only [List.getElem?_cons_zero, List.getElem?_cons_succ] at y0 y1
    have hSK := And.intro y0 y1
    refine hK.out _ _ ?_ (fun hHeld => ?_)
    · (try dsimp only); first | exact hSK | exact ⟨k0, k1⟩
    clear hK K
    try go_simp
    refine wpAnyH_take (i := 5) (v := ?vq7) rfl (by kernel_rfl) (by kernel_rfl) (by kernel_rfl) (fun _ _ _ h => h) (Or.inl ⟨by rfl, ?yq7⟩) (by assumption) ?rq7
    case yq7 => intro w' hSw; (try dsimp only at hSw); go_simp; try (with_reducible rfl)
    go_simp
    refine wpAnyH_ready (rs := [7]) (by kernel_rfl) (by simp) ?_
    refine AllReadyH.cons rfl (fun K hK => ?_) AllReadyH.nil
    have b0 := RBd.out.cell 0
    have b1 := RBd.out.cell 1
    have bl := RBd.out.lt
    simp only [List.getElem?_cons_zero, List.getElem?_cons_succ] at b0 b1
    have bf0 := RBd.out.frozen 0
    have bf1 := RBd.out.frozen 1
    go_simp
    have Z1 := RBd.out.set 0 (.int .i64 f.vars)
    have RO6 : Hid (Row (World.setCell (World.setCell wE ⟨gb, 0, none⟩ (.int .i64 f.vars)) ⟨gb, 1, none⟩ (.slice CA fn cx)) gb 30 [.int .i64 f.vars, .slice CA fn cx]) := Z1.set 1 _
    have RZ6 : Hid (Row (World.setCell (World.setCell wE ⟨gb, 0, none⟩ (.int .i64 f.vars)) ⟨gb, 1, none⟩ (.slice CA fn cx)) (w.heap.size + 1) 30 [.int .i64 0, .slice none 0 0]) := (RZd.out.far (p := ⟨gb, 0, none⟩) (by show w.heap.size + 1 ≠ gb; omega) _).far (p := ⟨gb, 1, none⟩) (by show w.heap.size + 1 ≠ gb; omega) _
    have RF6 : Hid (Row (World.setCell (World.setCell wE ⟨gb, 0, none⟩ (.int .i64 f.vars)) ⟨gb, 1, none⟩ (.slice CA fn cx)) w.heap.size 30 [.int .i64 f.vars, .slice FA fn fc]) := (RFd.out.far (p := ⟨gb, 0, none⟩) (by show w.heap.size ≠ gb; omega) _).far (p := ⟨gb, 1, none⟩) (by show w.heap.size ≠ gb; omega) _
    have BW6 : Hid (Below w.heap.size w (World.setCell (World.setCell wE ⟨gb, 0, none⟩ (.int .i64 f.vars)) ⟨gb, 1, none⟩ (.slice CA fn cx))) := (BWd.out.setCell (p := ⟨gb, 0, none⟩) (by show _ ≤ gb; omega) _).setCell (p := ⟨gb, 1, none⟩) (by show _ ≤ gb; omega) _
    have EO6 : Hid (EOwn (World.setCell (World.setCell wE ⟨gb, 0, none⟩ (.int .i64 f.vars)) ⟨gb, 1, none⟩ (.slice CA fn cx)) w.heap.size w.heap.size (.slice CA fn cx) sl f.cls) := (by
      have E0 := EOwn.ofFAt HF.out BWd.out HOd.out
      exact (E0.far (p := ⟨gb, 0, none⟩) RBd.out (by decide) (by decide) (by show _ ≤ gb; omega) _).far (p := ⟨gb, 1, none⟩) Z1 (by decide) (by decide) (by show _ ≤ gb; omega) _)
    clear Z1 RBd RZd RFd BWd HOd b0 b1 bl bf0 bf1 y0 y1 hHeld
    revert RO6 RZ6 RF6 BW6 EO6
    generalize (World.setCell (World.setCell wE ⟨gb, 0, none⟩ (.int .i64 f.vars)) ⟨gb, 1, none⟩ (.slice CA fn cx)) = w6
    intro RO6 RZ6 RF6 BW6 EO6
    have y0 := RF6.out.cell 0
    have y1 := RF6.out.cell 1
    simp only [List.getElem?_cons_zero, List.getElem?_cons_succ] at y0 y1
    have hSK := And.intro y0 y1
    refine hK.out _ _ ?_ (fun hHeld => ?_)
    · (try dsimp only); first | exact hSK | exact ⟨k0, k1⟩
    clear hK K
    try go_simp
    refine wpAnyH_done (by kernel_rfl) ?_ _
    clear hSK RF6 y0 y1 hHeld
    have EO6 : Hid (EOwn w6 w.heap.size w.heap.size (.slice CA fn cx) sl (f.cls ++ eqTo xs ys 0)) := (by
      show EOwn _ _ _ _ _ _
      rw [show eqTo xs ys 0 = [] from rfl, List.append_nil]
      exact EO6.out)
    go_wp2
    go_loopg [9, 41] n (fun gg _ s41 wr => ∃ (i : Nat) (v : Value) (sl2 : List Sl), i ≤ n ∧ n - i ≤ gg ∧ s41 = .int .i64 i ∧ Aside (Below w.heap.size w wr) ∧ Aside (Row wr (w.heap.size + 1) 30 [.int .i64 0, .slice none 0 0]) ∧ Aside (Row wr gb 30 [.int .i64 f.vars, v]) ∧ Aside (EOwn wr w.heap.size w.heap.size v sl2 (f.cls ++ eqTo xs ys i)))
    case atStart => exact ⟨0, _, _, Nat.zero_le _, by omega, rfl, BW6.out, RZ6.out, RO6.out, EO6.out⟩
    case round =>
      clear BW6 RZ6 RO6 EO6
      obtain ⟨i, v, sl2, hi, hgg, rfl, BW, RZ, RO, EO⟩ := hrel
      obtain ⟨XA, xc, rfl⟩ := EO.out.form
      obtain ⟨xn, hxn⟩ : ∃ xn, xn = (f.cls ++ eqTo xs ys i).length := ⟨_, rfl⟩
      have HXN : Hid ((f.cls ++ eqTo xs ys i).length = xn) := hxn.symm
      have hxb : xn ≤ 600000 := by
        rw [hxn, List.length_append, HFL.out, eqTo_length]; omega
      rw [← hxn] at RO EO
      have EO : Hid (EOwn wr w.heap.size w.heap.size (.slice XA xn xc) sl2 (f.cls ++ eqTo xs ys i)) := EO.out
      have RO : Hid (Row wr gb 30 [.int .i64 f.vars, .slice XA xn xc]) := RO.out
      clear hxn
      by_cases hlt : i < n
      · have hltz : (i : Int) < (n : Int) := by omega
        obtain ⟨ad, rfl, hbx, hcx⟩ := (HX.out.up BW.out).int hlt
        obtain ⟨ae, rfl, hby, hcy⟩ := (HY.out.up BW.out).int hlt
        obtain ⟨x1, x2⟩ := varOk_at HR3.out (k := i) (by rw [HLX.out]; exact hlt)
        obtain ⟨y1, y2⟩ := varOk_at HR4.out (k := i) (by rw [HLY.out]; exact hlt)
        have HFX : Hid (eqTo xs ys (i + 1) = eqTo xs ys i ++ [[-(xs.getD i 0), ys.getD i 0], [xs.getD i 0, -(ys.getD i 0)]]) := eqTo_succ xs ys i
        generalize xs.getD i 0 = x at hcx x1 x2 HFX
        generalize ys.getD i 0 = y at hcy y1 y2 HFX
        have wx : IntKind.i64.wrap (-x) = -x := IntWalk.i64_in _ (by omega)
        have wy : IntKind.i64.wrap (-y) = -y := IntWalk.i64_in _ (by omega)
        have e0 := RO.out.cell 0
        have e1 := RO.out.cell 1
        have el := RO.out.lt
        simp only [List.getElem?_cons_zero, List.getElem?_cons_succ] at e0 e1
        have ef0 := RO.out.frozen 0
        have ef1 := RO.out.frozen 1
        go_wp2_with fail
        refine wp_region_L (fun w' => Row w' gb 30 [.int .i64 f.vars, .slice XA xn xc] ∧ w'.cell? (ad.add i) = some (.int .i64 x) ∧ w'.cell? (ae.add i) = some (.int .i64 y)) [22, 23] (by kernel_rfl) (by exact ⟨RO.out.drew, hcx, hcy⟩) (fun hHeld => ?_)
        have ROd : Hid (Row wr.drew gb 30 [.int .i64 f.vars, .slice XA xn xc]) := RO.out.drew
        have RZd : Hid (Row wr.drew (w.heap.size + 1) 30 [.int .i64 0, .slice none 0 0]) := RZ.out.drew
        have BWd : Hid (Below w.heap.size w wr.drew) := BW.out.drew
        have EOd : Hid (EOwn wr.drew w.heap.size w.heap.size (.slice XA xn xc) sl2 (f.cls ++ eqTo xs ys i)) := ⟨EO.out.len, EO.out.own, EO.out.row⟩
        have CXd : Hid (wr.drew.cell? (ad.add i) = some (.int .i64 x)) := hcx
        have CYd : Hid (wr.drew.cell? (ae.add i) = some (.int .i64 y)) := hcy
        have hbxd : Hid (ad.block < wr.drew.heap.size ∧ ae.block < wr.drew.heap.size) := ⟨hbx, hby⟩
        clear RO RZ BW EO hcx hcy hbx hby e0 e1 el ef0 ef1
        revert hHeld ROd RZd BWd EOd CXd CYd hbxd
        generalize wr.drew = wQ
        intro hHeld ROd RZd BWd EOd CXd CYd hbxd
        refine restL_pure (i := 1) (v := ?ve8x1) rfl (by kernel_rfl) (by kernel_rfl) (by kernel_rfl) (fun _ _ _ h => h) (Or.inl ⟨by rfl, ?ye8x1⟩) ?re8x1
        case ye8x1 => intro w' hSw; clear hSw; go_simp; try (with_reducible rfl)
        go_simp
        refine restL_pure (i := 2) (v := ?ve8x2) rfl (by kernel_rfl) (by kernel_rfl) (by kernel_rfl) (fun _ _ _ h => h) (Or.inl ⟨by rfl, ?ye8x2⟩) ?re8x2
        case ye8x2 => intro w' hSw; clear hSw; go_simp; try (with_reducible rfl)
        go_simp
        refine restL_pure (i := 6) (v := ?ve8x3) rfl (by kernel_rfl) (by kernel_rfl) (by kernel_rfl) (fun _ _ _ h => h) (Or.inl ⟨by rfl, ?ye8x3⟩) ?re8x3
        case ye8x3 => intro w' hSw; clear hSw; go_simp; try (with_reducible rfl)
        go_simp
        refine restL_pure (i := 7) (v := ?ve8x4) rfl (by kernel_rfl) (by kernel_rfl) (by kernel_rfl) (fun _ _ _ h => h) (Or.inl ⟨by rfl, ?ye8x4⟩) ?re8x4
        case ye8x4 => intro w' hSw; clear hSw; go_simp; try (with_reducible rfl)
        go_simp
        refine restL_pure (i := 11) (v := ?ve8x5) rfl (by kernel_rfl) (by kernel_rfl) (by kernel_rfl) (fun _ _ _ h => h) (Or.inl ⟨by rfl, ?ye8x5⟩) ?re8x5
        case ye8x5 => intro w' hSw; clear hSw; go_simp; try (with_reducible rfl)
        go_simp
        refine restL_pure (i := 12) (v := ?ve8x6) rfl (by kernel_rfl) (by kernel_rfl) (by kernel_rfl) (fun _ _ _ h => h) (Or.inl ⟨by rfl, ?ye8x6⟩) ?re8x6
        case ye8x6 => intro w' hSw; clear hSw; go_simp; try (with_reducible rfl)
        go_simp
        refine restL_pure (i := 15) (v := ?ve8x7) rfl (by kernel_rfl) (by kernel_rfl) (by kernel_rfl) (fun _ _ _ h => h) (Or.inl ⟨by rfl, ?ye8x7⟩) ?re8x7
        case ye8x7 => intro w' hSw; clear hSw; go_simp; try (with_reducible rfl)
        go_simp
        refine restL_pure (i := 16) (v := ?ve8x8) rfl (by kernel_rfl) (by kernel_rfl) (by kernel_rfl) (fun _ _ _ h => h) (Or.inl ⟨by rfl, ?ye8x8⟩) ?re8x8
        case ye8x8 => intro w' hSw; clear hSw; go_simp; try (with_reducible rfl)
        go_simp
        refine restL_take (i := 0) (v := ?ve8x9) [[22], [23]] rfl (by kernel_rfl) (by kernel_rfl) (by kernel_rfl) (by kernel_rfl) (fun _ _ _ h => h) (Or.inl ⟨by rfl, ?ye8x9⟩) hHeld ?re8x9
        case ye8x9 =>
          intro w' hSw
          obtain ⟨hS1, hS2, hS3⟩ := hSw
          have hSh : Hid (Row w' gb 30 [.int .i64 f.vars, .slice XA xn xc]) := hS1
          clear hS1
          have z0 := hSh.out.cell 0
          have z1 := hSh.out.cell 1
          have zl := hSh.out.lt
          simp only [List.getElem?_cons_zero, List.getElem?_cons_succ] at z0 z1
          go_simp
          try (with_reducible rfl)
        go_simp
        refine restL_take (i := 3) (v := ?ve8x10) [[22, 21, 10, 5, 4], [23]] rfl (by kernel_rfl) (by kernel_rfl) (by kernel_rfl) (by kernel_rfl) (fun _ _ _ h => h) (Or.inl ⟨by rfl, ?ye8x10⟩) hHeld ?re8x10
        case ye8x10 =>
          intro w' hSw
          obtain ⟨hS1, hS2, hS3⟩ := hSw
          have hSh : Hid (Row w' gb 30 [.int .i64 f.vars, .slice XA xn xc]) := hS1
          clear hS1
          have z0 := hSh.out.cell 0
          have z1 := hSh.out.cell 1
          have zl := hSh.out.lt
          simp only [List.getElem?_cons_zero, List.getElem?_cons_succ] at z0 z1
          go_simp
          try (with_reducible rfl)
        go_simp
        refine restL_take (i := 4) (v := ?ve8x11) [[22, 21, 10, 5], [23]] rfl (by kernel_rfl) (by kernel_rfl) (by kernel_rfl) (by kernel_rfl) (fun _ _ _ h => h) (Or.inl ⟨by rfl, ?ye8x11⟩) hHeld ?re8x11
        case ye8x11 =>
          intro w' hSw
          obtain ⟨hS1, hS2, hS3⟩ := hSw
          have hSh : Hid (Row w' gb 30 [.int .i64 f.vars, .slice XA xn xc]) := hS1
          clear hS1
          have z0 := hSh.out.cell 0
          have z1 := hSh.out.cell 1
          have zl := hSh.out.lt
          simp only [List.getElem?_cons_zero, List.getElem?_cons_succ] at z0 z1
          go_simp
          try (with_reducible rfl)
        go_simp
        refine restL_pure (i := 5) (v := ?ve8x12) rfl (by kernel_rfl) (by kernel_rfl) (by kernel_rfl) (fun _ _ _ h => h) (Or.inl ⟨by rfl, ?ye8x12⟩) ?re8x12
        case ye8x12 => intro w' hSw; clear hSw; go_simp; try (with_reducible rfl)
        go_simp
        refine restL_take (i := 8) (v := ?ve8x13) [[22, 21, 10, 9], [23]] rfl (by kernel_rfl) (by kernel_rfl) (by kernel_rfl) (by kernel_rfl) (fun _ _ _ h => h) (Or.inl ⟨by rfl, ?ye8x13⟩) hHeld ?re8x13
        case ye8x13 =>
          intro w' hSw
          obtain ⟨hS1, hS2, hS3⟩ := hSw
          have hSh : Hid (Row w' gb 30 [.int .i64 f.vars, .slice XA xn xc]) := hS1
          clear hS1
          have z0 := hSh.out.cell 0
          have z1 := hSh.out.cell 1
          have zl := hSh.out.lt
          simp only [List.getElem?_cons_zero, List.getElem?_cons_succ] at z0 z1
          go_simp
          try (with_reducible rfl)
        go_simp
        refine restL_take (i := 9) (v := ?ve8x14) [[22, 21, 10], [23]] rfl (by kernel_rfl) (by kernel_rfl) (by kernel_rfl) (by kernel_rfl) (fun _ _ _ h => h) (Or.inl ⟨by rfl, ?ye8x14⟩) hHeld ?re8x14
        case ye8x14 =>
          intro w' hSw
          obtain ⟨hS1, hS2, hS3⟩ := hSw
          have hSh : Hid (Row w' gb 30 [.int .i64 f.vars, .slice XA xn xc]) := hS1
          clear hS1
          have z0 := hSh.out.cell 0
          have z1 := hSh.out.cell 1
          have zl := hSh.out.lt
          simp only [List.getElem?_cons_zero, List.getElem?_cons_succ] at z0 z1
          go_simp
          try (with_reducible rfl)
        go_simp
        refine restL_take (i := 13) (v := ?ve8x15) [[22, 21, 20, 14], [23]] rfl (by kernel_rfl) (by kernel_rfl) (by kernel_rfl) (by kernel_rfl) (fun _ _ _ h => h) (Or.inl ⟨by rfl, ?ye8x15⟩) hHeld ?re8x15
        case ye8x15 =>
          intro w' hSw
          obtain ⟨hS1, hS2, hS3⟩ := hSw
          have hSh : Hid (Row w' gb 30 [.int .i64 f.vars, .slice XA xn xc]) := hS1
          clear hS1
          have z0 := hSh.out.cell 0
          have z1 := hSh.out.cell 1
          have zl := hSh.out.lt
          simp only [List.getElem?_cons_zero, List.getElem?_cons_succ] at z0 z1
          go_simp
          try (with_reducible rfl)
        go_simp
        refine restL_take (i := 14) (v := ?ve8x16) [[22, 21, 20], [23]] rfl (by kernel_rfl) (by kernel_rfl) (by kernel_rfl) (by kernel_rfl) (fun _ _ _ h => h) (Or.inl ⟨by rfl, ?ye8x16⟩) hHeld ?re8x16
        case ye8x16 =>
          intro w' hSw
          obtain ⟨hS1, hS2, hS3⟩ := hSw
          have hSh : Hid (Row w' gb 30 [.int .i64 f.vars, .slice XA xn xc]) := hS1
          clear hS1
          have z0 := hSh.out.cell 0
          have z1 := hSh.out.cell 1
          have zl := hSh.out.lt
          simp only [List.getElem?_cons_zero, List.getElem?_cons_succ] at z0 z1
          go_simp
          try (with_reducible rfl)
        go_simp
        refine restL_take (i := 17) (v := ?ve8x17) [[22, 21, 20, 19, 18], [23]] rfl (by kernel_rfl) (by kernel_rfl) (by kernel_rfl) (by kernel_rfl) (fun _ _ _ h => h) (Or.inl ⟨by rfl, ?ye8x17⟩) hHeld ?re8x17
        case ye8x17 =>
          intro w' hSw
          obtain ⟨hS1, hS2, hS3⟩ := hSw
          have hSh : Hid (Row w' gb 30 [.int .i64 f.vars, .slice XA xn xc]) := hS1
          clear hS1
          have z0 := hSh.out.cell 0
          have z1 := hSh.out.cell 1
          have zl := hSh.out.lt
          simp only [List.getElem?_cons_zero, List.getElem?_cons_succ] at z0 z1
          go_simp
          try (with_reducible rfl)
        go_simp
        refine restL_take (i := 18) (v := ?ve8x18) [[22, 21, 20, 19], [23]] rfl (by kernel_rfl) (by kernel_rfl) (by kernel_rfl) (by kernel_rfl) (fun _ _ _ h => h) (Or.inl ⟨by rfl, ?ye8x18⟩) hHeld ?re8x18
        case ye8x18 =>
          intro w' hSw
          obtain ⟨hS1, hS2, hS3⟩ := hSw
          have hSh : Hid (Row w' gb 30 [.int .i64 f.vars, .slice XA xn xc]) := hS1
          clear hS1
          have z0 := hSh.out.cell 0
          have z1 := hSh.out.cell 1
          have zl := hSh.out.lt
          simp only [List.getElem?_cons_zero, List.getElem?_cons_succ] at z0 z1
          go_simp
          try (with_reducible rfl)
        go_simp
        refine restL_pure (i := 19) (v := ?ve8x19) rfl (by kernel_rfl) (by kernel_rfl) (by kernel_rfl) (fun _ _ _ h => h) (Or.inl ⟨by rfl, ?ye8x19⟩) ?re8x19
        case ye8x19 => intro w' hSw; clear hSw; go_simp; try (with_reducible rfl)
        go_simp
        refine restL_two (i := 10) (j := 20) (by kernel_rfl) rfl rfl (fun K hK => ?_) (fun K hK => ?_)
        · go_simp
          have ROe : Hid (Row (World.alloc wQ (.cells #[.int .i64 (-x), .int .i64 y] 3)) gb 30 [.int .i64 f.vars, .slice XA xn xc]) := ROd.out.alloc _
          have RZe : Hid (Row (World.alloc wQ (.cells #[.int .i64 (-x), .int .i64 y] 3)) (w.heap.size + 1) 30 [.int .i64 0, .slice none 0 0]) := RZd.out.alloc _
          have BWe : Hid (Below w.heap.size w (World.alloc wQ (.cells #[.int .i64 (-x), .int .i64 y] 3))) := BWd.out.alloc BWd.out.size _
          have EOe : Hid (EOwn (World.alloc wQ (.cells #[.int .i64 (-x), .int .i64 y] 3)) w.heap.size w.heap.size (.slice XA xn xc) sl2 (f.cls ++ eqTo xs ys i)) := EOd.out.up BWd.out.size ((Below.refl _ _).alloc (Nat.le_refl _) _)
          have CXe : Hid ((World.alloc wQ (.cells #[.int .i64 (-x), .int .i64 y] 3)).cell? (ad.add i) = some (.int .i64 x)) := (World.cell?_alloc_lt _ _ _ (by rw [add_block]; exact hbxd.out.1)).trans CXd.out
          have CYe : Hid ((World.alloc wQ (.cells #[.int .i64 (-x), .int .i64 y] 3)).cell? (ae.add i) = some (.int .i64 y)) := (World.cell?_alloc_lt _ _ _ (by rw [add_block]; exact hbxd.out.2)).trans CYd.out
          have Rg1e : Hid (Row (World.alloc wQ (.cells #[.int .i64 (-x), .int .i64 y] 3)) wQ.heap.size 3 [.int .i64 (-x), .int .i64 y]) := Row.new wQ 3 [.int .i64 (-x), .int .i64 y]
          have hbxe : Hid (ad.block < (World.alloc wQ (.cells #[.int .i64 (-x), .int .i64 y] 3)).heap.size ∧ ae.block < (World.alloc wQ (.cells #[.int .i64 (-x), .int .i64 y] 3)).heap.size) := (by have := hbxd.out; rw [World.size_alloc]; show _ ∧ _; omega)
          have hg1 : w.heap.size ≤ wQ.heap.size := BWd.out.size
          clear hHeld ROd RZd BWd EOd CXd CYd hbxd
          revert ROe RZe BWe EOe CXe CYe Rg1e hbxe hg1
          generalize (World.alloc wQ (.cells #[.int .i64 (-x), .int .i64 y] 3)) = w8
          generalize wQ.heap.size = g1
          intro ROe RZe BWe EOe CXe CYe Rg1e hbxe hg1
          have ROd := ROe
          have RZd := RZe
          have BWd := BWe
          have EOd := EOe
          have CXd := CXe
          have CYd := CYe
          have Rg1d := Rg1e
          have hbxd := hbxe
          clear ROe RZe BWe EOe CXe CYe Rg1e hbxe
          refine hK.out _ _ (fun _ => ?keep) (fun hHeld => ?_)
          case keep => exact ⟨ROd.out, CXd.out, CYd.out⟩
          have hHeld := hHeld rfl
          clear hK K
          try go_simp
          refine restL_one (i := 20) (by kernel_rfl) rfl (fun K hK => ?_)
          go_simp
          have ROe : Hid (Row (World.alloc w8 (.cells #[.int .i64 x, .int .i64 (-y)] 3)) gb 30 [.int .i64 f.vars, .slice XA xn xc]) := ROd.out.alloc _
          have RZe : Hid (Row (World.alloc w8 (.cells #[.int .i64 x, .int .i64 (-y)] 3)) (w.heap.size + 1) 30 [.int .i64 0, .slice none 0 0]) := RZd.out.alloc _
          have BWe : Hid (Below w.heap.size w (World.alloc w8 (.cells #[.int .i64 x, .int .i64 (-y)] 3))) := BWd.out.alloc BWd.out.size _
          have EOe : Hid (EOwn (World.alloc w8 (.cells #[.int .i64 x, .int .i64 (-y)] 3)) w.heap.size w.heap.size (.slice XA xn xc) sl2 (f.cls ++ eqTo xs ys i)) := EOd.out.up BWd.out.size ((Below.refl _ _).alloc (Nat.le_refl _) _)
          have CXe : Hid ((World.alloc w8 (.cells #[.int .i64 x, .int .i64 (-y)] 3)).cell? (ad.add i) = some (.int .i64 x)) := (World.cell?_alloc_lt _ _ _ (by rw [add_block]; exact hbxd.out.1)).trans CXd.out
          have CYe : Hid ((World.alloc w8 (.cells #[.int .i64 x, .int .i64 (-y)] 3)).cell? (ae.add i) = some (.int .i64 y)) := (World.cell?_alloc_lt _ _ _ (by rw [add_block]; exact hbxd.out.2)).trans CYd.out
          have Rg2e : Hid (Row (World.alloc w8 (.cells #[.int .i64 x, .int .i64 (-y)] 3)) w8.heap.size 3 [.int .i64 x, .int .i64 (-y)]) := Row.new w8 3 [.int .i64 x, .int .i64 (-y)]
          have hbxe : Hid (ad.block < (World.alloc w8 (.cells #[.int .i64 x, .int .i64 (-y)] 3)).heap.size ∧ ae.block < (World.alloc w8 (.cells #[.int .i64 x, .int .i64 (-y)] 3)).heap.size) := (by have := hbxd.out; rw [World.size_alloc]; show _ ∧ _; omega)
          have hg2 : w.heap.size ≤ w8.heap.size := BWd.out.size
          have Rg1e : Hid (Row (World.alloc w8 (.cells #[.int .i64 x, .int .i64 (-y)] 3)) g1 3 [.int .i64 (-x), .int .i64 y]) := Rg1d.out.alloc _
          clear hHeld ROd RZd BWd EOd CXd CYd hbxd Rg1d
          revert ROe RZe BWe EOe CXe CYe Rg2e hbxe hg2 Rg1e
          generalize (World.alloc w8 (.cells #[.int .i64 x, .int .i64 (-y)] 3)) = w9
          generalize w8.heap.size = g2
          intro ROe RZe BWe EOe CXe CYe Rg2e hbxe hg2 Rg1e
          have ROd := ROe
          have RZd := RZe
          have BWd := BWe
          have EOd := EOe
          have CXd := CXe
          have CYd := CYe
          have Rg2d := Rg2e
          have hbxd := hbxe
          have Rg1d := Rg1e
          clear ROe RZe BWe EOe CXe CYe Rg2e hbxe Rg1e
          refine hK.out _ _ (fun _ => ?keep) (fun hHeld => ?_)
          case keep => exact ⟨ROd.out, CXd.out, CYd.out⟩
          have hHeld := hHeld rfl
          clear hK K
          try go_simp
          refine restL_one (i := 21) (by kernel_rfl) rfl (fun K hK => ?_)
          go_simp
          have ROe : Hid (Row (World.alloc w9 (.cells #[.slice (some ⟨g1, 0, none⟩) 2 2, .slice (some ⟨g2, 0, none⟩) 2 2] 23)) gb 30 [.int .i64 f.vars, .slice XA xn xc]) := ROd.out.alloc _
          have RZe : Hid (Row (World.alloc w9 (.cells #[.slice (some ⟨g1, 0, none⟩) 2 2, .slice (some ⟨g2, 0, none⟩) 2 2] 23)) (w.heap.size + 1) 30 [.int .i64 0, .slice none 0 0]) := RZd.out.alloc _
          have BWe : Hid (Below w.heap.size w (World.alloc w9 (.cells #[.slice (some ⟨g1, 0, none⟩) 2 2, .slice (some ⟨g2, 0, none⟩) 2 2] 23))) := BWd.out.alloc BWd.out.size _
          have EOe : Hid (EOwn (World.alloc w9 (.cells #[.slice (some ⟨g1, 0, none⟩) 2 2, .slice (some ⟨g2, 0, none⟩) 2 2] 23)) w.heap.size w.heap.size (.slice XA xn xc) sl2 (f.cls ++ eqTo xs ys i)) := EOd.out.up BWd.out.size ((Below.refl _ _).alloc (Nat.le_refl _) _)
          have CXe : Hid ((World.alloc w9 (.cells #[.slice (some ⟨g1, 0, none⟩) 2 2, .slice (some ⟨g2, 0, none⟩) 2 2] 23)).cell? (ad.add i) = some (.int .i64 x)) := (World.cell?_alloc_lt _ _ _ (by rw [add_block]; exact hbxd.out.1)).trans CXd.out
          have CYe : Hid ((World.alloc w9 (.cells #[.slice (some ⟨g1, 0, none⟩) 2 2, .slice (some ⟨g2, 0, none⟩) 2 2] 23)).cell? (ae.add i) = some (.int .i64 y)) := (World.cell?_alloc_lt _ _ _ (by rw [add_block]; exact hbxd.out.2)).trans CYd.out
          have Rg1e : Hid (Row (World.alloc w9 (.cells #[.slice (some ⟨g1, 0, none⟩) 2 2, .slice (some ⟨g2, 0, none⟩) 2 2] 23)) g1 3 [.int .i64 (-x), .int .i64 y]) := Rg1d.out.alloc _
          have Rg2e : Hid (Row (World.alloc w9 (.cells #[.slice (some ⟨g1, 0, none⟩) 2 2, .slice (some ⟨g2, 0, none⟩) 2 2] 23)) g2 3 [.int .i64 x, .int .i64 (-y)]) := Rg2d.out.alloc _
          have Rgoe : Hid (Row (World.alloc w9 (.cells #[.slice (some ⟨g1, 0, none⟩) 2 2, .slice (some ⟨g2, 0, none⟩) 2 2] 23)) w9.heap.size 23 [.slice (some ⟨g1, 0, none⟩) 2 2, .slice (some ⟨g2, 0, none⟩) 2 2]) := Row.new w9 23 [.slice (some ⟨g1, 0, none⟩) 2 2, .slice (some ⟨g2, 0, none⟩) 2 2]
          clear hHeld ROd RZd BWd EOd CXd CYd hbxd Rg1d Rg2d
          revert ROe RZe BWe EOe CXe CYe Rg1e Rg2e Rgoe
          generalize (World.alloc w9 (.cells #[.slice (some ⟨g1, 0, none⟩) 2 2, .slice (some ⟨g2, 0, none⟩) 2 2] 23)) = w10
          generalize w9.heap.size = go
          intro ROe RZe BWe EOe CXe CYe Rg1e Rg2e Rgoe
          have ROd := ROe
          have RZd := RZe
          have BWd := BWe
          have EOd := EOe
          have CXd := CXe
          have CYd := CYe
          have Rg1d := Rg1e
          have Rg2d := Rg2e
          have Rgod := Rgoe
          clear ROe RZe BWe EOe CXe CYe Rg1e Rg2e Rgoe
          have hszw := BWd.out.size
          refine hK.out _ _ (fun _ => ?keep) (fun hHeld => ?_)
          case keep => exact ⟨ROd.out, CXd.out, CYd.out⟩
          have hHeld := hHeld rfl
          clear hK K
          try go_simp
          refine restL_one (i := 22) (by kernel_rfl) rfl (fun K hK => ?_)
          go_simp
          go_at_call 36
          have HCT := add_any f.vars XA xn xc w.heap.size w.heap.size sl2 (f.cls ++ eqTo xs ys i) (some ⟨go, 0, none⟩) 2 2 [⟨some ⟨g1, 0, none⟩, 2, 2⟩, ⟨some ⟨g2, 0, none⟩, 2, 2⟩] [[-x, y], [x, -y]] w10 EOd.out HXN.out (Rgod.out.rd rfl) rfl (fun j hj => by
            have hc : j = 0 ∨ j = 1 := by simp at hj; omega
            rcases hc with rfl | rfl
            · exact ⟨.inr ⟨g1, hg1, rfl, rfl, Rg1d.out⟩, by show 2 ≤ maxLen; unfold maxLen; omega⟩
            · exact ⟨.inr ⟨g2, hg2, rfl, rfl, Rg2d.out⟩, by show 2 ≤ maxLen; unfold maxLen; omega⟩) hszw (by omega)
          rw [List.append_assoc, ← HFX.out] at HCT
          with_reducible refine HCT.mono ?_
          clear HCT
          rintro e w11 ⟨YA, yn, yd, sy, rfl, hyl, hE, hG, hat⟩
          have EO1 : Hid (EOwn w11 w.heap.size w.heap.size (.slice YA yn yd) sy (f.cls ++ eqTo xs ys (i + 1))) := hE
          have RO1 : Hid (Row w11 gb 30 [.int .i64 f.vars, .slice XA xn xc]) := ROd.out.grown hG (fun e => own_ne_row EOd.out.own ROd.out (by decide) e.symm)
          have RZ1 : Hid (Row w11 (w.heap.size + 1) 30 [.int .i64 0, .slice none 0 0]) := RZd.out.grown hG (fun e => own_ne_row EOd.out.own RZd.out (by decide) e.symm)
          have BW1 : Hid (Below w.heap.size w w11) := BWd.out.grown hG hszw (fun q hq => (EOd.out.own.lt q hq).1)
          clear hyl hE hG hat ROd RZd BWd EOd CXd CYd Rg1d Rg2d Rgod hHeld
          have e0 := RO1.out.cell 0
          have e1 := RO1.out.cell 1
          have el := RO1.out.lt
          simp only [List.getElem?_cons_zero, List.getElem?_cons_succ] at e0 e1
          have ef0 := RO1.out.frozen 0
          have ef1 := RO1.out.frozen 1
          refine hK.out _ _ (fun h => absurd h (by decide)) (fun _ => ?_)
          clear hK K
          try go_simp
          refine restL_one (i := 23) (by kernel_rfl) rfl (fun K hK => ?_)
          go_simp
          refine hK.out _ _ (fun h => absurd h (by decide)) (fun _ => ?_)
          clear hK K
          try go_simp
          refine restL_done (by kernel_rfl) ?_ _
          have Z1 := RO1.out.set 0 (.int .i64 f.vars)
          have RO2 : Hid (Row (World.setCell (World.setCell w11 ⟨gb, 0, none⟩ (.int .i64 f.vars)) ⟨gb, 1, none⟩ (.slice YA yn yd)) gb 30 [.int .i64 f.vars, .slice YA yn yd]) := Z1.set 1 _
          have RZ2 : Hid (Row (World.setCell (World.setCell w11 ⟨gb, 0, none⟩ (.int .i64 f.vars)) ⟨gb, 1, none⟩ (.slice YA yn yd)) (w.heap.size + 1) 30 [.int .i64 0, .slice none 0 0]) := (RZ1.out.far (p := ⟨gb, 0, none⟩) (by show w.heap.size + 1 ≠ gb; omega) _).far (p := ⟨gb, 1, none⟩) (by show w.heap.size + 1 ≠ gb; omega) _
          have BW2 : Hid (Below w.heap.size w (World.setCell (World.setCell w11 ⟨gb, 0, none⟩ (.int .i64 f.vars)) ⟨gb, 1, none⟩ (.slice YA yn yd))) := (BW1.out.setCell (p := ⟨gb, 0, none⟩) (by show _ ≤ gb; omega) _).setCell (p := ⟨gb, 1, none⟩) (by show _ ≤ gb; omega) _
          have EO2 : Hid (EOwn (World.setCell (World.setCell w11 ⟨gb, 0, none⟩ (.int .i64 f.vars)) ⟨gb, 1, none⟩ (.slice YA yn yd)) w.heap.size w.heap.size (.slice YA yn yd) sy (f.cls ++ eqTo xs ys (i + 1))) := (EO1.out.far (p := ⟨gb, 0, none⟩) RO1.out (by decide) (by decide) (by show _ ≤ gb; omega) _).far (p := ⟨gb, 1, none⟩) Z1 (by decide) (by decide) (by show _ ≤ gb; omega) _
          clear Z1 RO1 RZ1 BW1 EO1 e0 e1 el ef0 ef1
          revert RO2 RZ2 BW2 EO2
          generalize (World.setCell (World.setCell w11 ⟨gb, 0, none⟩ (.int .i64 f.vars)) ⟨gb, 1, none⟩ (.slice YA yn yd)) = w12
          intro RO2 RZ2 BW2 EO2
          go_wp2
          go_roundg (n - (i + 1))
          case measure => omega
          case rel => exact ⟨i + 1, _, _, by omega, by omega, by go_num, BW2.out, RZ2.out, RO2.out, EO2.out⟩
        · go_simp
          have ROe : Hid (Row (World.alloc wQ (.cells #[.int .i64 x, .int .i64 (-y)] 3)) gb 30 [.int .i64 f.vars, .slice XA xn xc]) := ROd.out.alloc _
          have RZe : Hid (Row (World.alloc wQ (.cells #[.int .i64 x, .int .i64 (-y)] 3)) (w.heap.size + 1) 30 [.int .i64 0, .slice none 0 0]) := RZd.out.alloc _
          have BWe : Hid (Below w.heap.size w (World.alloc wQ (.cells #[.int .i64 x, .int .i64 (-y)] 3))) := BWd.out.alloc BWd.out.size _
          have EOe : Hid (EOwn (World.alloc wQ (.cells #[.int .i64 x, .int .i64 (-y)] 3)) w.heap.size w.heap.size (.slice XA xn xc) sl2 (f.cls ++ eqTo xs ys i)) := EOd.out.up BWd.out.size ((Below.refl _ _).alloc (Nat.le_refl _) _)
          have CXe : Hid ((World.alloc wQ (.cells #[.int .i64 x, .int .i64 (-y)] 3)).cell? (ad.add i) = some (.int .i64 x)) := (World.cell?_alloc_lt _ _ _ (by rw [add_block]; exact hbxd.out.1)).trans CXd.out
          have CYe : Hid ((World.alloc wQ (.cells #[.int .i64 x, .int .i64 (-y)] 3)).cell? (ae.add i) = some (.int .i64 y)) := (World.cell?_alloc_lt _ _ _ (by rw [add_block]; exact hbxd.out.2)).trans CYd.out
          have Rg2e : Hid (Row (World.alloc wQ (.cells #[.int .i64 x, .int .i64 (-y)] 3)) wQ.heap.size 3 [.int .i64 x, .int .i64 (-y)]) := Row.new wQ 3 [.int .i64 x, .int .i64 (-y)]
          have hbxe : Hid (ad.block < (World.alloc wQ (.cells #[.int .i64 x, .int .i64 (-y)] 3)).heap.size ∧ ae.block < (World.alloc wQ (.cells #[.int .i64 x, .int .i64 (-y)] 3)).heap.size) := (by have := hbxd.out; rw [World.size_alloc]; show _ ∧ _; omega)
          have hg2 : w.heap.size ≤ wQ.heap.size := BWd.out.size
          clear hHeld ROd RZd BWd EOd CXd CYd hbxd
          revert ROe RZe BWe EOe CXe CYe Rg2e hbxe hg2
          generalize (World.alloc wQ (.cells #[.int .i64 x, .int .i64 (-y)] 3)) = w8
          generalize wQ.heap.size = g2
          intro ROe RZe BWe EOe CXe CYe Rg2e hbxe hg2
          have ROd := ROe
          have RZd := RZe
          have BWd := BWe
          have EOd := EOe
          have CXd := CXe
          have CYd := CYe
          have Rg2d := Rg2e
          have hbxd := hbxe
          clear ROe RZe BWe EOe CXe CYe Rg2e hbxe
          refine hK.out _ _ (fun _ => ?keep) (fun hHeld => ?_)
          case keep => exact ⟨ROd.out, CXd.out, CYd.out⟩
          have hHeld := hHeld rfl
          clear hK K
          try go_simp
          refine restL_one (i := 10) (by kernel_rfl) rfl (fun K hK => ?_)
          go_simp
          have ROe : Hid (Row (World.alloc w8 (.cells #[.int .i64 (-x), .int .i64 y] 3)) gb 30 [.int .i64 f.vars, .slice XA xn xc]) := ROd.out.alloc _
          have RZe : Hid (Row (World.alloc w8 (.cells #[.int .i64 (-x), .int .i64 y] 3)) (w.heap.size + 1) 30 [.int .i64 0, .slice none 0 0]) := RZd.out.alloc _
          have BWe : Hid (Below w.heap.size w (World.alloc w8 (.cells #[.int .i64 (-x), .int .i64 y] 3))) := BWd.out.alloc BWd.out.size _
          have EOe : Hid (EOwn (World.alloc w8 (.cells #[.int .i64 (-x), .int .i64 y] 3)) w.heap.size w.heap.size (.slice XA xn xc) sl2 (f.cls ++ eqTo xs ys i)) := EOd.out.up BWd.out.size ((Below.refl _ _).alloc (Nat.le_refl _) _)
          have CXe : Hid ((World.alloc w8 (.cells #[.int .i64 (-x), .int .i64 y] 3)).cell? (ad.add i) = some (.int .i64 x)) := (World.cell?_alloc_lt _ _ _ (by rw [add_block]; exact hbxd.out.1)).trans CXd.out
          have CYe : Hid ((World.alloc w8 (.cells #[.int .i64 (-x), .int .i64 y] 3)).cell? (ae.add i) = some (.int .i64 y)) := (World.cell?_alloc_lt _ _ _ (by rw [add_block]; exact hbxd.out.2)).trans CYd.out
          have Rg1e : Hid (Row (World.alloc w8 (.cells #[.int .i64 (-x), .int .i64 y] 3)) w8.heap.size 3 [.int .i64 (-x), .int .i64 y]) := Row.new w8 3 [.int .i64 (-x), .int .i64 y]
          have hbxe : Hid (ad.block < (World.alloc w8 (.cells #[.int .i64 (-x), .int .i64 y] 3)).heap.size ∧ ae.block < (World.alloc w8 (.cells #[.int .i64 (-x), .int .i64 y] 3)).heap.size) := (by have := hbxd.out; rw [World.size_alloc]; show _ ∧ _; omega)
          have hg1 : w.heap.size ≤ w8.heap.size := BWd.out.size
          have Rg2e : Hid (Row (World.alloc w8 (.cells #[.int .i64 (-x), .int .i64 y] 3)) g2 3 [.int .i64 x, .int .i64 (-y)]) := Rg2d.out.alloc _
          clear hHeld ROd RZd BWd EOd CXd CYd hbxd Rg2d
          revert ROe RZe BWe EOe CXe CYe Rg1e hbxe hg1 Rg2e
          generalize (World.alloc w8 (.cells #[.int .i64 (-x), .int .i64 y] 3)) = w9
          generalize w8.heap.size = g1
          intro ROe RZe BWe EOe CXe CYe Rg1e hbxe hg1 Rg2e
          have ROd := ROe
          have RZd := RZe
          have BWd := BWe
          have EOd := EOe
          have CXd := CXe
          have CYd := CYe
          have Rg1d := Rg1e
          have hbxd := hbxe
          have Rg2d := Rg2e
          clear ROe RZe BWe EOe CXe CYe Rg1e hbxe Rg2e
          refine hK.out _ _ (fun _ => ?keep) (fun hHeld => ?_)
          case keep => exact ⟨ROd.out, CXd.out, CYd.out⟩
          have hHeld := hHeld rfl
          clear hK K
          try go_simp
          refine restL_one (i := 21) (by kernel_rfl) rfl (fun K hK => ?_)
          go_simp
          have ROe : Hid (Row (World.alloc w9 (.cells #[.slice (some ⟨g1, 0, none⟩) 2 2, .slice (some ⟨g2, 0, none⟩) 2 2] 23)) gb 30 [.int .i64 f.vars, .slice XA xn xc]) := ROd.out.alloc _
          have RZe : Hid (Row (World.alloc w9 (.cells #[.slice (some ⟨g1, 0, none⟩) 2 2, .slice (some ⟨g2, 0, none⟩) 2 2] 23)) (w.heap.size + 1) 30 [.int .i64 0, .slice none 0 0]) := RZd.out.alloc _
          have BWe : Hid (Below w.heap.size w (World.alloc w9 (.cells #[.slice (some ⟨g1, 0, none⟩) 2 2, .slice (some ⟨g2, 0, none⟩) 2 2] 23))) := BWd.out.alloc BWd.out.size _
          have EOe : Hid (EOwn (World.alloc w9 (.cells #[.slice (some ⟨g1, 0, none⟩) 2 2, .slice (some ⟨g2, 0, none⟩) 2 2] 23)) w.heap.size w.heap.size (.slice XA xn xc) sl2 (f.cls ++ eqTo xs ys i)) := EOd.out.up BWd.out.size ((Below.refl _ _).alloc (Nat.le_refl _) _)
          have CXe : Hid ((World.alloc w9 (.cells #[.slice (some ⟨g1, 0, none⟩) 2 2, .slice (some ⟨g2, 0, none⟩) 2 2] 23)).cell? (ad.add i) = some (.int .i64 x)) := (World.cell?_alloc_lt _ _ _ (by rw [add_block]; exact hbxd.out.1)).trans CXd.out
          have CYe : Hid ((World.alloc w9 (.cells #[.slice (some ⟨g1, 0, none⟩) 2 2, .slice (some ⟨g2, 0, none⟩) 2 2] 23)).cell? (ae.add i) = some (.int .i64 y)) := (World.cell?_alloc_lt _ _ _ (by rw [add_block]; exact hbxd.out.2)).trans CYd.out
          have Rg1e : Hid (Row (World.alloc w9 (.cells #[.slice (some ⟨g1, 0, none⟩) 2 2, .slice (some ⟨g2, 0, none⟩) 2 2] 23)) g1 3 [.int .i64 (-x), .int .i64 y]) := Rg1d.out.alloc _
          have Rg2e : Hid (Row (World.alloc w9 (.cells #[.slice (some ⟨g1, 0, none⟩) 2 2, .slice (some ⟨g2, 0, none⟩) 2 2] 23)) g2 3 [.int .i64 x, .int .i64 (-y)]) := Rg2d.out.alloc _
          have Rgoe : Hid (Row (World.alloc w9 (.cells #[.slice (some ⟨g1, 0, none⟩) 2 2, .slice (some ⟨g2, 0, none⟩) 2 2] 23)) w9.heap.size 23 [.slice (some ⟨g1, 0, none⟩) 2 2, .slice (some ⟨g2, 0, none⟩) 2 2]) := Row.new w9 23 [.slice (some ⟨g1, 0, none⟩) 2 2, .slice (some ⟨g2, 0, none⟩) 2 2]
          clear hHeld ROd RZd BWd EOd CXd CYd hbxd Rg1d Rg2d
          revert ROe RZe BWe EOe CXe CYe Rg1e Rg2e Rgoe
          generalize (World.alloc w9 (.cells #[.slice (some ⟨g1, 0, none⟩) 2 2, .slice (some ⟨g2, 0, none⟩) 2 2] 23)) = w10
          generalize w9.heap.size = go
          intro ROe RZe BWe EOe CXe CYe Rg1e Rg2e Rgoe
          have ROd := ROe
          have RZd := RZe
          have BWd := BWe
          have EOd := EOe
          have CXd := CXe
          have CYd := CYe
          have Rg1d := Rg1e
          have Rg2d := Rg2e
          have Rgod := Rgoe
          clear ROe RZe BWe EOe CXe CYe Rg1e Rg2e Rgoe
          have hszw := BWd.out.size
          refine hK.out _ _ (fun _ => ?keep) (fun hHeld => ?_)
          case keep => exact ⟨ROd.out, CXd.out, CYd.out⟩
          have hHeld := hHeld rfl
          clear hK K
          try go_simp
          refine restL_one (i := 22) (by kernel_rfl) rfl (fun K hK => ?_)
          go_simp
          go_at_call 36
          have HCT := add_any f.vars XA xn xc w.heap.size w.heap.size sl2 (f.cls ++ eqTo xs ys i) (some ⟨go, 0, none⟩) 2 2 [⟨some ⟨g1, 0, none⟩, 2, 2⟩, ⟨some ⟨g2, 0, none⟩, 2, 2⟩] [[-x, y], [x, -y]] w10 EOd.out HXN.out (Rgod.out.rd rfl) rfl (fun j hj => by
            have hc : j = 0 ∨ j = 1 := by simp at hj; omega
            rcases hc with rfl | rfl
            · exact ⟨.inr ⟨g1, hg1, rfl, rfl, Rg1d.out⟩, by show 2 ≤ maxLen; unfold maxLen; omega⟩
            · exact ⟨.inr ⟨g2, hg2, rfl, rfl, Rg2d.out⟩, by show 2 ≤ maxLen; unfold maxLen; omega⟩) hszw (by omega)
          rw [List.append_assoc, ← HFX.out] at HCT
          with_reducible refine HCT.mono ?_
          clear HCT
          rintro e w11 ⟨YA, yn, yd, sy, rfl, hyl, hE, hG, hat⟩
          have EO1 : Hid (EOwn w11 w.heap.size w.heap.size (.slice YA yn yd) sy (f.cls ++ eqTo xs ys (i + 1))) := hE
          have RO1 : Hid (Row w11 gb 30 [.int .i64 f.vars, .slice XA xn xc]) := ROd.out.grown hG (fun e => own_ne_row EOd.out.own ROd.out (by decide) e.symm)
          have RZ1 : Hid (Row w11 (w.heap.size + 1) 30 [.int .i64 0, .slice none 0 0]) := RZd.out.grown hG (fun e => own_ne_row EOd.out.own RZd.out (by decide) e.symm)
          have BW1 : Hid (Below w.heap.size w w11) := BWd.out.grown hG hszw (fun q hq => (EOd.out.own.lt q hq).1)
          clear hyl hE hG hat ROd RZd BWd EOd CXd CYd Rg1d Rg2d Rgod hHeld
          have e0 := RO1.out.cell 0
          have e1 := RO1.out.cell 1
          have el := RO1.out.lt
          simp only [List.getElem?_cons_zero, List.getElem?_cons_succ] at e0 e1
          have ef0 := RO1.out.frozen 0
          have ef1 := RO1.out.frozen 1
          refine hK.out _ _ (fun h => absurd h (by decide)) (fun _ => ?_)
          clear hK K
          try go_simp
          refine restL_one (i := 23) (by kernel_rfl) rfl (fun K hK => ?_)
          go_simp
          refine hK.out _ _ (fun h => absurd h (by decide)) (fun _ => ?_)
          clear hK K
          try go_simp
          refine restL_done (by kernel_rfl) ?_ _
          have Z1 := RO1.out.set 0 (.int .i64 f.vars)
          have RO2 : Hid (Row (World.setCell (World.setCell w11 ⟨gb, 0, none⟩ (.int .i64 f.vars)) ⟨gb, 1, none⟩ (.slice YA yn yd)) gb 30 [.int .i64 f.vars, .slice YA yn yd]) := Z1.set 1 _
          have RZ2 : Hid (Row (World.setCell (World.setCell w11 ⟨gb, 0, none⟩ (.int .i64 f.vars)) ⟨gb, 1, none⟩ (.slice YA yn yd)) (w.heap.size + 1) 30 [.int .i64 0, .slice none 0 0]) := (RZ1.out.far (p := ⟨gb, 0, none⟩) (by show w.heap.size + 1 ≠ gb; omega) _).far (p := ⟨gb, 1, none⟩) (by show w.heap.size + 1 ≠ gb; omega) _
          have BW2 : Hid (Below w.heap.size w (World.setCell (World.setCell w11 ⟨gb, 0, none⟩ (.int .i64 f.vars)) ⟨gb, 1, none⟩ (.slice YA yn yd))) := (BW1.out.setCell (p := ⟨gb, 0, none⟩) (by show _ ≤ gb; omega) _).setCell (p := ⟨gb, 1, none⟩) (by show _ ≤ gb; omega) _
          have EO2 : Hid (EOwn (World.setCell (World.setCell w11 ⟨gb, 0, none⟩ (.int .i64 f.vars)) ⟨gb, 1, none⟩ (.slice YA yn yd)) w.heap.size w.heap.size (.slice YA yn yd) sy (f.cls ++ eqTo xs ys (i + 1))) := (EO1.out.far (p := ⟨gb, 0, none⟩) RO1.out (by decide) (by decide) (by show _ ≤ gb; omega) _).far (p := ⟨gb, 1, none⟩) Z1 (by decide) (by decide) (by show _ ≤ gb; omega) _
          clear Z1 RO1 RZ1 BW1 EO1 e0 e1 el ef0 ef1
          revert RO2 RZ2 BW2 EO2
          generalize (World.setCell (World.setCell w11 ⟨gb, 0, none⟩ (.int .i64 f.vars)) ⟨gb, 1, none⟩ (.slice YA yn yd)) = w12
          intro RO2 RZ2 BW2 EO2
          go_wp2
          go_roundg (n - (i + 1))
          case measure => omega
          case rel => exact ⟨i + 1, _, _, by omega, by omega, by go_num, BW2.out, RZ2.out, RO2.out, EO2.out⟩
      · have hltz : ¬ (i : Int) < (n : Int) := by omega
        obtain rfl : n = i := by omega
        have HKF : Hid ((eqF f xs ys).cls = f.cls ++ eqTo xs ys n) := (by show _ = _; unfold eqF; rw [HLX.out])
        rw [← HKF.out] at EO HXN
        have e0 := RO.out.cell 0
        have e1 := RO.out.cell 1
        have el := RO.out.lt
        simp only [List.getElem?_cons_zero, List.getElem?_cons_succ] at e0 e1
        go_wp2_with fail
        have HCT := eFits_any f.vars XA xn xc wr (by unfold maxLen; omega)
        have RZ0 : Hid (Row wr (w.heap.size + 1) 30 [.int .i64 0, .slice none 0 0]) := RZ.out
        have EO0 : Hid (EOwn wr w.heap.size w.heap.size (.slice XA xn xc) sl2 (eqF f xs ys).cls) := EO.out
        have BW0 : Hid (Below w.heap.size w wr) := BW.out
        clear RZ EO BW RO e0 e1 el
        by_cases hft : f.vars ≤ 65536 ∧ xn ≤ 262144
        · have HCE : Hid (eqR f xs ys = eqF f xs ys ∧ eqErr f xs ys = 0) := eqGood HOK.out (by
            unfold fitsErr; rw [if_pos]; show f.vars ≤ 65536 ∧ (eqF f xs ys).cls.length ≤ 262144; rw [HXN.out]; exact hft)
          rw [if_pos hft, if_pos hft] at HCT
          clear hft
          with_reducible refine HCT.mono ?_
          clear HCT
          rintro e w6 ⟨rfl, hG⟩
          have hb := grown_bel hG
          have RZ9 : Hid (Row w6 (w.heap.size + 1) 30 [.int .i64 0, .slice none 0 0]) := rowCells RZ0.out hb
          have EO9 : Hid (EOwn w6 w.heap.size w.heap.size (.slice XA xn xc) sl2 (eqF f xs ys).cls) := EO0.out.up BW0.out.size hb
          have BW9 : Hid (Below w.heap.size w w6) := below_on2 BW0.out hb
          have HRES : Hid (FmlPost (eqR f xs ys) (eqErr f xs ys) w (.returned (.tuple #[.agg #[.int .i64 f.vars, .slice XA xn xc], .int .i64 0])) (World.setCell (World.setCell w6 ⟨w.heap.size + 1, 0, none⟩ (.int .i64 f.vars)) ⟨w.heap.size + 1, 1, none⟩ (.slice XA xn xc))) := by
            have Z1 := RZ9.out.set 0 (.int .i64 f.vars)
            obtain ⟨q1, q2⟩ := HCE.out
            show FmlPost _ _ _ _ _
            rw [q1, q2]
            have hB := (BW9.out.setCell (p := ⟨w.heap.size + 1, 0, none⟩) (by show _ ≤ w.heap.size + 1; omega) (.int .i64 f.vars)).setCell (p := ⟨w.heap.size + 1, 1, none⟩) (by show _ ≤ w.heap.size + 1; omega) (.slice XA xn xc)
            refine ⟨XA, xn, xc, sl2, rfl, ?_, hB⟩
            exact ((EO9.out.far (p := ⟨w.heap.size + 1, 0, none⟩) RZ9.out (by decide) (by decide) (by show _ ≤ w.heap.size + 1; omega) (.int .i64 f.vars)).far (p := ⟨w.heap.size + 1, 1, none⟩) Z1 (by decide) (by decide) (by show _ ≤ w.heap.size + 1; omega) (.slice XA xn xc)).fat hB.size HXN.out (by unfold maxLen; omega)
          have Z9 := (RZ9.out.set 0 (.int .i64 f.vars)).set 1 (.slice XA xn xc)
          have q0 := Z9.cell 0
          have q1 := Z9.cell 1
          simp only [List.getElem?_cons_zero, List.getElem?_cons_succ, List.set_cons_zero, List.set_cons_succ] at q0 q1
          clear Z9 EO9 BW9 hb hG
          have d0 := RZ9.out.cell 0
          have d1 := RZ9.out.cell 1
          have dl := RZ9.out.lt
          simp only [List.getElem?_cons_zero, List.getElem?_cons_succ] at d0 d1
          have df0 := RZ9.out.frozen 0
          have df1 := RZ9.out.frozen 1
          clear RZ9
          go_wp2
          refine bodyPost_ret (v := .tuple #[.agg #[.int .i64 f.vars, .slice XA xn xc], .int .i64 0]) (by simp [results, Try.results20, go_sem, q0, q1]) rfl ?_
          exact HRES.out
        · have HCE : Hid (eqR f xs ys = noFml ∧ eqErr f xs ys = 6) := eqBig HOK.out (by
            unfold fitsErr; rw [if_neg]; show ¬ (f.vars ≤ 65536 ∧ (eqF f xs ys).cls.length ≤ 262144); rw [HXN.out]; exact hft)
          rw [if_neg hft, if_neg hft] at HCT
          clear hft
          with_reducible refine HCT.mono ?_
          clear HCT
          rintro e w6 ⟨rfl, hG⟩
          have hb := grown_bel hG
          have RZ6 : Hid (Row w6 (w.heap.size + 1) 30 [.int .i64 0, .slice none 0 0]) := rowCells RZ0.out hb
          have BB : Below w.heap.size w w6 := below_on2 BW0.out hb
          clear hb hG RZ0 EO0 BW0
          have d0 := RZ6.out.cell 0
          have d1 := RZ6.out.cell 1
          have dl := RZ6.out.lt
          simp only [List.getElem?_cons_zero, List.getElem?_cons_succ] at d0 d1
          have df0 := RZ6.out.frozen 0
          have df1 := RZ6.out.frozen 1
          go_wp2
          exact bodyPost_ret (v := .tuple #[.agg #[.int .i64 0, .slice none 0 0], .int .i64 6]) (by simp [results, Try.results20, go_sem, d0, d1]) rfl (fmlPost_err HCE.out.1 HCE.out.2 (by go_grown))
end Go.Proofs.Ytofflkfkakddkaa
