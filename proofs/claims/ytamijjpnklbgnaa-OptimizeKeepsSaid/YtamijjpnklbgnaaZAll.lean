/-
  All of package optimize, walked.
-/
import Derived.Test.YtamijjpnklbgnaaZTrim
import Derived.Test.YtamijjpnklbgnaaZShare
import Derived.Test.YtamijjpnklbgnaaCSame
namespace Go.Proofs.Ytamijjpnklbgnaa
open Go.RowKit
set_option linter.unusedSimpArgs false
set_option linter.unusedVariables false
/-- A list does not lie in block b. -/
def NotIn (A : Option Addr) (n b : Nat) : Prop := ∀ ad, A = some ad → 0 < n → ad.block ≠ b
theorem same_at (c d : Circ) (GA OA GB OB : Option Addr) (gn gc on oc hn hc pn pc : Nat) (w : World) (h : CAt w c GA OA gn on) (k : CAt w d GB OB hn pn) :
    Calls Try.prog 21 #[.agg #[.int .i64 c.inputs, .slice GA gn gc, .slice OA on oc], .agg #[.int .i64 d.inputs, .slice GB hn hc, .slice OB pn pc]] w fun e w' => e = .returned (.bool (sameC c d)) ∧ Below w.heap.size w w' :=
  same_any c.inputs d.inputs GA OA GB OB gn gc on oc hn hc pn pc c.gates d.gates c.outs d.outs w h.gates h.outs h.g63 h.o63 k.gates k.outs k.g63 k.o63
/-- A list lies where another one lies, or from block lo + 2 on. -/
def OldNew (A : Option Addr) (n : Nat) (GA : Option Addr) (gn lo : Nat) : Prop := ∀ ad, A = some ad → 0 < n → (∃ ad', GA = some ad' ∧ 0 < gn ∧ ad'.block = ad.block) ∨ lo + 2 ≤ ad.block
theorem OldNew.self (A : Option Addr) (n lo : Nat) : OldNew A n A n lo := fun ad e hn => .inl ⟨ad, e, hn, rfl⟩
theorem OldNew.notIn {A GA : Option Addr} {n gn lo b : Nat} (h : OldNew A n GA gn lo) (hg : NotIn GA gn b) (hb : b < lo + 2) : NotIn A n b := fun ad e hn => by
  rcases h ad e hn with ⟨ad', e', hn', e2⟩ | h2
  · rw [← e2]; exact hg ad' e' hn'
  · omega
set_option maxRecDepth 100000 in
set_option maxHeartbeats 8000000 in
theorem allF_any (c : Circ) (GA OA : Option Addr) (gn gc on oc : Nat) (w : World) (hc : CAt w c GA OA gn on) :
    Calls Try.prog 18 #[.agg #[.int .i64 c.inputs, .slice GA gn gc, .slice OA on oc]] w fun e w' => ∃ A B n k m j, e = .returned (.agg #[.int .i64 (allC c).inputs, .slice A n k, .slice B m j]) ∧ CAt w' (allC c) A B n m ∧ OldNew A n GA gn w.heap.size ∧ OldNew B m OA on w.heap.size ∧ Below w.heap.size w w' := by
  have HC0 : Hid (CAt w c GA OA gn on) := hc
  clear hc
  go_enter Try.func18, Try.ntmps18
  go_wp2_with fail
  have RC : Hid (Row (World.alloc (World.alloc w (.cells #[.int .i64 c.inputs, .slice GA gn gc, .slice OA on oc] 25)) (.cells #[.int .i64 0, .slice none 0 0, .slice none 0 0] 25)) (w.heap.size) 25 [.int .i64 c.inputs, .slice GA gn gc, .slice OA on oc]) := by
    have h0 := Row.new w 25 [.int .i64 c.inputs, .slice GA gn gc, .slice OA on oc]
    try simp only [World.size_alloc] at h0
    exact (h0.alloc _)
  have RR : Hid (Row (World.alloc (World.alloc w (.cells #[.int .i64 c.inputs, .slice GA gn gc, .slice OA on oc] 25)) (.cells #[.int .i64 0, .slice none 0 0, .slice none 0 0] 25)) (w.heap.size + 1) 25 [.int .i64 0, .slice none 0 0, .slice none 0 0]) := by
    have h0 := Row.new (World.alloc w (.cells #[.int .i64 c.inputs, .slice GA gn gc, .slice OA on oc] 25)) 25 [.int .i64 0, .slice none 0 0, .slice none 0 0]
    try simp only [World.size_alloc] at h0
    exact h0
  have hgr9 : Below w.heap.size w (World.alloc (World.alloc w (.cells #[.int .i64 c.inputs, .slice GA gn gc, .slice OA on oc] 25)) (.cells #[.int .i64 0, .slice none 0 0, .slice none 0 0] 25)) := by go_grown
  have B_w : Hid (Below w.heap.size w (World.alloc (World.alloc w (.cells #[.int .i64 c.inputs, .slice GA gn gc, .slice OA on oc] 25)) (.cells #[.int .i64 0, .slice none 0 0, .slice none 0 0] 25))) := hgr9
  clear hgr9
  revert RC RR B_w
  generalize (World.alloc (World.alloc w (.cells #[.int .i64 c.inputs, .slice GA gn gc, .slice OA on oc] 25)) (.cells #[.int .i64 0, .slice none 0 0, .slice none 0 0] 25)) = wa
  intro RC RR B_w
  have hwa : w.heap.size + 1 < wa.heap.size := RR.out.lt
  obtain ⟨q, hq⟩ : ∃ q, rightC c = q := ⟨_, rfl⟩
  have HQ : Hid (∀ _ : Unit, rightC c = q) := fun _ => hq
  have HC := cright_at c GA OA gn gc on oc wa (HC0.out.up B_w.out)
  rw [hq] at HC
  clear hq
  refine HC.mono ?_
  clear HC
  rintro e w1 ⟨rfl, hb⟩
  have B_w : Hid (Below w.heap.size w w1) := below_on2 B_w.out hb
  have B_wa : Hid (Below wa.heap.size wa w1) := hb
  clear hb
  have RR1 : Hid (Row w1 (w.heap.size + 1) 25 [.int .i64 0, .slice none 0 0, .slice none 0 0]) := (rowCells RR.out B_wa.out)
  have RC1 : Hid (Row w1 w.heap.size 25 [.int .i64 c.inputs, .slice GA gn gc, .slice OA on oc]) := (rowCells RC.out B_wa.out)
  have BW1 : Hid (Below w.heap.size w w1) := B_w
  clear B_w B_wa RC RR
  cases q
  · skip
    have z0 := RR1.out.cell 0
    have z1 := RR1.out.cell 1
    have z2 := RR1.out.cell 2
    have zl := RR1.out.lt
    simp only [List.getElem?_cons_zero, List.getElem?_cons_succ] at z0 z1 z2
    have zf0 := RR1.out.frozen 0
    have zf1 := RR1.out.frozen 1
    have zf2 := RR1.out.frozen 2
    go_wp2
    have Z9 : Row (World.setCell (World.setCell (World.setCell w1 ⟨(w.heap.size + 1), 0, none⟩ (.int .i64 0)) ⟨(w.heap.size + 1), 1, none⟩ (.slice none 0 0)) ⟨(w.heap.size + 1), 2, none⟩ (.slice none 0 0)) (w.heap.size + 1) 25 [.int .i64 0, .slice none 0 0, .slice none 0 0] := (Row.set (Row.set (Row.set RR1.out 0 (.int .i64 0)) 1 (.slice none 0 0)) 2 (.slice none 0 0))
    have B9 : Below w.heap.size w (World.setCell (World.setCell (World.setCell w1 ⟨(w.heap.size + 1), 0, none⟩ (.int .i64 0)) ⟨(w.heap.size + 1), 1, none⟩ (.slice none 0 0)) ⟨(w.heap.size + 1), 2, none⟩ (.slice none 0 0)) := (Below.setCell (Below.setCell (Below.setCell BW1.out (p := ⟨(w.heap.size + 1), 0, none⟩) (by show _ ≤ (w.heap.size + 1); omega) (.int .i64 0)) (p := ⟨(w.heap.size + 1), 1, none⟩) (by show _ ≤ (w.heap.size + 1); omega) (.slice none 0 0)) (p := ⟨(w.heap.size + 1), 2, none⟩) (by show _ ≤ (w.heap.size + 1); omega) (.slice none 0 0))
    have d0 := Z9.cell 0
    have d1 := Z9.cell 1
    have d2 := Z9.cell 2
    simp only [List.getElem?_cons_zero, List.getElem?_cons_succ] at d0 d1 d2
    clear Z9
    refine bodyPost_ret (v := .agg #[.int .i64 0, .slice none 0 0, .slice none 0 0]) (by simp [results, Try.results18, go_sem, d0, d1, d2]) rfl ?_
    have HV : allC c = noCirc := by unfold allC; rw [if_neg (by rw [HQ.out ()]; decide)]
    rw [HV]
    exact ⟨none, none, 0, 0, 0, 0, rfl, noCirc_at _, fun ad e => (by cases e), fun ad e => (by cases e), B9⟩
  · have HR : Hid (rightC c = true) := HQ.out ()
    have HV : Hid (∀ _ : Unit, allC c = iterC (measC c) c) := fun _ => by rw [allC, if_pos HR.out]
    clear HQ
    go_wp2_with fail
    go_loopg [3] (measC c) (fun gg _ wr => ∃ (m : Nat) (d : Circ) (DA EA : Option Addr) (dn dc en ec : Nat), m ≤ gg ∧ w.heap.size + 1 < wr.heap.size ∧ Aside (rightC d = true ∧ measC d ≤ m) ∧ Aside (∀ _ : Unit, allC c = iterC m d) ∧ Aside (CAt wr d DA EA dn en) ∧ Aside (OldNew DA dn GA gn w.heap.size) ∧ Aside (OldNew EA en OA on w.heap.size) ∧ Aside (Below w.heap.size w wr) ∧ Aside (Row wr w.heap.size 25 [.int .i64 d.inputs, .slice DA dn dc, .slice EA en ec]) ∧ Aside (Row wr (w.heap.size + 1) 25 [.int .i64 0, .slice none 0 0, .slice none 0 0]))
    case atStart =>
      exact ⟨measC c, c, GA, OA, gn, gc, on, oc, Nat.le_refl _, RR1.out.lt, ⟨HR.out, Nat.le_refl _⟩, HV.out, HC0.out.up BW1.out, OldNew.self _ _ _, OldNew.self _ _ _, BW1.out, RC1.out, RR1.out⟩
    case round =>
      clear RC1 RR1 BW1
      obtain ⟨m, d, DA, EA, dn, dc, en, ec, hgg, hsz, HD, HIT, HCD, HN1, HN2, BW, RC, RR⟩ := hrel
      have k0 := RC.out.cell 0
      have k1 := RC.out.cell 1
      have k2 := RC.out.cell 2
      have kl := RC.out.lt
      simp only [List.getElem?_cons_zero, List.getElem?_cons_succ] at k0 k1 k2
      go_wp2_with fail
      clear k0 k1 k2 kl
      refine (fold_any d DA EA dn dc en ec wr HCD.out).mono ?_
      rintro e w2 ⟨FA, FB, FAn, FAc, FBn, FBc, he, hca, hf1, hf2, hb⟩
      have he2 : e = .returned (.agg #[.int .i64 (foldC d).inputs, .slice FA FAn FAc, .slice FB FBn FBc]) := he
      subst he2
      clear he
      have HFA : Hid (CAt w2 (foldC d) FA FB FAn FBn) := hca
      have FFA : Hid (CFrom FA FAn wr.heap.size) := hf1
      have FFB : Hid (CFrom FB FBn wr.heap.size) := hf2
      have hsz_w2 : wr.heap.size ≤ w2.heap.size := hb.size
      clear hca hf1 hf2
      have B_wr : Hid (Below wr.heap.size wr w2) := hb
      clear hb
      go_wp2_with fail
      refine (share_any (foldC d) FA FB FAn FAc FBn FBc w2 HFA.out).mono ?_
      rintro e w3 ⟨SA, SB, SAn, SAc, SBn, SBc, he, hca, hf1, hf2, hb⟩
      have he2 : e = .returned (.agg #[.int .i64 (shareC (foldC d)).inputs, .slice SA SAn SAc, .slice SB SBn SBc]) := he
      subst he2
      clear he
      have HSA : Hid (CAt w3 (shareC (foldC d)) SA SB SAn SBn) := hca
      have FSA : Hid (CFrom SA SAn w2.heap.size) := hf1
      have FSB : Hid (CFrom SB SBn w2.heap.size) := hf2
      have hsz_w3 : w2.heap.size ≤ w3.heap.size := hb.size
      clear hca hf1 hf2
      have B_wr : Hid (Below wr.heap.size wr w3) := below_on2 B_wr.out hb
      have B_w2 : Hid (Below w2.heap.size w2 w3) := hb
      clear hb
      go_wp2_with fail
      refine (trim_any (shareC (foldC d)) SA SB SAn SAc SBn SBc w3 HSA.out).mono ?_
      rintro e w4 ⟨TA, TB, TAn, TAc, TBn, TBc, he, hca, hf1, hf2, hb⟩
      have he2 : e = .returned (.agg #[.int .i64 (trimC (shareC (foldC d))).inputs, .slice TA TAn TAc, .slice TB TBn TBc]) := he
      subst he2
      clear he
      have HTA : Hid (CAt w4 (trimC (shareC (foldC d))) TA TB TAn TBn) := hca
      have FTA : Hid (CFrom TA TAn w3.heap.size) := hf1
      have FTB : Hid (CFrom TB TBn w3.heap.size) := hf2
      have hsz_w4 : w3.heap.size ≤ w4.heap.size := hb.size
      clear hca hf1 hf2
      have B_wr : Hid (Below wr.heap.size wr w4) := below_on2 B_wr.out hb
      have B_w2 : Hid (Below w2.heap.size w2 w4) := below_on2 B_w2.out hb
      have B_w3 : Hid (Below w3.heap.size w3 w4) := hb
      clear hb
      have HTA : Hid (CAt w4 (oneC d) TA TB TAn TBn) := HTA
      have HIN : Hid (∀ _ : Unit, (trimC (shareC (foldC d))).inputs = (oneC d).inputs) := fun _ => rfl
      rw [HIN.out ()]
      have BW4 : Hid (Below w.heap.size w w4) := below_on2 BW.out B_wr.out
      have RC4 : Hid (Row w4 w.heap.size 25 [.int .i64 d.inputs, .slice DA dn dc, .slice EA en ec]) := rowCells RC.out B_wr.out
      have RR4 : Hid (Row w4 (w.heap.size + 1) 25 [.int .i64 0, .slice none 0 0, .slice none 0 0]) := rowCells RR.out B_wr.out
      have HCD4 : Hid (CAt w4 d DA EA dn en) := HCD.out.up B_wr.out
      have hs4 : w.heap.size + 1 < w4.heap.size := RR4.out.lt
      have hwr3 : wr.heap.size ≤ w3.heap.size := by omega
      clear B_wr B_w2 B_w3 RC RR BW HCD HFA FFA FFB HSA FSA FSB HIN
      obtain ⟨q, hq⟩ : ∃ q, sameC (oneC d) d = q := ⟨_, rfl⟩
      have HQ : Hid (∀ _ : Unit, sameC (oneC d) d = q) := fun _ => hq
      clear hq
      have HI2 : Hid (∀ _ : Unit, (oneC d).inputs = (oneC d).inputs) := fun _ => rfl
      go_upto_region 4 with fail
      have RT5 : Hid (Row (World.alloc w4 (.cells #[.int .i64 (oneC d).inputs, .slice TA TAn TAc, .slice TB TBn TBc] 25)) w4.heap.size 25 [.int .i64 (oneC d).inputs, .slice TA TAn TAc, .slice TB TBn TBc]) := Row.new w4 25 [.int .i64 (oneC d).inputs, .slice TA TAn TAc, .slice TB TBn TBc]
      have HCD5 : Hid (CAt (World.alloc w4 (.cells #[.int .i64 (oneC d).inputs, .slice TA TAn TAc, .slice TB TBn TBc] 25)) d DA EA dn en) := HCD4.out.up ((Below.refl _ _).alloc (Nat.le_refl _) _)
      have HT5 : Hid (CAt (World.alloc w4 (.cells #[.int .i64 (oneC d).inputs, .slice TA TAn TAc, .slice TB TBn TBc] 25)) (oneC d) TA TB TAn TBn) := HTA.out.up ((Below.refl _ _).alloc (Nat.le_refl _) _)
      have RC5 : Hid (Row (World.alloc w4 (.cells #[.int .i64 (oneC d).inputs, .slice TA TAn TAc, .slice TB TBn TBc] 25)) w.heap.size 25 [.int .i64 d.inputs, .slice DA dn dc, .slice EA en ec]) := RC4.out.alloc _
      have RR5 : Hid (Row (World.alloc w4 (.cells #[.int .i64 (oneC d).inputs, .slice TA TAn TAc, .slice TB TBn TBc] 25)) (w.heap.size + 1) 25 [.int .i64 0, .slice none 0 0, .slice none 0 0]) := RR4.out.alloc _
      have BW5 : Hid (Below w.heap.size w (World.alloc w4 (.cells #[.int .i64 (oneC d).inputs, .slice TA TAn TAc, .slice TB TBn TBc] 25))) := BW4.out.alloc BW4.out.size _
      clear RC4 RR4 BW4 HCD4 HTA
      revert RT5 HCD5 HT5 RC5 RR5 BW5
      generalize (World.alloc w4 (.cells #[.int .i64 (oneC d).inputs, .slice TA TAn TAc, .slice TB TBn TBc] 25)) = w5
      intro RT5 HCD5 HT5 RC5 RR5 BW5
      have t0 := RT5.out.cell 0
      have t1 := RT5.out.cell 1
      have t2 := RT5.out.cell 2
      have tl := RT5.out.lt
      simp only [List.getElem?_cons_zero, List.getElem?_cons_succ] at t0 t1 t2
      have k0 := RC5.out.cell 0
      have k1 := RC5.out.cell 1
      have k2 := RC5.out.cell 2
      have kl := RC5.out.lt
      simp only [List.getElem?_cons_zero, List.getElem?_cons_succ] at k0 k1 k2
      go_wp2_with fail
      clear t0 t1 t2 tl k0 k1 k2 kl
      have HC := same_at (oneC d) d TA TB DA EA TAn TAc TBn TBc dn dc en ec w5 HT5.out HCD5.out
      rw [HQ.out ()] at HC
      refine HC.mono ?_
      clear HC
      rintro e w6 ⟨rfl, hb⟩
      have RT6 : Hid (Row w6 w4.heap.size 25 [.int .i64 (oneC d).inputs, .slice TA TAn TAc, .slice TB TBn TBc]) := rowCells RT5.out hb
      have HCD6 : Hid (CAt w6 d DA EA dn en) := HCD5.out.up hb
      have HT6 : Hid (CAt w6 (oneC d) TA TB TAn TBn) := HT5.out.up hb
      have RC6 : Hid (Row w6 w.heap.size 25 [.int .i64 d.inputs, .slice DA dn dc, .slice EA en ec]) := rowCells RC5.out hb
      have RR6 : Hid (Row w6 (w.heap.size + 1) 25 [.int .i64 0, .slice none 0 0, .slice none 0 0]) := rowCells RR5.out hb
      have BW6 : Hid (Below w.heap.size w w6) := below_on2 BW5.out hb
      have hs6 : w.heap.size + 1 < w6.heap.size := RR6.out.lt
      clear hb RT5 HCD5 HT5 RC5 RR5 BW5
      cases q
      · obtain ⟨hrd, hmd⟩ := HD.out
        obtain ⟨m', hm1, hm2, hm3⟩ := iter_go hrd hmd (HQ.out ())
        have HIT2 : Hid (∀ _ : Unit, allC c = iterC m' (oneC d)) := fun _ => by rw [HIT.out (), hm3]
        have HD2 : Hid (rightC (oneC d) = true ∧ measC (oneC d) ≤ m') := ⟨one_right hrd, hm2⟩
        clear hrd hmd hm2 hm3
        have t0 := RT6.out.cell 0
        have t1 := RT6.out.cell 1
        have t2 := RT6.out.cell 2
        have tl := RT6.out.lt
        simp only [List.getElem?_cons_zero, List.getElem?_cons_succ] at t0 t1 t2
        have k0 := RC6.out.cell 0
        have k1 := RC6.out.cell 1
        have k2 := RC6.out.cell 2
        have kl := RC6.out.lt
        simp only [List.getElem?_cons_zero, List.getElem?_cons_succ] at k0 k1 k2
        have kf0 := RC6.out.frozen 0
        have kf1 := RC6.out.frozen 1
        have kf2 := RC6.out.frozen 2
        go_wp2_with fail
        go_roundg m'
        case measure => omega
        case rel => exact ⟨m', oneC d, TA, TB, TAn, TAc, TBn, TBc, Nat.le_refl _, by simp only [World.size_setCell]; exact hs6, HD2.out, HIT2.out, (CAt.farSet (CAt.farSet (CAt.farSet HT6.out (p := ⟨w.heap.size, 0, none⟩) (FTA.out.ne (by show w.heap.size < _; omega)) (FTB.out.ne (by show w.heap.size < _; omega)) (.int .i64 (oneC d).inputs)) (p := ⟨w.heap.size, 1, none⟩) (FTA.out.ne (by show w.heap.size < _; omega)) (FTB.out.ne (by show w.heap.size < _; omega)) (.slice TA TAn TAc)) (p := ⟨w.heap.size, 2, none⟩) (FTA.out.ne (by show w.heap.size < _; omega)) (FTB.out.ne (by show w.heap.size < _; omega)) (.slice TB TBn TBc)), fun ad e hn => .inr (Nat.le_trans (by omega) (FTA.out ad e hn)), fun ad e hn => .inr (Nat.le_trans (by omega) (FTB.out ad e hn)), (Below.setCell (Below.setCell (Below.setCell BW6.out (p := ⟨w.heap.size, 0, none⟩) (Nat.le_refl _) (.int .i64 (oneC d).inputs)) (p := ⟨w.heap.size, 1, none⟩) (Nat.le_refl _) (.slice TA TAn TAc)) (p := ⟨w.heap.size, 2, none⟩) (Nat.le_refl _) (.slice TB TBn TBc)), (Row.set (Row.set (Row.set RC6.out 0 (.int .i64 (oneC d).inputs)) 1 (.slice TA TAn TAc)) 2 (.slice TB TBn TBc)), (Row.far (Row.far (Row.far RR6.out (p := ⟨w.heap.size, 0, none⟩) (by show (w.heap.size + 1) ≠ w.heap.size; omega) (.int .i64 (oneC d).inputs)) (p := ⟨w.heap.size, 1, none⟩) (by show (w.heap.size + 1) ≠ w.heap.size; omega) (.slice TA TAn TAc)) (p := ⟨w.heap.size, 2, none⟩) (by show (w.heap.size + 1) ≠ w.heap.size; omega) (.slice TB TBn TBc))⟩
      · have HV2 : Hid (∀ _ : Unit, allC c = d) := fun _ => by rw [HIT.out (), iter_stop (HQ.out ())]
        clear HIT HD HV
        have k0 := RC6.out.cell 0
        have k1 := RC6.out.cell 1
        have k2 := RC6.out.cell 2
        have kl := RC6.out.lt
        simp only [List.getElem?_cons_zero, List.getElem?_cons_succ] at k0 k1 k2
        have z0 := RR6.out.cell 0
        have z1 := RR6.out.cell 1
        have z2 := RR6.out.cell 2
        have zl := RR6.out.lt
        simp only [List.getElem?_cons_zero, List.getElem?_cons_succ] at z0 z1 z2
        have zf0 := RR6.out.frozen 0
        have zf1 := RR6.out.frozen 1
        have zf2 := RR6.out.frozen 2
        go_wp2
        have Z9 : Row (World.setCell (World.setCell (World.setCell w6 ⟨(w.heap.size + 1), 0, none⟩ (.int .i64 d.inputs)) ⟨(w.heap.size + 1), 1, none⟩ (.slice DA dn dc)) ⟨(w.heap.size + 1), 2, none⟩ (.slice EA en ec)) (w.heap.size + 1) 25 [.int .i64 d.inputs, .slice DA dn dc, .slice EA en ec] := (Row.set (Row.set (Row.set RR6.out 0 (.int .i64 d.inputs)) 1 (.slice DA dn dc)) 2 (.slice EA en ec))
        have B9 : Below w.heap.size w (World.setCell (World.setCell (World.setCell w6 ⟨(w.heap.size + 1), 0, none⟩ (.int .i64 d.inputs)) ⟨(w.heap.size + 1), 1, none⟩ (.slice DA dn dc)) ⟨(w.heap.size + 1), 2, none⟩ (.slice EA en ec)) := (Below.setCell (Below.setCell (Below.setCell BW6.out (p := ⟨(w.heap.size + 1), 0, none⟩) (by show _ ≤ (w.heap.size + 1); omega) (.int .i64 d.inputs)) (p := ⟨(w.heap.size + 1), 1, none⟩) (by show _ ≤ (w.heap.size + 1); omega) (.slice DA dn dc)) (p := ⟨(w.heap.size + 1), 2, none⟩) (by show _ ≤ (w.heap.size + 1); omega) (.slice EA en ec))
        have d0 := Z9.cell 0
        have d1 := Z9.cell 1
        have d2 := Z9.cell 2
        simp only [List.getElem?_cons_zero, List.getElem?_cons_succ] at d0 d1 d2
        clear Z9
        refine bodyPost_ret (v := .agg #[.int .i64 d.inputs, .slice DA dn dc, .slice EA en ec]) (by simp [results, Try.results18, go_sem, d0, d1, d2]) rfl ?_
        have HE : allC c = d := HV2.out ()
        rw [HE]
        exact ⟨DA, EA, dn, dc, en, ec, rfl, (CAt.farSet (CAt.farSet (CAt.farSet HCD6.out (p := ⟨(w.heap.size + 1), 0, none⟩) (HN1.out.notIn (HC0.out.gates.low (Nat.le_succ _)) (Nat.lt_succ_self (w.heap.size + 1))) (HN2.out.notIn (HC0.out.outs.low (Nat.le_succ _)) (Nat.lt_succ_self (w.heap.size + 1))) (.int .i64 d.inputs)) (p := ⟨(w.heap.size + 1), 1, none⟩) (HN1.out.notIn (HC0.out.gates.low (Nat.le_succ _)) (Nat.lt_succ_self (w.heap.size + 1))) (HN2.out.notIn (HC0.out.outs.low (Nat.le_succ _)) (Nat.lt_succ_self (w.heap.size + 1))) (.slice DA dn dc)) (p := ⟨(w.heap.size + 1), 2, none⟩) (HN1.out.notIn (HC0.out.gates.low (Nat.le_succ _)) (Nat.lt_succ_self (w.heap.size + 1))) (HN2.out.notIn (HC0.out.outs.low (Nat.le_succ _)) (Nat.lt_succ_self (w.heap.size + 1))) (.slice EA en ec)), HN1.out, HN2.out, B9⟩
theorem all_any (c : Circ) (GA OA : Option Addr) (gn gc on oc : Nat) (w : World) (hc : CAt w c GA OA gn on) :
    Calls Try.prog 18 #[.agg #[.int .i64 c.inputs, .slice GA gn gc, .slice OA on oc]] w (CiPost (allC c) 0 w) :=
  (allF_any c GA OA gn gc on oc w hc).mono fun e w' ⟨A, B, n, k, m, j, he, h1, h2, h3, h4⟩ => ⟨A, B, n, k, m, j, he, h1, fun _ _ _ => Nat.zero_le _, fun _ _ _ => Nat.zero_le _, h4⟩
end Go.Proofs.Ytamijjpnklbgnaa
