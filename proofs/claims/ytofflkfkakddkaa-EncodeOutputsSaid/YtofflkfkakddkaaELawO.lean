/-
  EncodeOutputs, walked.
-/
import Derived.Test.YtofflkfkakddkaaELawV
namespace Go.Proofs.Ytofflkfkakddkaa
open Go.RowKit
set_option linter.unusedSimpArgs false
set_option linter.unusedVariables false
theorem down_wires (n k w : Nat) (h : w < n + k) : 1 ≤ (wiresV n (down1 n) k).getD w 0 ∧ (wiresV n (down1 n) k).getD w 0 ≤ (n : Int) + k := by
  rw [wires_down _ _ h]
  split <;> omega
theorem fix_small {f : Fml} {n k : Nat} {ins : List Bool} (hr : rightF f = true) (hv : f.vars = (n : Int) + (k : Int)) (hl : f.cls.length ≤ 800) (hn : n ≤ 20) (hk : k ≤ 200) (hi : ins.length = n) :
    fixOk f (down1 n) ins = true ∧ fitsErr (fixF f (down1 n) ins) = 0 ∧ rightF (fixF f (down1 n) ins) = true ∧ (fixF f (down1 n) ins).cls.length ≤ 900 := by
  have hlen : (fixF f (down1 n) ins).cls.length ≤ 900 := by
    unfold fixF; rw [List.length_append, fixTo_length, down1_length]; omega
  have hvs : (fixF f (down1 n) ins).vars = (n : Int) + (k : Int) := hv
  refine ⟨?_, ?_, ?_, hlen⟩
  · unfold fixOk
    rw [hr, decide_eq_true (by rw [down1_length, hi]), hv, varsOk_down1]; rfl
  · unfold fitsErr
    rw [if_pos ⟨by rw [hvs]; omega, by omega⟩]
  · unfold rightF sizesF
    rw [Bool.and_eq_true, decide_eq_true_eq]
    refine ⟨⟨by rw [hvs]; omega, by rw [hvs]; omega, by omega⟩, ?_⟩
    have h2 : f.cls.all (fun c => c.all (litOk f.vars)) = true := by
      unfold rightF at hr
      rw [Bool.and_eq_true] at hr
      exact hr.2
    show (f.cls ++ fixTo (down1 n) ins (down1 n).length).all (fun c => c.all (litOk f.vars)) = true
    rw [List.all_append, h2, Bool.true_and, List.all_eq_true]
    intro x hx
    simp only [fixTo, List.mem_map, List.mem_range, down1_length] at hx
    obtain ⟨i, hi', rfl⟩ := hx
    rw [down1_getD _ _ hi', hv]
    have h1 : litOk ((n : Int) + (k : Int)) ((n : Int) - i) = true := decide_eq_true (by omega)
    have h3 : litOk ((n : Int) + (k : Int)) (-((n : Int) - i)) = true := decide_eq_true (by omega)
    split <;> simp [h1, h3]
theorem outs_all {c : Circ} {n : Nat} {ins : List Bool} (hi : ins.length = n) (hok : ∀ i, i < c.gates.length → gateOk ((n : Int) + i) (c.gates.getD i default) = true) :
    holdsL (fixF (placeF ⟨(n : Int), []⟩ c (down1 n)) (down1 n) ins).cls (allB c.gates ins) = true := by
  have e : (fixF (placeF ⟨(n : Int), []⟩ c (down1 n)) (down1 n) ins).cls = placeTo n (down1 n) c.gates c.gates.length ++ fixTo (down1 n) ins n := by
    unfold fixF placeF
    simp [down1_length]
  rw [e, holdsL_append, outs_hold hi hok, fix_hold hi]; rfl
theorem own_tail {w : World} {base n k vc : Nat} {A : Option Addr} {xs : List Bool} (h : w.ownsRow base 4 1 (.slice A (n + k) vc) (n + k) (bools xs)) :
    Rd w w.heap.size 1 (if vc = n then A else A.map (·.add (n * 1))) k (bools (xs.drop n)) := by
  have hl : xs.length = n + k := by have := h.1; rw [bools_length, Nat.mul_one] at this; exact this
  by_cases hk : k = 0
  · subst hk
    rw [List.drop_of_length_le (by omega)]
    exact Rd.empty _
  · obtain ⟨_, h2⟩ := id h
    rcases h2 with h2 | ⟨g, cap, ys, hv, hb, hh, hc, _⟩
    · obtain ⟨g, cap, hv, _⟩ := h.form (by omega)
      have := h2.1
      omega
    · injection hv with hA _ hcap
      subst hA hcap
      rw [if_neg (by omega)]
      refine ⟨by rw [bools_length, List.length_drop]; omega, fun _ => ⟨_, rfl, ?_, fun j u hu => ?_⟩⟩
      · rw [add_block]
        exact heap_lt hh
      · obtain ⟨ad, e, _, hcell⟩ := (Rd.of_own h).2 (by omega)
        injection e with e
        subst e
        rw [add_add', Nat.mul_one]
        refine hcell (n + j) u ?_
        rw [← hu]
        simp [bools, List.getElem?_map, List.getElem?_drop]
theorem run_slice_from {P : Program} (W : World) (t e : TypeId) (ht : P.underlying t = some (.slice e)) (hz : ∀ w, (Go.sizeOf e).run P w = .ok 1 w) (a : Option Addr) (len cap l : Nat) (hl : l ≤ len) :
    (Instr.slice t (.slice a len cap) (some (.int .i64 (l : Int))) none none).run P W = .ok (.slice (if cap = l then a else a.map (·.add (l * 1))) (len - l) (cap - l)) W := by
  have ht' : P.underlying t = some (.slice (P.elem t)) := by simp [Program.elem, ht]
  have he : P.elem t = e := by simp [Program.elem, ht]
  rw [run_slice_l W t _ _ _ ht' .i64 _ (by omega) (by omega), he, hz]
  simp [Result.andThen, sliced]
theorem placeO_at {V : Int} {c : Circ} {ins : List Int} {gn j : Nat} (hg : c.gates.length = gn) (hj : j < c.outs.length) : (placeO ⟨V, []⟩ c ins).getD j 0 = (wiresV V ins gn).getD (c.outs.getD j 0).toNat 0 := by
  have e : c.outs.getD j 0 = c.outs[j] := by simp [List.getD_eq_getElem?_getD, List.getElem?_eq_getElem hj]
  rw [e]
  unfold placeO
  rw [hg, List.getD_eq_getElem?_getD, List.getElem?_map, List.getElem?_eq_getElem hj]
  rfl
theorem size_boolT (w : World) : (Go.sizeOf 4).run Try.prog w = .ok 1 w := by kernel_rfl
theorem take_down (n j : Nat) (h : j < n) : ints ((down1 n).take (j + 1)) = ints ((down1 n).take j) ++ [.int .i64 ((n : Int) - (j : Int))] := by
  have := take_snoc_getD (down1 n) j (by rw [down1_length]; exact h)
  rw [this, show (down1 n).getD j default = (n : Int) - j from down1_getD n j h]
  simp [ints]
theorem take_rev (bs : List Bool) (j : Nat) (h : j < bs.length) : bools (bs.reverse.take (j + 1)) = bools (bs.reverse.take j) ++ [.bool (bs.getD (bs.length - 1 - j) false)] := by
  have := take_snoc_getD bs.reverse j (by rw [List.length_reverse]; exact h)
  rw [this, show bs.reverse.getD j default = bs.getD (bs.length - 1 - j) false by
    rw [List.getD_eq_getElem?_getD, List.getElem?_reverse h, ← List.getD_eq_getElem?_getD]; rfl]
  simp [bools]
set_option maxRecDepth 100000 in
set_option maxHeartbeats 8000000 in
theorem encodeOutputs_walk (c : Circ) (ins : List Bool) (GA OA IA : Option Addr) (gn gc on oc n ic : Nat) (w : World) (hc : CAt w c GA OA gn on) (hi : Rd w w.heap.size 1 IA n (bools ins)) (hn : n ≤ maxLen) :
    Calls Try.prog 8 #[.agg #[.int .i64 c.inputs, .slice GA gn gc, .slice OA on oc], .slice IA n ic] w fun e w' => e = .returned (.bool true) ∧ Below w.heap.size w w' := by
  have HC : Hid (CAt w c GA OA gn on) := hc
  have HI : Hid (Rd w w.heap.size 1 IA n (bools ins)) := hi
  have HLI : Hid (ins.length = n) := by have := hi.1; rw [bools_length, Nat.mul_one] at this; exact this
  have HLG : Hid (c.gates.length = gn) := hc.gl
  have HLO : Hid (c.outs.length = on) := hc.ol
  have hm1 := hc.g63
  have hm2 := hc.o63
  unfold maxLen at hm1 hm2 hn
  clear hc hi
  go_enter Try.func8, Try.ntmps8
  by_cases hg : gn ≤ 30
  case neg =>
    have hgz : (30 : Int) < (gn : Int) := by omega
    go_wp2_with fail
    have RC : Hid (Row (World.alloc w (.cells #[.int .i64 c.inputs, .slice GA gn gc, .slice OA on oc] 25)) (w.heap.size) 25 [.int .i64 c.inputs, .slice GA gn gc, .slice OA on oc]) := by
      have h0 := Row.new w 25 [.int .i64 c.inputs, .slice GA gn gc, .slice OA on oc]
      try simp only [World.size_alloc] at h0
      exact h0
    have hgr9 : Below w.heap.size w (World.alloc w (.cells #[.int .i64 c.inputs, .slice GA gn gc, .slice OA on oc] 25)) := by go_grown
    have B_w : Hid (Below w.heap.size w (World.alloc w (.cells #[.int .i64 c.inputs, .slice GA gn gc, .slice OA on oc] 25))) := hgr9
    clear hgr9
    revert RC B_w
    generalize (World.alloc w (.cells #[.int .i64 c.inputs, .slice GA gn gc, .slice OA on oc] 25)) = wa
    intro RC B_w
    refine (alive_any wa).mono ?_
    rintro e w9 ⟨rfl, hb⟩
    have HBE : Hid (Below w.heap.size w w9) := below_on2 B_w.out hb
    clear hb
    go_wp2
    go_ret
    exact ⟨rfl, HBE.out⟩
  have hgz : ¬ (30 : Int) < (gn : Int) := by omega
  go_wp2_with fail
  have RC : Hid (Row (World.alloc w (.cells #[.int .i64 c.inputs, .slice GA gn gc, .slice OA on oc] 25)) (w.heap.size) 25 [.int .i64 c.inputs, .slice GA gn gc, .slice OA on oc]) := by
    have h0 := Row.new w 25 [.int .i64 c.inputs, .slice GA gn gc, .slice OA on oc]
    try simp only [World.size_alloc] at h0
    exact h0
  have hgr9 : Below w.heap.size w (World.alloc w (.cells #[.int .i64 c.inputs, .slice GA gn gc, .slice OA on oc] 25)) := by go_grown
  have B_w : Hid (Below w.heap.size w (World.alloc w (.cells #[.int .i64 c.inputs, .slice GA gn gc, .slice OA on oc] 25))) := hgr9
  clear hgr9
  revert RC B_w
  generalize (World.alloc w (.cells #[.int .i64 c.inputs, .slice GA gn gc, .slice OA on oc] 25)) = wa
  intro RC B_w
  refine (rRight_at c GA OA gn gc on oc wa (HC.out.up B_w.out)).mono ?_
  rintro e w1 ⟨rfl, hb⟩
  have B_w : Hid (Below w.heap.size w w1) := below_on2 B_w.out hb
  have B_wa : Hid (Below wa.heap.size wa w1) := hb
  clear hb
  have kR : Hid (Row w1 (w.heap.size) 25 [.int .i64 c.inputs, .slice GA gn gc, .slice OA on oc]) := (rowCells RC.out B_wa.out)
  have k0 := kR.out.cell 0
  have k1 := kR.out.cell 1
  have k2 := kR.out.cell 2
  have kl := kR.out.lt
  simp only [List.getElem?_cons_zero, List.getElem?_cons_succ] at k0 k1 k2
  clear kR
  cases hr : rightC c
  · clear hr
    go_wp2_with fail
    refine (alive_any w1).mono ?_
    rintro e w9 ⟨rfl, hb⟩
    have HBE : Hid (Below w.heap.size w w9) := below_on2 B_w.out hb
    clear hb
    go_wp2
    go_ret
    exact ⟨rfl, HBE.out⟩
  have HR : Hid (rightC c = true) := hr
  obtain ⟨⟨p1, p2, p3, p4⟩, pg, po⟩ := rightC_parts hr
  obtain ⟨inn, hin⟩ : ∃ inn : Nat, c.inputs = (inn : Int) := ⟨c.inputs.toNat, by omega⟩
  have HIN : Hid (c.inputs = (inn : Int)) := hin
  have HPG : Hid (∀ k, k < c.gates.length → gateOk ((inn : Int) + k) (c.gates.getD k default) = true) := (by rw [hin] at pg; exact pg)
  have HPO : Hid (c.outs.all (outOk ((inn : Int) + (gn : Int))) = true) := (by rw [hin, HLG.out] at po; exact po)
  have hin1 : inn ≤ 1000 := by omega
  rw [hin] at k0 ⊢
  clear hr hin p1 p2 p3 p4 pg po
  by_cases h20 : inn ≤ 20
  case neg =>
    have h20z : (20 : Int) < (inn : Int) := by omega
    go_wp2_with fail
    refine (alive_any w1).mono ?_
    rintro e w9 ⟨rfl, hb⟩
    have HBE : Hid (Below w.heap.size w w9) := below_on2 B_w.out hb
    clear hb
    go_wp2
    go_ret
    exact ⟨rfl, HBE.out⟩
  have h20z : ¬ (20 : Int) < (inn : Int) := by omega
  by_cases ho20 : on ≤ 20
  case neg =>
    have ho20z : (20 : Int) < (on : Int) := by omega
    go_wp2_with fail
    refine (alive_any w1).mono ?_
    rintro e w9 ⟨rfl, hb⟩
    have HBE : Hid (Below w.heap.size w w9) := below_on2 B_w.out hb
    clear hb
    go_wp2
    go_ret
    exact ⟨rfl, HBE.out⟩
  have ho20z : ¬ (20 : Int) < (on : Int) := by omega
  by_cases hni : n = inn
  case neg =>
    have hnz : ((n : Int) != (inn : Int)) = true := by rw [bne_iff_ne]; omega
    go_wp2_with fail
    refine (alive_any w1).mono ?_
    rintro e w9 ⟨rfl, hb⟩
    have HBE : Hid (Below w.heap.size w w9) := below_on2 B_w.out hb
    clear hb
    go_wp2
    go_ret
    exact ⟨rfl, HBE.out⟩
  subst hni
  have hnz : ((n : Int) != (n : Int)) = false := by simp
  obtain ⟨s1, s2, s3, s4⟩ := place_small HR.out HIN.out (down1_length n) (by rw [HLG.out]; omega) (fun w h => down_wires _ _ _ h)
  have HVS : Hid ((placeF ⟨(n : Int), []⟩ c (down1 n)).vars = (n : Int) + (gn : Int)) := (by show _ = _; rw [← HLG.out]; rfl)
  have HPK : Hid (placeR ⟨(n : Int), []⟩ c (down1 n) = (placeF ⟨(n : Int), []⟩ c (down1 n)) ∧ placeOuts ⟨(n : Int), []⟩ c (down1 n) = placeO ⟨(n : Int), []⟩ c (down1 n) ∧ placeErr ⟨(n : Int), []⟩ c (down1 n) = 0) := placeGood (place_ok (rightF_nil (by omega) (by omega)) HR.out (down1_length n) HIN.out.symm (by have h9 := varsOk_down1 n 0; simpa using h9)) s2
  have HRF : Hid (rightF (placeF ⟨(n : Int), []⟩ c (down1 n)) = true) := s1
  have hcl8 := s4
  obtain ⟨t1, t2, t3, t4⟩ := fix_small s1 HVS.out s4 h20 (by omega) HLI.out
  have HFK : Hid (fixR (placeF ⟨(n : Int), []⟩ c (down1 n)) (down1 n) ins = (fixF (placeF ⟨(n : Int), []⟩ c (down1 n)) (down1 n) ins) ∧ fixErr (placeF ⟨(n : Int), []⟩ c (down1 n)) (down1 n) ins = 0) := fixGood t1 t2
  have HRG : Hid (rightF (fixF (placeF ⟨(n : Int), []⟩ c (down1 n)) (down1 n) ins) = true) := t3
  have HGV : Hid ((fixF (placeF ⟨(n : Int), []⟩ c (down1 n)) (down1 n) ins).vars = (n : Int) + (gn : Int)) := HVS.out
  clear s1 s2 s3 s4 t1 t2 t3
  have RC1 : Hid (Row w1 w.heap.size 25 [.int .i64 (n : Int), .slice GA gn gc, .slice OA on oc]) := (by have h9 := (show Row w1 _ _ _ from (rowCells RC.out B_wa.out)); rw [HIN.out] at h9; exact h9)
  have kR : Hid (Row w1 (w.heap.size) 25 [.int .i64 (n : Int), .slice GA gn gc, .slice OA on oc]) := RC1.out
  have k0 := kR.out.cell 0
  have k1 := kR.out.cell 1
  have k2 := kR.out.cell 2
  have kl := kR.out.lt
  simp only [List.getElem?_cons_zero, List.getElem?_cons_succ] at k0 k1 k2
  clear kR
  go_wp2
  clear k0 k1 k2 kl
  go_loopg [5, 6] n (fun gg s5 s6 wr => ∃ (j : Nat) (v : Value), j ≤ n ∧ n - j ≤ gg ∧ s6 = .int .i64 ((n : Int) - (j : Int)) ∧ s5 = v ∧ Aside (Below w1.heap.size w1 wr) ∧ Aside (wr.ownsRow w1.heap.size 3 1 v j (ints ((down1 n).take j))))
  case atStart => exact ⟨0, _, Nat.zero_le _, by omega, by go_num, rfl, Below.refl _ _, World.ownsRow_nil _ _ _ _⟩
  case round =>
    obtain ⟨j, v, hj, hgj, rfl, rfl, BN, OW⟩ := hrel
    obtain ⟨XB, xd, rfl, _⟩ := Rd.own OW.out
    by_cases hlj : j < n
    · have hljz : (1 : Int) ≤ (n : Int) - (j : Int) := by omega
      have hb8 := BN.out.size
      go_wp2_with (at_builtin; refine wpList_app rfl (.tmp 50) (.tmp 52) 23 rfl w1.heap.size 3 (.int .i64 0) 1 8 Try.underlying23 int_infoE rfl (by decide) (by decide) (.slice XB j xd) (j) (ints ((down1 n).take j)) rfl ?own (wr.heap.size + 1) (some ⟨wr.heap.size, 0, none⟩) 1 1 [.int .i64 ((n : Int) - (j : Int))] rfl ?rd ?one ?hb ?hbase ?_)
      case own => exact (OW.out).alloc _
      case rd => exact Rd.lit wr #[.int .i64 ((n : Int) - (j : Int))] 3 (sz := 1) (m := 1) rfl
      case one => first | (intro u hu; simp at hu; subst hu; rfl) | rfl
      case hb => omega
      case hbase => first | (simp; omega) | omega
      intro v' w' hown' hgrow' hat'
      have HOn : Hid (w'.ownsRow w1.heap.size 3 1 v' (j + 1) (ints ((down1 n).take (j + 1)))) := (by show World.ownsRow _ _ _ _ _ _ _; rw [take_down n j hlj]; exact hown')
      have HBn : Hid (Below w1.heap.size w1 w') := (BN.out.alloc hb8 _).grown hgrow' (by simp; omega) (fun q hq => (OW.out.lt q hq).1)
      clear hown' hgrow' hat' hb8
      go_wp2
      go_roundg (n - (j + 1))
      case measure => omega
      case rel => exact ⟨j + 1, v', by omega, by omega, by go_num, rfl, HBn.out, HOn.out⟩
    · have hljz : ¬ (1 : Int) ≤ (n : Int) - (j : Int) := by omega
      obtain rfl : n = j := by omega
      have HD : Hid (Rd wr wr.heap.size 1 XB n (ints (down1 n))) := (by have h9 := OW.out; rw [List.take_of_length_le (by rw [down1_length]; omega)] at h9; exact Rd.of_own h9)
      have BNr : Hid (Below w1.heap.size w1 wr) := BN.out
      clear BN OW
      obtain ⟨wo, rfl⟩ : ∃ wo : World, wo = wr := ⟨_, rfl⟩
      have B_w : Hid (Below w.heap.size w wo) := below_on2 B_w.out BNr.out
      have B_wa : Hid (Below wa.heap.size wa wo) := below_on2 B_wa.out BNr.out
      have B_w1 : Hid (Below w1.heap.size w1 wo) := BNr.out
      clear BNr
      have kR : Hid (Row wo (w.heap.size) 25 [.int .i64 (n : Int), .slice GA gn gc, .slice OA on oc]) := (rowCells RC1.out B_w1.out)
      have k0 := kR.out.cell 0
      have k1 := kR.out.cell 1
      have k2 := kR.out.cell 2
      have kl := kR.out.lt
      simp only [List.getElem?_cons_zero, List.getElem?_cons_succ] at k0 k1 k2
      clear kR
      go_wp2_with fail
      have HCT := ePlace_any ⟨(n : Int), []⟩ c (down1 n) none GA OA XB 0 0 gn gc on oc n xd [] wo (nil_at _ _) (HC.out.up B_w.out) HD.out (by unfold maxLen; omega) wo.heap.size (Nat.le_refl _) (fun i hi => absurd hi (Nat.not_lt_zero _))
      rw [HPK.out.1, HPK.out.2.1, HPK.out.2.2, show (⟨(n : Int), []⟩ : Fml).vars = (n : Int) from rfl, HIN.out] at HCT
      with_reducible refine HCT.mono ?_
      clear HCT
      rintro e w2 ⟨XA, xn, xc, sx, QA, qn, qc, rfl, hpl, hE, hO, hqn, hb⟩
      rw [HVS.out]
      have HX : Hid (FAt w2 (placeF ⟨(n : Int), []⟩ c (down1 n)) XA xn sx) := hE.fat hb.size hpl.1 hpl.2
      have HQ : Hid (Rd w2 w2.heap.size 1 QA qn (ints (placeO ⟨(n : Int), []⟩ c (down1 n)))) := Rd.of_own hO
      have hq1 := hO.1
      obtain rfl : on = qn := (by rw [ints_length, Nat.mul_one] at hq1; rw [← HLO.out, ← hq1]; unfold placeO; simp)
      have hxn : xn ≤ 800 := by have h9 := hpl.1; omega
      clear hpl hE hO hqn hq1 hcl8
      have B_w : Hid (Below w.heap.size w w2) := below_on2 B_w.out hb
      have B_wa : Hid (Below wa.heap.size wa w2) := below_on2 B_wa.out hb
      have B_w1 : Hid (Below w1.heap.size w1 w2) := below_on2 B_w1.out hb
      have B_wo : Hid (Below wo.heap.size wo w2) := hb
      clear k0 k1 k2 kl
      clear hb
      go_wp2_with fail
      have RX : Hid (Row (World.alloc w2 (.cells #[.int .i64 ((n : Int) + (gn : Int)), .slice XA xn xc] 30)) (w2.heap.size) 30 [.int .i64 ((n : Int) + (gn : Int)), .slice XA xn xc]) := by
        have h0 := Row.new w2 30 [.int .i64 ((n : Int) + (gn : Int)), .slice XA xn xc]
        try simp only [World.size_alloc] at h0
        exact h0
      have hgr9 : Below w2.heap.size w2 (World.alloc w2 (.cells #[.int .i64 ((n : Int) + (gn : Int)), .slice XA xn xc] 30)) := by go_grown
      have B_w : Hid (Below w.heap.size w (World.alloc w2 (.cells #[.int .i64 ((n : Int) + (gn : Int)), .slice XA xn xc] 30))) := below_on2 B_w.out hgr9
      have B_wa : Hid (Below wa.heap.size wa (World.alloc w2 (.cells #[.int .i64 ((n : Int) + (gn : Int)), .slice XA xn xc] 30))) := below_on2 B_wa.out hgr9
      have B_w1 : Hid (Below w1.heap.size w1 (World.alloc w2 (.cells #[.int .i64 ((n : Int) + (gn : Int)), .slice XA xn xc] 30))) := below_on2 B_w1.out hgr9
      have B_wo : Hid (Below wo.heap.size wo (World.alloc w2 (.cells #[.int .i64 ((n : Int) + (gn : Int)), .slice XA xn xc] 30))) := below_on2 B_wo.out hgr9
      have B_w2 : Hid (Below w2.heap.size w2 (World.alloc w2 (.cells #[.int .i64 ((n : Int) + (gn : Int)), .slice XA xn xc] 30))) := hgr9
      clear hgr9
      revert RX B_w B_wa B_w1 B_wo B_w2
      generalize (World.alloc w2 (.cells #[.int .i64 ((n : Int) + (gn : Int)), .slice XA xn xc] 30)) = wb
      intro RX B_w B_wa B_w1 B_wo B_w2
      have HCT := eFix_any (placeF ⟨(n : Int), []⟩ c (down1 n)) (down1 n) ins XA XB IA xn xc n xd n ic sx wb (HX.out.up B_w2.out) (HD.out.up B_wo.out) (HI.out.up B_w.out) (by omega) (by omega) (by unfold maxLen; omega)
      rw [HFK.out.1, HFK.out.2, HVS.out] at HCT
      with_reducible refine HCT.mono ?_
      clear HCT
      rintro e w3 ⟨YA, yn, yc, sy, rfl, hfa, hb⟩
      rw [HGV.out]
      have HY : Hid (FAt w3 (fixF (placeF ⟨(n : Int), []⟩ c (down1 n)) (down1 n) ins) YA yn sy) := hfa
      clear hfa
      have B_w : Hid (Below w.heap.size w w3) := below_on2 B_w.out hb
      have B_wa : Hid (Below wa.heap.size wa w3) := below_on2 B_wa.out hb
      have B_w1 : Hid (Below w1.heap.size w1 w3) := below_on2 B_w1.out hb
      have B_wo : Hid (Below wo.heap.size wo w3) := below_on2 B_wo.out hb
      have B_w2 : Hid (Below w2.heap.size w2 w3) := below_on2 B_w2.out hb
      have B_wb : Hid (Below wb.heap.size wb w3) := hb
      clear hb
      have kR : Hid (Row w3 (w.heap.size) 25 [.int .i64 (n : Int), .slice GA gn gc, .slice OA on oc]) := (rowCells RC1.out B_w1.out)
      have k0 := kR.out.cell 0
      have k1 := kR.out.cell 1
      have k2 := kR.out.cell 2
      have kl := kR.out.lt
      simp only [List.getElem?_cons_zero, List.getElem?_cons_succ] at k0 k1 k2
      clear kR
      have hoo : ((on : Int) != (on : Int)) = false := by simp
      go_wp2_with fail
      have RY : Hid (Row (World.alloc w3 (.cells #[.int .i64 ((n : Int) + (gn : Int)), .slice YA yn yc] 30)) (w3.heap.size) 30 [.int .i64 ((n : Int) + (gn : Int)), .slice YA yn yc]) := by
        have h0 := Row.new w3 30 [.int .i64 ((n : Int) + (gn : Int)), .slice YA yn yc]
        try simp only [World.size_alloc] at h0
        exact h0
      have hgr9 : Below w3.heap.size w3 (World.alloc w3 (.cells #[.int .i64 ((n : Int) + (gn : Int)), .slice YA yn yc] 30)) := by go_grown
      have B_w : Hid (Below w.heap.size w (World.alloc w3 (.cells #[.int .i64 ((n : Int) + (gn : Int)), .slice YA yn yc] 30))) := below_on2 B_w.out hgr9
      have B_wa : Hid (Below wa.heap.size wa (World.alloc w3 (.cells #[.int .i64 ((n : Int) + (gn : Int)), .slice YA yn yc] 30))) := below_on2 B_wa.out hgr9
      have B_w1 : Hid (Below w1.heap.size w1 (World.alloc w3 (.cells #[.int .i64 ((n : Int) + (gn : Int)), .slice YA yn yc] 30))) := below_on2 B_w1.out hgr9
      have B_wo : Hid (Below wo.heap.size wo (World.alloc w3 (.cells #[.int .i64 ((n : Int) + (gn : Int)), .slice YA yn yc] 30))) := below_on2 B_wo.out hgr9
      have B_w2 : Hid (Below w2.heap.size w2 (World.alloc w3 (.cells #[.int .i64 ((n : Int) + (gn : Int)), .slice YA yn yc] 30))) := below_on2 B_w2.out hgr9
      have B_wb : Hid (Below wb.heap.size wb (World.alloc w3 (.cells #[.int .i64 ((n : Int) + (gn : Int)), .slice YA yn yc] 30))) := below_on2 B_wb.out hgr9
      have B_w3 : Hid (Below w3.heap.size w3 (World.alloc w3 (.cells #[.int .i64 ((n : Int) + (gn : Int)), .slice YA yn yc] 30))) := hgr9
      clear hgr9
      clear k0 k1 k2 kl
      revert RY B_w B_wa B_w1 B_wo B_w2 B_wb B_w3
      generalize (World.alloc w3 (.cells #[.int .i64 ((n : Int) + (gn : Int)), .slice YA yn yc] 30)) = wc
      intro RY B_w B_wa B_w1 B_wo B_w2 B_wb B_w3
      with_reducible refine (rValues_any n GA OA IA gn gc on oc ic c.gates ins wc (HC.out.up B_w.out).gates (HI.out.up B_w.out) hin1 (by omega) HPG.out).mono ?_
      rintro e w4 ⟨v, rfl, hO, hb⟩
      obtain ⟨VA, vc, rfl, _⟩ := Rd.own hO
      have HVL : Hid (Rd w4 w4.heap.size 1 VA (n + gn) (bools (runG evalB false c.gates ins))) := Rd.of_own hO
      have HVT : Hid (Rd w4 w4.heap.size 1 (if vc = n then VA else VA.map (·.add (n * 1))) gn (bools ((runG evalB false c.gates ins).drop n))) := own_tail hO
      clear hO
      have B_w : Hid (Below w.heap.size w w4) := below_on2 B_w.out hb
      have B_wa : Hid (Below wa.heap.size wa w4) := below_on2 B_wa.out hb
      have B_w1 : Hid (Below w1.heap.size w1 w4) := below_on2 B_w1.out hb
      have B_wo : Hid (Below wo.heap.size wo w4) := below_on2 B_wo.out hb
      have B_w2 : Hid (Below w2.heap.size w2 w4) := below_on2 B_w2.out hb
      have B_wb : Hid (Below wb.heap.size wb w4) := below_on2 B_wb.out hb
      have B_w3 : Hid (Below w3.heap.size w3 w4) := below_on2 B_w3.out hb
      have B_wc : Hid (Below wc.heap.size wc w4) := hb
      clear hb
      have C_w := B_w
      have C_wa := B_wa
      have C_w1 := B_w1
      have C_wo := B_wo
      have C_w2 := B_w2
      have C_wb := B_wb
      have C_w3 := B_w3
      have C_wc := B_wc
      go_wp2
      go_loopg [13, 14, 90] n (fun gg s13 _ s90 wr => ∃ (j : Nat) (v : Value), j ≤ n ∧ n - j ≤ gg ∧ s90 = .int .i64 (j : Int) ∧ s13 = v ∧ Aside (Below w4.heap.size w4 wr) ∧ Aside (wr.ownsRow w4.heap.size 4 1 v j (bools (ins.reverse.take j))))
      case atStart => exact ⟨0, _, Nat.zero_le _, by omega, rfl, rfl, Below.refl _ _, World.ownsRow_nil _ _ _ _⟩
      case round =>
        obtain ⟨j, v, hj, hgj, rfl, rfl, BN, OW⟩ := hrel
        obtain ⟨ZB, zd, rfl, _⟩ := Rd.own OW.out
        by_cases hlj : j < n
        · have hljz : (j : Int) < (n : Int) := by omega
          have hb8 := BN.out.size
          have BW9 : Hid (Below w.heap.size w wr) := below_on2 B_w.out BN.out
          obtain ⟨ie, rfl, hib, hic⟩ := (HI.out.up BW9.out).bool (k := n - 1 - j) (by omega)
          have HTR : Hid (bools (ins.reverse.take (j + 1)) = bools (ins.reverse.take j) ++ [.bool (ins.getD (n - 1 - j) false)]) := (by have h9 := take_rev ins j (by rw [HLI.out]; exact hlj); rw [HLI.out] at h9; exact h9)
          generalize ins.getD (n - 1 - j) false = b at hic HTR
          have hq3 : (0 : Int) ≤ (n : Int) - 1 - (j : Int) := by omega
          have hq5 : ((n : Int) - 1 - (j : Int)).toNat = n - 1 - j := by omega
          go_wp2_with (at_builtin; refine wpList_app rfl (.tmp 93) (.tmp 102) 40 rfl w4.heap.size 4 (.bool false) 1 1 Try.underlying40 bool_info rfl (by decide) (by decide) (.slice ZB j zd) (j) (bools (ins.reverse.take j)) rfl ?own (wr.heap.size + 1) (some ⟨wr.heap.size, 0, none⟩) 1 1 [.bool b] rfl ?rd ?one ?hb ?hbase ?_)
          case own => exact (OW.out).alloc _
          case rd => exact Rd.lit wr #[.bool b] 4 (sz := 1) (m := 1) rfl
          case one => first | (intro u hu; simp at hu; subst hu; rfl) | rfl
          case hb => omega
          case hbase => first | (simp; omega) | omega
          intro v' w' hown' hgrow' hat'
          have HOn : Hid (w'.ownsRow w4.heap.size 4 1 v' (j + 1) (bools (ins.reverse.take (j + 1)))) := (by show World.ownsRow _ _ _ _ _ _ _; rw [HTR.out]; exact hown')
          have HBn : Hid (Below w4.heap.size w4 w') := (BN.out.alloc hb8 _).grown hgrow' (by simp; omega) (fun q hq => (OW.out.lt q hq).1)
          clear hown' hgrow' hat' hb8
          go_wp2
          go_roundg (n - (j + 1))
          case measure => omega
          case rel => exact ⟨j + 1, v', by omega, by omega, by go_num, rfl, HBn.out, HOn.out⟩
        · have hljz : ¬ (j : Int) < (n : Int) := by omega
          obtain rfl : n = j := by omega
          have HRV : Hid (wr.ownsRow w4.heap.size 4 1 (.slice ZB n zd) n (bools ins.reverse)) := (by have h9 := OW.out; rw [List.take_of_length_le (by rw [List.length_reverse, HLI.out]; omega)] at h9; exact h9)
          have RCr : Hid (Row wr w.heap.size 25 [.int .i64 (n : Int), .slice GA gn gc, .slice OA on oc]) := rowCells (rowCells RC1.out B_w1.out) BN.out
          obtain ⟨SA, hSA⟩ : ∃ SA, SA = (if vc = n then VA else VA.map (·.add (n * 1))) := ⟨_, rfl⟩
          have HVS2 : Hid (Rd wr wr.heap.size 1 SA gn (bools ((runG evalB false c.gates ins).drop n))) := (by rw [hSA]; exact HVT.out.up BN.out)
          have hsl : ∀ W : World, (Instr.slice 40 (.slice VA (n + gn) vc) (some (.int .i64 (n : Int))) none none).run Try.prog W = .ok (.slice SA gn (vc - n)) W := fun W => by
            have h9 := run_slice_from (P := Try.prog) W 40 4 Try.underlying40 size_boolT VA (n + gn) vc n (by omega)
            rw [← hSA, show n + gn - n = gn by omega] at h9
            exact h9
          have hb8 := BN.out.size
          have HBN : Hid (Below w4.heap.size w4 wr) := BN.out
          clear hSA OW BN
          have k0 := RCr.out.cell 0
          have k1 := RCr.out.cell 1
          have k2 := RCr.out.cell 2
          have kl := RCr.out.lt
          simp only [List.getElem?_cons_zero, List.getElem?_cons_succ] at k0 k1 k2
          go_wp2_with (at_builtin; refine wpList_app rfl (.tmp 105) (.tmp 109) 40 rfl w4.heap.size 4 (.bool false) 1 1 Try.underlying40 bool_info rfl (by decide) (by decide) (.slice ZB n zd) n (bools ins.reverse) rfl ?own wr.heap.size SA gn (vc - n) (bools ((runG evalB false c.gates ins).drop n)) rfl ?rd (bools_one _) ?hb ?hbase ?_)
          case own => exact HRV.out
          case rd => exact HVS2.out
          case hb => omega
          intro v' w5 hown' hgrow' hat'
          obtain ⟨AA, ac, rfl, _⟩ := Rd.own hown'
          have HAL : Hid (Rd w5 w5.heap.size 1 AA (n + gn) (bools (allB c.gates ins))) := (by
            have e : bools (allB c.gates ins) = bools ins.reverse ++ bools ((runG evalB false c.gates ins).drop n) := by unfold allB; rw [HLI.out]; simp [bools]
            show Rd _ _ _ _ _ _
            rw [e]; exact Rd.of_own hown')
          have hb : Below w4.heap.size w4 w5 := HBN.out.grown hgrow' hb8 (fun q hq => (HRV.out.lt q hq).1)
          clear hown' hgrow' hat' HRV HVS2 hsl hb8 HBN RCr k0 k1 k2 kl
          have B_w : Hid (Below w.heap.size w w5) := below_on2 C_w.out hb
          have B_wa : Hid (Below wa.heap.size wa w5) := below_on2 C_wa.out hb
          have B_w1 : Hid (Below w1.heap.size w1 w5) := below_on2 C_w1.out hb
          have B_wo : Hid (Below wo.heap.size wo w5) := below_on2 C_wo.out hb
          have B_w2 : Hid (Below w2.heap.size w2 w5) := below_on2 C_w2.out hb
          have B_wb : Hid (Below wb.heap.size wb w5) := below_on2 C_wb.out hb
          have B_w3 : Hid (Below w3.heap.size w3 w5) := below_on2 C_w3.out hb
          have B_wc : Hid (Below wc.heap.size wc w5) := below_on2 C_wc.out hb
          have B_w4 : Hid (Below w4.heap.size w4 w5) := hb
          clear C_w C_wa C_w1 C_wo C_w2 C_wb C_w3 C_wc
          clear hb
          have kR : Hid (Row w5 (w3.heap.size) 30 [.int .i64 ((n : Int) + (gn : Int)), .slice YA yn yc]) := (rowCells RY.out B_wc.out)
          have k0 := kR.out.cell 0
          have k1 := kR.out.cell 1
          have kl := kR.out.lt
          simp only [List.getElem?_cons_zero, List.getElem?_cons_succ] at k0 k1
          clear kR
          go_wp2_with fail
          have HCT := holds_any (fixF (placeF ⟨(n : Int), []⟩ c (down1 n)) (down1 n) ins) (allB c.gates ins) YA AA yn yc (n + gn) ac sy w5 (HY.out.up B_w3.out) HAL.out (by unfold maxLen; omega) HRG.out
          rw [HGV.out, outs_all HLI.out HPG.out] at HCT
          with_reducible refine HCT.mono ?_
          clear HCT
          rintro e w6 ⟨rfl, hb⟩
          have B_w : Hid (Below w.heap.size w w6) := below_on2 B_w.out hb
          have B_wa : Hid (Below wa.heap.size wa w6) := below_on2 B_wa.out hb
          have B_w1 : Hid (Below w1.heap.size w1 w6) := below_on2 B_w1.out hb
          have B_wo : Hid (Below wo.heap.size wo w6) := below_on2 B_wo.out hb
          have B_w2 : Hid (Below w2.heap.size w2 w6) := below_on2 B_w2.out hb
          have B_wb : Hid (Below wb.heap.size wb w6) := below_on2 B_wb.out hb
          have B_w3 : Hid (Below w3.heap.size w3 w6) := below_on2 B_w3.out hb
          have B_wc : Hid (Below wc.heap.size wc w6) := below_on2 B_wc.out hb
          have B_w4 : Hid (Below w4.heap.size w4 w6) := below_on2 B_w4.out hb
          have B_w5 : Hid (Below w5.heap.size w5 w6) := hb
          clear k0 k1 kl
          clear hb
          go_wp2
          go_loopg [15, 117] on (fun gg _ s117 wr => ∃ (j : Nat), j ≤ on ∧ on - j ≤ gg ∧ s117 = .int .i64 (j : Int) ∧ Aside (Below w6.heap.size w6 wr))
          case atStart => exact ⟨0, Nat.zero_le _, by omega, rfl, Below.refl _ _⟩
          case round =>
            obtain ⟨j, hj, hgj, rfl, BN⟩ := hrel
            have BNr : Hid (Below w6.heap.size w6 wr) := BN.out
            clear BN
            have B_w : Hid (Below w.heap.size w wr) := below_on2 B_w.out BNr.out
            have B_wa : Hid (Below wa.heap.size wa wr) := below_on2 B_wa.out BNr.out
            have B_w1 : Hid (Below w1.heap.size w1 wr) := below_on2 B_w1.out BNr.out
            have B_wo : Hid (Below wo.heap.size wo wr) := below_on2 B_wo.out BNr.out
            have B_w2 : Hid (Below w2.heap.size w2 wr) := below_on2 B_w2.out BNr.out
            have B_wb : Hid (Below wb.heap.size wb wr) := below_on2 B_wb.out BNr.out
            have B_w3 : Hid (Below w3.heap.size w3 wr) := below_on2 B_w3.out BNr.out
            have B_wc : Hid (Below wc.heap.size wc wr) := below_on2 B_wc.out BNr.out
            have B_w4 : Hid (Below w4.heap.size w4 wr) := below_on2 B_w4.out BNr.out
            have B_w5 : Hid (Below w5.heap.size w5 wr) := below_on2 B_w5.out BNr.out
            have B_w6 : Hid (Below w6.heap.size w6 wr) := BNr.out
            clear BNr
            by_cases hlj : j < on
            · have hljz : (j : Int) < (on : Int) := by omega
              have kR : Hid (Row wr (w.heap.size) 25 [.int .i64 (n : Int), .slice GA gn gc, .slice OA on oc]) := (rowCells RC1.out B_w1.out)
              have k0 := kR.out.cell 0
              have k1 := kR.out.cell 1
              have k2 := kR.out.cell 2
              have kl := kR.out.lt
              simp only [List.getElem?_cons_zero, List.getElem?_cons_succ] at k0 k1 k2
              clear kR
              obtain ⟨oe, rfl, hob, hoc⟩ := (CAt.outs (HC.out.up B_w.out)).int hlj
              obtain ⟨o1, o2⟩ := outOk_at HPO.out (k := j) (by rw [HLO.out]; exact hlj)
              obtain ⟨qe, rfl, hqb, hqc⟩ := (HQ.out.up B_w2.out).int hlj
              have hpo : (placeO ⟨(n : Int), []⟩ c (down1 n)).getD j 0 = (wiresV n (down1 n) gn).getD (c.outs.getD j 0).toNat 0 := placeO_at HLG.out (by rw [HLO.out]; exact hlj)
              rw [hpo] at hqc
              generalize c.outs.getD j 0 = o at hoc o1 o2 hqc
              obtain ⟨on', rfl⟩ : ∃ on' : Nat, o = (on' : Int) := ⟨o.toNat, by omega⟩
              rw [Int.toNat_natCast] at hqc
              have hdv := down_val (gs := c.gates) HLI.out on' (by rw [HLG.out]; omega)
              rw [HLG.out] at hdv
              obtain ⟨⟨d1, d2⟩, d3⟩ := hdv
              generalize (wiresV n (down1 n) gn).getD on' 0 = z at hqc d1 d2 d3
              obtain ⟨q, rfl⟩ : ∃ q : Nat, z = (q : Int) + 1 := ⟨(z - 1).toNat, by omega⟩
              rw [show ((q : Int) + 1 - 1).toNat = q by omega] at d3
              obtain ⟨ae, rfl, hab, hac⟩ := (HAL.out.up B_w5.out).bool (k := q) (by omega)
              obtain ⟨ve, rfl, hvb, hvc⟩ := (HVL.out.up B_w4.out).bool (k := on') (by omega)
              rw [d3] at hac
              generalize (runG evalB false c.gates ins).getD on' false = b at hac hvc
              have hd1 : decide ((q : Int) + 1 < 1) = false := decide_eq_false (by omega)
              have hd2 : decide ((n : Int) + (gn : Int) < (q : Int) + 1) = false := decide_eq_false (by omega)
              have hq9 : q < n + gn := by omega
              have hon9 : on' < n + gn := by omega
              clear d1 d2 d3 hpo o1 o2
              go_wp2_with fail
              go_quiet (fail)
              go_wp2
              go_roundg (on - (j + 1))
              case measure => omega
              case rel => exact ⟨j + 1, by omega, by omega, by go_num, below_drewN B_w6.out _⟩
            · have hljz : ¬ (j : Int) < (on : Int) := by omega
              go_wp2_with fail
              refine (alive_any wr).mono ?_
              rintro e w9 ⟨rfl, hb⟩
              have HBE : Hid (Below w.heap.size w w9) := below_on2 B_w.out hb
              clear hb
              go_wp2
              go_ret
              exact ⟨rfl, HBE.out⟩
end Go.Proofs.Ytofflkfkakddkaa
