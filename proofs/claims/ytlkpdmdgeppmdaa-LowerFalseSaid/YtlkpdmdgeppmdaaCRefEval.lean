/-
  The reference's Eval, walked.
-/
import Derived.Test.YtlkpdmdgeppmdaaCRefVals
namespace Go.Proofs.Ytlkpdmdgeppmdaa
open Go.RowKit
set_option linter.unusedSimpArgs false
set_option linter.unusedVariables false

theorem rRight_at (c : Circ) (GA OA : Option Addr) (gn gc on oc : Nat) (w : World) (h : CAt w c GA OA gn on) :
    Calls Try.prog 31 #[.agg #[.int .i64 c.inputs, .slice GA gn gc, .slice OA on oc]] w fun e w' => e = .returned (.bool (rightC c)) ∧ Below w.heap.size w w' :=
  rRight_any c.inputs GA OA gn gc on oc c.gates c.outs w h.gates h.outs h.g63 h.o63

set_option maxHeartbeats 400000 in
theorem rEval_bad (c : Circ) (GA OA IA : Option Addr) (gn gc on oc n ic : Nat) (w : World) (h : CAt w c GA OA gn on) (hn : n ≤ maxLen) (hbad : okC c n = false) :
    Calls Try.prog 20 #[.agg #[.int .i64 c.inputs, .slice GA gn gc, .slice OA on oc], .slice IA n ic] w fun e w' => e = .returned (.tuple #[.slice none 0 0, .int .i64 2]) ∧ Below w.heap.size w w' := by
  unfold maxLen at hn
  have H : Hid (CAt w c GA OA gn on) := h
  clear h
  cases hr : rightC c
  · clear hbad
    go_enter Try.func20, Try.ntmps20
    go_wp2_with fail
    refine (rRight_at c GA OA gn gc on oc _ (H.out.up (by go_grown))).mono ?_
    rw [hr]
    rintro e w1 ⟨rfl, hb⟩
    have B1 : Below w.heap.size w w1 := (show Below w.heap.size w _ by go_grown).trans (hb.mono (by simp))
    go_wp2
    go_ret2
    exact ⟨rfl, B1⟩
  · have hne : ((n : Int) != c.inputs) = true := by simp [okC, hr] at hbad; simpa using hbad
    clear hbad
    go_enter Try.func20, Try.ntmps20
    go_wp2_with fail
    refine (rRight_at c GA OA gn gc on oc _ (H.out.up (by go_grown))).mono ?_
    rw [hr]
    rintro e w1 ⟨rfl, hb⟩
    have B1 : Below w.heap.size w w1 := (show Below w.heap.size w _ by go_grown).trans (hb.mono (by simp))
    have c0 : w1.cell? ⟨w.heap.size, 0, none⟩ = some (.int .i64 c.inputs) := (hb.cell (p := ⟨w.heap.size, 0, none⟩) (by simp)).trans (by go_cell)
    go_wp2
    go_ret2
    exact ⟨rfl, B1⟩

theorem bools_snoc (bs : List Bool) (b : Bool) : bools (bs ++ [b]) = bools bs ++ [.bool b] := by simp [bools]

set_option maxHeartbeats 1000000 in
theorem rEval_ok (c : Circ) (GA OA IA : Option Addr) (gn gc on oc n ic : Nat) (ins : List Bool) (w : World) (h : CAt w c GA OA gn on) (hI : Rd w w.heap.size 1 IA n (bools ins)) (hok : okC c n = true) :
    Calls Try.prog 20 #[.agg #[.int .i64 c.inputs, .slice GA gn gc, .slice OA on oc], .slice IA n ic] w fun e w' =>
      ∃ v, e = .returned (.tuple #[v, .int .i64 0]) ∧ w'.ownsRow w.heap.size 4 1 v on (bools (outsG evalB false c ins)) ∧ Below w.heap.size w w' := by
  have H : Hid (CAt w c GA OA gn on) := h
  have HI : Hid (Rd w w.heap.size 1 IA n (bools ins)) := hI
  simp only [okC, Bool.and_eq_true, decide_eq_true_eq] at hok
  obtain ⟨hr, hn⟩ := hok
  obtain ⟨⟨h0, h1, h2, h3⟩, hg, ho⟩ := rightC_parts hr
  rw [h.gl] at h2 ho
  rw [h.ol] at h3
  obtain ⟨inp, gs, os⟩ := c
  dsimp only at hn h0 h1 hg ho
  subst hn
  have HR : Hid (rightC ⟨(n : Int), gs, os⟩ = true) := hr
  have LO : Hid (os.length = on) := h.ol
  have LI : Hid (ins.length = n) := by have := hI.1; simp at this; show _ = _; omega
  have HGK : Hid (∀ k, k < gs.length → gateOk ((n : Int) + k) (gs.getD k default) = true) := hg
  have HOK : Hid (os.all (outOk ((n : Int) + gn)) = true) := ho
  have LG : Hid (gs.length = gn) := h.gl
  clear h hI hr hg ho
  go_enter Try.func20, Try.ntmps20
  go_wp2_with fail
  refine (rRight_at ⟨(n : Int), gs, os⟩ GA OA gn gc on oc _ (H.out.up (by go_grown))).mono ?_
  rw [HR.out]
  rintro e w1 ⟨rfl, hb⟩
  have B1 : Below w.heap.size w w1 := (show Below w.heap.size w _ by go_grown).trans (hb.mono (by simp))
  have c0 : w1.cell? ⟨w.heap.size, 0, none⟩ = some (.int .i64 n) := (hb.cell (p := ⟨w.heap.size, 0, none⟩) (by simp)).trans (by go_cell)
  have c1 : w1.cell? ⟨w.heap.size, 1, none⟩ = some (.slice GA gn gc) := (hb.cell (p := ⟨w.heap.size, 1, none⟩) (by simp)).trans (by go_cell)
  have c2 : w1.cell? ⟨w.heap.size, 2, none⟩ = some (.slice OA on oc) := (hb.cell (p := ⟨w.heap.size, 2, none⟩) (by simp)).trans (by go_cell)
  have hz1 : w.heap.size < w1.heap.size := by have := hb.size; simp at this; omega
  clear hb
  go_wp2_with fail
  refine (rValues_any n GA OA IA gn gc on oc ic gs ins _ (H.out.up B1).gates (HI.out.up B1) (by omega) h2 HGK.out).mono ?_
  rintro e w2 ⟨v, rfl, hrow, hb⟩
  have B2 : Below w.heap.size w w2 := B1.trans (hb.mono B1.size)
  have d2 : w2.cell? ⟨w.heap.size, 2, none⟩ = some (.slice OA on oc) := (hb.cell (p := ⟨w.heap.size, 2, none⟩) (by show w.heap.size < _; omega)).trans c2
  have hz2 : w.heap.size < w2.heap.size := by have := hb.size; omega
  have HROW : Hid (w2.ownsRow w1.heap.size 4 1 v (n + gn) (bools (runG evalB false gs ins))) := hrow
  have HB2 : Hid (Below w.heap.size w w2) := B2
  clear hb B1 c0 c1 c2 hz1 hrow B2
  go_wp2
  go_loopg [7, 8] on (fun gg s7 s8 wr => ∃ kk : Nat, kk ≤ on ∧ on - kk ≤ gg ∧ s8 = .int .i64 kk ∧ Aside (Below (w2.heap.size) w2 wr) ∧ Aside (wr.ownsRow w2.heap.size 4 1 s7 kk (bools ((os.take kk).map fun o => (runG evalB false gs ins).getD o.toNat false))))
  case atStart => exact ⟨0, Nat.zero_le _, by omega, rfl, Below.refl _ _, World.ownsRow_nil _ _ _ _⟩
  case round =>
    obtain ⟨kk, hkk, hgg, rfl, BW, OWN⟩ := hrel
    have e2 : wr.cell? ⟨w.heap.size, 2, none⟩ = some (.slice OA on oc) := (BW.out.cell (p := ⟨w.heap.size, 2, none⟩) hz2).trans d2
    have hsz : w2.heap.size ≤ wr.heap.size := BW.out.size
    by_cases hlt : kk < on
    · have hltz : (kk : Int) < (on : Int) := by omega
      have B3 : Below w.heap.size w wr := HB2.out.trans (BW.out.mono (by omega))
      obtain ⟨ad, rfl, hb, hcell⟩ := ((H.out.up B3).outs).int hlt
      obtain ⟨ho1, ho2⟩ := outOk_at HOK.out (k := kk) (by rw [LO.out]; exact hlt)
      have HT : Aside _ := map_take_snoc (fun o => (runG evalB false gs ins).getD o.toNat false) os kk (by rw [LO.out]; exact hlt)
      generalize os.getD kk 0 = o at hcell ho1 ho2 HT
      generalize (os.take kk).map (fun o => (runG evalB false gs ins).getD o.toNat false) = xs at OWN HT
      obtain ⟨on', rfl⟩ : ∃ m : Nat, o = (m : Int) := ⟨o.toNat, by omega⟩
      have hon : on' < n + gn := by omega
      clear ho1 ho2 B3
      have HL : Aside ((runG evalB false gs ins).length = n + gn) := by show _ = _; rw [runG_length, LI.out, LG.out]
      obtain ⟨gv, cap, hve, hgv, hgl⟩ := HROW.out.form (by omega)
      have hv : wr.cell? ⟨gv, on', none⟩ = some (.bool ((runG evalB false gs ins).getD on' false)) := by
        have hr := HROW.out
        rw [hve] at hr
        exact (BW.out.cell (p := ⟨gv, on', none⟩) hgl).trans ((hr.cellAt on' (by omega)).trans (bools_get _ on' (by rw [HL.out]; exact hon)))
      generalize hx : (runG evalB false gs ins).getD on' false = x at hv
      have HX : Aside ((runG evalB false gs ins).getD on' false = x) := hx
      clear hx
      subst hve
      go_wp2_with (at_builtin; refine wpList_app rfl (.tmp 29) (.tmp 38) 27 rfl w2.heap.size 4 (.bool false) 1 1 Try.underlying27 bool_info rfl (by decide) (by decide) u7 kk (bools xs) rfl ?own (wr.heap.size + 1) (some ⟨wr.heap.size, 0, none⟩) 1 1 [.bool x] rfl ?rd ?one ?hb ?hbase ?_)
      case own => exact OWN.out.alloc _
      case rd => exact Rd.lit wr #[.bool x] 4 (sz := 1) (m := 1) rfl
      case one => intro u hu; simp at hu; subst hu; rfl
      case hb => omega
      case hbase => simp; omega
      intro v' w' hown' hgrow' hat'
      have BB := BW.out
      have B3 : Below w2.heap.size w2 (wr.alloc (.cells #[.bool x] 4)) := by go_grown
      have HB4 : Aside (Below w2.heap.size w2 w') := B3.grown hgrow' (by simp; omega) (fun k hk => (OWN.out.lt k hk).1)
      have HOWN' : Aside (w'.ownsRow w2.heap.size 4 1 v' (kk + 1) (bools (xs ++ [x]))) := by
        show w'.ownsRow _ _ _ _ _ _
        rw [bools_snoc]
        exact hown'
      clear B3 BB hown' hgrow' hat'
      go_wp2
      go_roundg (on - (kk + 1))
      case measure => omega
      case rel =>
        refine ⟨kk + 1, by omega, by omega, by go_num, HB4.out, ?_⟩
        show World.ownsRow _ _ _ _ _ _ _
        rw [HT.out]
        simp only [Int.toNat_natCast]
        rw [HX.out]
        exact HOWN'.out
    · have hltz : ¬ (kk : Int) < (on : Int) := by omega
      obtain rfl : kk = on := by omega
      go_wp2
      go_ret2
      refine ⟨u7, rfl, ?_, HB2.out.trans (BW.out.mono HB2.out.size)⟩
      have := OWN.out
      rw [← LO.out, List.take_length] at this
      rw [← LO.out]
      exact ⟨this.1, this.2.imp id (fun ⟨g, cap, cur, a, b, c⟩ => ⟨g, cap, cur, a, Nat.le_trans HB2.out.size b, c⟩)⟩
end Go.Proofs.Ytlkpdmdgeppmdaa
