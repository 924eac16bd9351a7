/-
  circuit.Words, walked.
-/
import Derived.Test.YthmkcckoeodhnaaCRight
import Derived.Test.YthmkcckoeodhnaaCValues
import Derived.Deep.Light
namespace Go.Proofs.Ythmkcckoeodhnaa
open Go.RowKit
set_option linter.unusedSimpArgs false
set_option linter.unusedVariables false

theorem right_at (c : Circ) (GA OA : Option Addr) (gn gc on oc : Nat) (w : World) (h : CAt w c GA OA gn on) :
    Calls Try.prog 11 #[.agg #[.int .i64 c.inputs, .slice GA gn gc, .slice OA on oc]] w fun e w' => e = .returned (.bool (rightC c)) ∧ Below w.heap.size w w' :=
  right_any c.inputs GA OA gn gc on oc c.gates c.outs w h.gates h.outs h.g63 h.o63

set_option maxHeartbeats 400000 in
theorem words_bad (c : Circ) (GA OA IA : Option Addr) (gn gc on oc n ic : Nat) (w : World) (h : CAt w c GA OA gn on) (hn : n ≤ maxLen) (hbad : okC c n = false) :
    Calls Try.prog 18 #[.agg #[.int .i64 c.inputs, .slice GA gn gc, .slice OA on oc], .slice IA n ic] w fun e w' => e = .returned (.tuple #[.slice none 0 0, .int .i64 2]) ∧ Below w.heap.size w w' := by
  unfold maxLen at hn
  have H : Hid (CAt w c GA OA gn on) := h
  clear h
  cases hr : rightC c
  · clear hbad
    go_enter Try.func18, Try.ntmps18
    go_wp2_with fail
    refine (right_at c GA OA gn gc on oc _ (H.out.up (by go_grown))).mono ?_
    rw [hr]
    rintro e w1 ⟨rfl, hb⟩
    have B1 : Below w.heap.size w w1 := (show Below w.heap.size w _ by go_grown).trans (hb.mono (by simp))
    go_wp2
    go_ret2
    exact ⟨rfl, B1⟩
  · have hne : ((n : Int) != c.inputs) = true := by simp [okC, hr] at hbad; simpa using hbad
    clear hbad
    go_enter Try.func18, Try.ntmps18
    go_wp2_with fail
    refine (right_at c GA OA gn gc on oc _ (H.out.up (by go_grown))).mono ?_
    rw [hr]
    rintro e w1 ⟨rfl, hb⟩
    have B1 : Below w.heap.size w w1 := (show Below w.heap.size w _ by go_grown).trans (hb.mono (by simp))
    have c0 : w1.cell? ⟨w.heap.size, 0, none⟩ = some (.int .i64 c.inputs) := (hb.cell (p := ⟨w.heap.size, 0, none⟩) (by simp)).trans (by go_cell)
    go_wp2
    go_ret2
    exact ⟨rfl, B1⟩

set_option maxHeartbeats 1000000 in
theorem words_ok (c : Circ) (GA OA IA : Option Addr) (gn gc on oc n ic : Nat) (ins : List (BitVec 64)) (w : World) (h : CAt w c GA OA gn on) (hI : Rd w w.heap.size 1 IA n (w64s ins)) (hok : okC c n = true) :
    Calls Try.prog 18 #[.agg #[.int .i64 c.inputs, .slice GA gn gc, .slice OA on oc], .slice IA n ic] w fun e w' =>
      ∃ g, e = .returned (.tuple #[.slice (some ⟨g, 0, none⟩) on on, .int .i64 0]) ∧ Row w' g 38 (w64s (outsG evalW 0 c ins)) ∧ w.heap.size ≤ g ∧ Below w.heap.size w w' := by
  have H : Hid (CAt w c GA OA gn on) := h
  have HI : Hid (Rd w w.heap.size 1 IA n (w64s ins)) := hI
  simp only [okC, Bool.and_eq_true, decide_eq_true_eq] at hok
  obtain ⟨hr, hn⟩ := hok
  obtain ⟨⟨h0, h1, h2, h3⟩, hg, ho⟩ := rightC_parts hr
  rw [h.gl] at h2 ho
  rw [h.ol] at h3
  obtain ⟨inp, gs, os⟩ := c
  dsimp only at hn h0 h1 hg ho
  subst hn
  have HR : Hid (rightC ⟨(n : Int), gs, os⟩ = true) := hr
  have LO : Hid (os.length = on) := h.ol
  have LI : Hid (ins.length = n) := by have := hI.1; simp [w64s] at this; show _ = _; omega
  have HGK : Hid (∀ k, k < gs.length → gateOk ((n : Int) + k) (gs.getD k default) = true) := hg
  have HOK : Hid (os.all (outOk ((n : Int) + gn)) = true) := ho
  have LG : Hid (gs.length = gn) := h.gl
  clear h hI hr hg ho
  have hmk := fun W => make_like (P := Try.prog) Try.underlying35 u64_info rfl on (on : Int) rfl (by omega) (by omega) W
  go_enter Try.func18, Try.ntmps18
  go_wp2_with fail
  refine (right_at ⟨(n : Int), gs, os⟩ GA OA gn gc on oc _ (H.out.up (by go_grown))).mono ?_
  rw [HR.out]
  rintro e w1 ⟨rfl, hb⟩
  have B1 : Below w.heap.size w w1 := (show Below w.heap.size w _ by go_grown).trans (hb.mono (by simp))
  have c0 : w1.cell? ⟨w.heap.size, 0, none⟩ = some (.int .i64 n) := (hb.cell (p := ⟨w.heap.size, 0, none⟩) (by simp)).trans (by go_cell)
  have c1 : w1.cell? ⟨w.heap.size, 1, none⟩ = some (.slice GA gn gc) := (hb.cell (p := ⟨w.heap.size, 1, none⟩) (by simp)).trans (by go_cell)
  have c2 : w1.cell? ⟨w.heap.size, 2, none⟩ = some (.slice OA on oc) := (hb.cell (p := ⟨w.heap.size, 2, none⟩) (by simp)).trans (by go_cell)
  have hz1 : w.heap.size < w1.heap.size := by have := hb.size; simp at this; omega
  clear hb
  go_wp2_with fail
  refine (values_any n GA OA IA gn gc on oc ic gs ins _ (H.out.up B1).gates (HI.out.up B1) (by omega) h2 HGK.out).mono ?_
  rintro e w2 ⟨g, rfl, hrow, hgle, hb⟩
  have B2 : Below w.heap.size w w2 := B1.trans (hb.mono B1.size)
  have d2 : w2.cell? ⟨w.heap.size, 2, none⟩ = some (.slice OA on oc) := (hb.cell (p := ⟨w.heap.size, 2, none⟩) (by show w.heap.size < _; omega)).trans c2
  have hz2 : w.heap.size < w2.heap.size := by have := hb.size; omega
  have HROW : Hid (Row w2 g 38 (w64s (runG evalW 0 gs ins))) := hrow
  have hgl : g < w2.heap.size := hrow.lt
  have HB2 : Hid (Below w.heap.size w w2) := B2
  clear hb B1 c0 c1 c2 hz1 hrow B2
  go_wp2
  go_loopg [30] on (fun gg s30 wr => ∃ kk : Nat, kk ≤ on ∧ on - kk ≤ gg ∧ s30 = .int .i64 kk ∧ Aside (Below (w2.heap.size) w2 wr) ∧ Aside (Row wr w2.heap.size 38 (w64s ((os.take kk).map fun o => (runG evalW 0 gs ins).getD o.toNat 0) ++ List.replicate (on - kk) (.int .u64 0))))
  case atStart => exact ⟨0, Nat.zero_le _, by omega, rfl, (show Below _ _ _ by go_grown), Row.new _ _ _⟩
  case round =>
    obtain ⟨kk, hkk, hgg, rfl, BW, RW⟩ := hrel
    have e2 : wr.cell? ⟨w.heap.size, 2, none⟩ = some (.slice OA on oc) := (BW.out.cell (p := ⟨w.heap.size, 2, none⟩) hz2).trans d2
    have hsz : w2.heap.size < wr.heap.size := RW.out.lt
    by_cases hlt : kk < on
    · have hltz : (kk : Int) < (on : Int) := by omega
      have B3 : Below w.heap.size w wr := HB2.out.trans (BW.out.mono (by omega))
      obtain ⟨ad, rfl, hb, hcell⟩ := ((H.out.up B3).outs).int hlt
      obtain ⟨ho1, ho2⟩ := outOk_at HOK.out (k := kk) (by rw [LO.out]; exact hlt)
      have HT : Aside _ := map_take_snoc (fun o => (runG evalW 0 gs ins).getD o.toNat 0) os kk (by rw [LO.out]; exact hlt)
      generalize os.getD kk 0 = o at hcell ho1 ho2 HT
      obtain ⟨on', rfl⟩ : ∃ m : Nat, o = (m : Int) := ⟨o.toNat, by omega⟩
      have hon : on' < n + gn := by omega
      clear ho1 ho2 B3
      have HL : Aside ((runG evalW 0 gs ins).length = n + gn) := by show _ = _; rw [runG_length, LI.out, LG.out]
      have hv : wr.cell? ⟨g, on', none⟩ = some (w64 ((runG evalW 0 gs ins).getD on' 0)) := by
        rw [BW.out.cell (p := ⟨g, on', none⟩) hgl, HROW.out.cell on']
        have := w64s_at (runG evalW 0 gs ins) [] on' (by rw [HL.out]; exact hon)
        simpa using this
      have hlt' : ((os.take kk).map fun o => (runG evalW 0 gs ins).getD o.toNat 0).length = kk := by rw [List.length_map, List.length_take, LO.out]; omega
      have hs := w64s_set ((os.take kk).map fun o => (runG evalW 0 gs ins).getD o.toNat 0) ((runG evalW 0 gs ins).getD on' 0) kk (on - kk) (.int .u64 0) hlt' (by omega)
      have vc : wr.cell? ⟨w2.heap.size, kk, none⟩ = some (.int .u64 0) := (RW.out.cell kk).trans (w64s_next _ _ _ _ hlt' (by omega))
      have vf : wr.frozen? ⟨w2.heap.size, kk, none⟩ = false := RW.out.frozen kk
      generalize hx : (runG evalW 0 gs ins).getD on' 0 = x at hv hs
      have HX : Aside ((runG evalW 0 gs ins).getD on' 0 = x) := hx
      have HS : Aside _ := hs
      clear hx hs hlt'
      unfold w64 at hv
      go_wp2
      go_roundg (on - (kk + 1))
      case measure => omega
      case rel =>
        have BB := BW.out
        refine ⟨kk + 1, by omega, by omega, by go_num, (show Below _ _ _ by go_grown), ?_⟩
        show Row _ _ _ _
        rw [HT.out, show on - (kk + 1) = on - kk - 1 from by omega]
        simp only [Int.toNat_natCast]
        rw [HX.out, ← HS.out]
        exact RW.out.set _ _
    · have hltz : ¬ (kk : Int) < (on : Int) := by omega
      obtain rfl : kk = on := by omega
      go_wp2
      go_ret2
      refine ⟨w2.heap.size, rfl, ?_, HB2.out.size, HB2.out.trans (BW.out.mono HB2.out.size)⟩
      have := RW.out
      rw [Nat.sub_self, List.replicate_zero, List.append_nil, ← LO.out, List.take_length] at this
      exact this
end Go.Proofs.Ythmkcckoeodhnaa
