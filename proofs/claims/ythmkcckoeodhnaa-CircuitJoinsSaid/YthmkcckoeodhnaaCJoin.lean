/-
  circuit.Join, its closure, and slices.Clone at gates, walked.
-/
import Derived.Test.YthmkcckoeodhnaaCWords
import Derived.Test.YthmkcckoeodhnaaCJPost
import Derived.Test.YthmkcckoeodhnaaApp
import Derived.Deep.RegionWith
import Derived.Deep.DeepCutAuto
import Derived.BigRegion
import Derived.Deep.RegionLaw
import Derived.BigQuiet
import Derived.WalkSpells
import Derived.Deep.Light
import Derived.Deep.QuietTactic
namespace Go.Proofs.Ythmkcckoeodhnaa
open Go.RowKit
set_option linter.unusedSimpArgs false
set_option linter.unusedVariables false

theorem gate_info : (Try.prog.info? 46).map (fun i => (i.zero, i.size, i.bytes)) = some (some (.agg #[.int .i64 0, .int .i64 0, .int .i64 0]), 3, 24) := by kernel_rfl
theorem int_info2 : (Try.prog.info? 3).map (fun i => (i.zero, i.size, i.bytes)) = some (some (.int .i64 0), 1, 8) := by kernel_rfl

set_option maxHeartbeats 400000 in
theorem clone_gates (A : Option Addr) (n c : Nat) (gs : List Gt) (w : World) (hr : Rd w w.heap.size 3 A n (gatesCells gs)) (hn : n ≤ 20000) :
    Calls Try.prog 33 #[.slice A n c] w fun e w' => ∃ A' c', e = .returned (.slice A' n c') ∧ w'.ownsRow w.heap.size 46 3 (.slice A' n c') n (gatesCells gs) ∧ Below w.heap.size w w' := by
  have HR : Hid (Rd w w.heap.size 3 A n (gatesCells gs)) := hr
  clear hr
  cases A with
  | none =>
    have h0 : n = 0 := by
      rcases Nat.eq_zero_or_pos n with h | h
      · exact h
      · obtain ⟨ad, e, _⟩ := HR.out.ex h; cases e
    subst h0
    have hc : gatesCells gs = [] := List.eq_nil_of_length_eq_zero (by have := HR.out.1; simpa using this)
    have HC : Hid (gatesCells gs = []) := hc
    clear hc
    have e1 := fun W => Lib.run_eql_slice_nil (P := Try.prog) W 22 46 none 0 c 0 0 Try.underlying22
    go_enter Try.func33, Try.ntmps33
    go_wp2
    go_ret
    refine ⟨none, 0, rfl, ?_, Below.refl _ _⟩
    rw [HC.out]
    exact World.ownsRow_nil _ _ _ _
  | some ad =>
    have e1 := fun W => Lib.run_eql_slice_nil (P := Try.prog) W 22 46 (some ad) n c 0 0 Try.underlying22
    go_enter Try.func33, Try.ntmps33
    go_wp2_with (at_builtin; refine wpList_app rfl (.tmp 5) (.tmp 6) 22 rfl w.heap.size 46 (.agg #[.int .i64 0, .int .i64 0, .int .i64 0]) 3 24 Try.underlying22 gate_info rfl (by decide) (by decide) (.slice (some ⟨w.heap.size, 0, none⟩) 0 0) 0 [] rfl ?own w.heap.size (some ad) n c (gatesCells gs) rfl ?rd (gatesCells_one' gs) ?hb ?hbase ?_)
    case own => exact Row.own (xs := []) (Row.new _ _ _) (Nat.le_refl _) rfl (by unfold maxLen; omega)
    case rd => exact HR.out.below (show Below w.heap.size w _ by go_grown) (Nat.le_refl _)
    case hb => omega
    case hbase => simp
    intro v' w' hown' hgrow' hat'
    have HB : Aside (Below w.heap.size w w') := (show Below w.heap.size w (w.alloc (.cells #[] 46)) by go_grown).grown hgrow' (by simp) (fun k hk => by simp [Value.ownBlock] at hk; omega)
    have HO : Aside (w'.ownsRow w.heap.size 46 3 v' n (gatesCells gs)) := by
      show w'.ownsRow _ _ _ _ _ _
      simpa using hown'
    clear hown' hgrow' hat'
    obtain ⟨A', c', rfl, _⟩ := Rd.own HO.out
    go_wp2
    go_ret
    exact ⟨A', c', rfl, HO.out, HB.out⟩

set_option maxHeartbeats 400000 in
theorem joinw_any (a b : Circ) (x : Int) (pb pa : Nat) (GA OA : Option Addr) (gn gc on oc : Nat) (w : World)
    (hb : w.cell? ⟨pb, 0, none⟩ = some (.int .i64 b.inputs)) (ha0 : w.cell? ⟨pa, 0, none⟩ = some (.int .i64 a.inputs)) (ha1 : w.cell? ⟨pa, 1, none⟩ = some (.slice GA gn gc)) (ha2 : w.cell? ⟨pa, 2, none⟩ = some (.slice OA on oc))
    (hO : Rd w w.heap.size 1 OA on (ints a.outs)) (hg : a.gates.length = gn) (ho : (on : Int) = b.inputs) (h0 : 0 ≤ x) (h1 : x ≤ 22000) (h2 : 0 ≤ a.inputs) (h3 : a.inputs ≤ 1000) (h4 : gn ≤ 20000) (h5 : on ≤ 1000) :
    Calls Try.prog 32 #[.int .i64 x, .pointer (some ⟨pb, 0, none⟩), .pointer (some ⟨pa, 0, none⟩)] w fun e w' => e = .returned (.int .i64 (joinWire a b x)) ∧ w = w' := by
  have HO : Hid (Rd w w.heap.size 1 OA on (ints a.outs)) := hO
  have HW : Hid (joinWire a b x = if x < b.inputs then a.outs.getD x.toNat 0 else x - b.inputs + a.inputs + a.gates.length) := rfl
  rw [hg] at HW
  rw [← ho] at hb HW
  clear hO hg ho
  obtain ⟨xn, rfl⟩ : ∃ n : Nat, x = (n : Int) := ⟨x.toNat, by omega⟩
  obtain ⟨an, han⟩ : ∃ n : Nat, a.inputs = (n : Int) := ⟨a.inputs.toNat, by omega⟩
  rw [han] at ha0 HW h3
  clear h2 han
  by_cases hlt : xn < on
  · have hltz : (xn : Int) < (on : Int) := by omega
    obtain ⟨ad, rfl, hbb, hcell⟩ := HO.out.int hlt
    have HW' : Hid (joinWire a b xn = a.outs.getD xn 0) := by have := HW.out; rw [if_pos hltz, Int.toNat_natCast] at this; exact this
    generalize a.outs.getD xn 0 = y at hcell HW'
    clear HW
    go_enter Try.func32, Try.ntmps32
    go_wp2
    go_ret
    rw [HW'.out]
    exact ⟨rfl, rfl⟩
  · have hltz : ¬ (xn : Int) < (on : Int) := by omega
    have HW' : Hid (joinWire a b xn = xn - on + an + gn) := by have := HW.out; rw [if_neg hltz] at this; exact this
    clear HW
    go_enter Try.func32, Try.ntmps32
    go_wp2
    go_ret
    rw [HW'.out]
    exact ⟨rfl, rfl⟩
set_option maxRecDepth 100000 in
set_option maxHeartbeats 1000000 in
theorem join_err2 (a b : Circ) (GA OA GB OB : Option Addr) (gn gc on oc hn hc pn pc : Nat) (w : World) (hA : CAt w a GA OA gn on) (hB : CAt w b GB OB hn pn) (he : joinErr a b = 2) :
    Calls Try.prog 20 #[.agg #[.int .i64 a.inputs, .slice GA gn gc, .slice OA on oc], .agg #[.int .i64 b.inputs, .slice GB hn hc, .slice OB pn pc]] w (JoinPost a b w) := by
  have HA : Hid (CAt w a GA OA gn on) := hA
  have HB : Hid (CAt w b GB OB hn pn) := hB
  have HE : Hid (joinErr a b = 2) := he
  have LO : Hid (a.outs.length = on) := hA.ol
  have hm := hA.o63
  unfold maxLen at hm
  clear hA hB he
  cases hr : rightC a
  · go_enter Try.func20, Try.ntmps20
    go_wp2_with fail
    refine (right_at a GA OA gn gc on oc _ (HA.out.up (by go_grown))).mono ?_
    rw [hr]
    rintro e w1 ⟨rfl, hb⟩
    have B1 : Below w.heap.size w w1 := (show Below w.heap.size w (((w.alloc (.cells #[.int .i64 a.inputs, .slice GA gn gc, .slice OA on oc] 25)).alloc (.cells #[.int .i64 b.inputs, .slice GB hn hc, .slice OB pn pc] 25)).alloc (.cells #[.int .i64 0, .slice none 0 0, .slice none 0 0] 25)) by go_grown).trans (hb.mono (by simp; omega))
    have RA : Hid (Row w1 w.heap.size 25 [.int .i64 a.inputs, .slice GA gn gc, .slice OA on oc]) := (((Row.new w _ _).alloc _).alloc _).below hb (by simp; omega)
    have RB : Hid (Row w1 (w.heap.size + 1) 25 [.int .i64 b.inputs, .slice GB hn hc, .slice OB pn pc]) := ((row_new1 w _ _ _).alloc _).below hb (by simp)
    have RC : Hid (Row w1 (w.heap.size + 1 + 1) 25 [.int .i64 0, .slice none 0 0, .slice none 0 0]) := (row_new2 w _ _ _ _).below hb (by simp)
    clear hb
    have a0 := RA.out.cell 0
    have a1 := RA.out.cell 1
    have a2 := RA.out.cell 2
    have b0 := RB.out.cell 0
    have b1 := RB.out.cell 1
    have b2 := RB.out.cell 2
    have d0 := RC.out.cell 0
    have d1 := RC.out.cell 1
    have d2 := RC.out.cell 2
    have f0 := RC.out.frozen 0
    have f1 := RC.out.frozen 1
    have f2 := RC.out.frozen 2
    simp only [List.getElem?_cons_zero, List.getElem?_cons_succ] at a0 a1 a2 b0 b1 b2 d0 d1 d2
    go_wp2
    exact bodyPost_ret (v := .tuple #[.agg #[.int .i64 0, .slice none 0 0, .slice none 0 0], .int .i64 2]) (by simp [results, Try.results20, go_sem, d0, d1, d2]) rfl (joinPost_err HE.out (by decide) (by go_grown))
  · cases hs : rightC b
    · go_enter Try.func20, Try.ntmps20
      go_wp2_with fail
      refine (right_at a GA OA gn gc on oc _ (HA.out.up (by go_grown))).mono ?_
      rw [hr]
      rintro e w1 ⟨rfl, hb⟩
      have B1 : Below w.heap.size w w1 := (show Below w.heap.size w (((w.alloc (.cells #[.int .i64 a.inputs, .slice GA gn gc, .slice OA on oc] 25)).alloc (.cells #[.int .i64 b.inputs, .slice GB hn hc, .slice OB pn pc] 25)).alloc (.cells #[.int .i64 0, .slice none 0 0, .slice none 0 0] 25)) by go_grown).trans (hb.mono (by simp; omega))
      have RA : Hid (Row w1 w.heap.size 25 [.int .i64 a.inputs, .slice GA gn gc, .slice OA on oc]) := (((Row.new w _ _).alloc _).alloc _).below hb (by simp; omega)
      have RB : Hid (Row w1 (w.heap.size + 1) 25 [.int .i64 b.inputs, .slice GB hn hc, .slice OB pn pc]) := ((row_new1 w _ _ _).alloc _).below hb (by simp)
      have RC : Hid (Row w1 (w.heap.size + 1 + 1) 25 [.int .i64 0, .slice none 0 0, .slice none 0 0]) := (row_new2 w _ _ _ _).below hb (by simp)
      have BB : Hid (Below (w.heap.size + 3) (((w.alloc (.cells #[.int .i64 a.inputs, .slice GA gn gc, .slice OA on oc] 25)).alloc (.cells #[.int .i64 b.inputs, .slice GB hn hc, .slice OB pn pc] 25)).alloc (.cells #[.int .i64 0, .slice none 0 0, .slice none 0 0] 25)) w1) := hb.mono (by simp)
      clear hb
      have a0 := RA.out.cell 0
      have a1 := RA.out.cell 1
      have a2 := RA.out.cell 2
      have b0 := RB.out.cell 0
      have b1 := RB.out.cell 1
      have b2 := RB.out.cell 2
      have d0 := RC.out.cell 0
      have d1 := RC.out.cell 1
      have d2 := RC.out.cell 2
      have f0 := RC.out.frozen 0
      have f1 := RC.out.frozen 1
      have f2 := RC.out.frozen 2
      simp only [List.getElem?_cons_zero, List.getElem?_cons_succ] at a0 a1 a2 b0 b1 b2 d0 d1 d2
      go_wp2_with fail
      refine (right_at b GB OB hn hc pn pc _ (HB.out.up B1)).mono ?_
      rw [hs]
      rintro e w2 ⟨rfl, hb⟩
      have hz : w.heap.size + 3 ≤ w1.heap.size := by have := BB.out.size; simp at this; omega
      clear a0 a1 a2 b0 b1 b2 d0 d1 d2 f0 f1 f2
      have RA := (show Hid (Row w2 _ _ _) from RA.out.below hb RA.out.lt)
      have RB := (show Hid (Row w2 _ _ _) from RB.out.below hb RB.out.lt)
      have RC := (show Hid (Row w2 _ _ _) from RC.out.below hb RC.out.lt)
      have B1 := B1.trans (hb.mono B1.size)
      clear hb
      have a0 := RA.out.cell 0
      have a1 := RA.out.cell 1
      have a2 := RA.out.cell 2
      have b0 := RB.out.cell 0
      have b1 := RB.out.cell 1
      have b2 := RB.out.cell 2
      have d0 := RC.out.cell 0
      have d1 := RC.out.cell 1
      have d2 := RC.out.cell 2
      have f0 := RC.out.frozen 0
      have f1 := RC.out.frozen 1
      have f2 := RC.out.frozen 2
      simp only [List.getElem?_cons_zero, List.getElem?_cons_succ] at a0 a1 a2 b0 b1 b2 d0 d1 d2
      go_wp2
      exact bodyPost_ret (v := .tuple #[.agg #[.int .i64 0, .slice none 0 0, .slice none 0 0], .int .i64 2]) (by simp [results, Try.results20, go_sem, d0, d1, d2]) rfl (joinPost_err HE.out (by decide) (by go_grown))
    · have hne : ((on : Int) != b.inputs) = true := by
        rw [bne_iff_ne]
        intro h
        have := HE.out
        rw [joinErr, if_pos ⟨hr, hs, by rw [LO.out]; exact h⟩] at this
        split at this <;> cases this
      go_enter Try.func20, Try.ntmps20
      go_wp2_with fail
      refine (right_at a GA OA gn gc on oc _ (HA.out.up (by go_grown))).mono ?_
      rw [hr]
      rintro e w1 ⟨rfl, hb⟩
      have B1 : Below w.heap.size w w1 := (show Below w.heap.size w (((w.alloc (.cells #[.int .i64 a.inputs, .slice GA gn gc, .slice OA on oc] 25)).alloc (.cells #[.int .i64 b.inputs, .slice GB hn hc, .slice OB pn pc] 25)).alloc (.cells #[.int .i64 0, .slice none 0 0, .slice none 0 0] 25)) by go_grown).trans (hb.mono (by simp; omega))
      have RA : Hid (Row w1 w.heap.size 25 [.int .i64 a.inputs, .slice GA gn gc, .slice OA on oc]) := (((Row.new w _ _).alloc _).alloc _).below hb (by simp; omega)
      have RB : Hid (Row w1 (w.heap.size + 1) 25 [.int .i64 b.inputs, .slice GB hn hc, .slice OB pn pc]) := ((row_new1 w _ _ _).alloc _).below hb (by simp)
      have RC : Hid (Row w1 (w.heap.size + 1 + 1) 25 [.int .i64 0, .slice none 0 0, .slice none 0 0]) := (row_new2 w _ _ _ _).below hb (by simp)
      clear hb
      have a0 := RA.out.cell 0
      have a1 := RA.out.cell 1
      have a2 := RA.out.cell 2
      have b0 := RB.out.cell 0
      have b1 := RB.out.cell 1
      have b2 := RB.out.cell 2
      have d0 := RC.out.cell 0
      have d1 := RC.out.cell 1
      have d2 := RC.out.cell 2
      have f0 := RC.out.frozen 0
      have f1 := RC.out.frozen 1
      have f2 := RC.out.frozen 2
      simp only [List.getElem?_cons_zero, List.getElem?_cons_succ] at a0 a1 a2 b0 b1 b2 d0 d1 d2
      go_wp2_with fail
      refine (right_at b GB OB hn hc pn pc _ (HB.out.up B1)).mono ?_
      rw [hs]
      rintro e w2 ⟨rfl, hb⟩
      clear a0 a1 a2 b0 b1 b2 d0 d1 d2 f0 f1 f2
      have RA := (show Hid (Row w2 _ _ _) from RA.out.below hb RA.out.lt)
      have RB := (show Hid (Row w2 _ _ _) from RB.out.below hb RB.out.lt)
      have RC := (show Hid (Row w2 _ _ _) from RC.out.below hb RC.out.lt)
      have B1 := B1.trans (hb.mono B1.size)
      clear hb
      have a0 := RA.out.cell 0
      have a1 := RA.out.cell 1
      have a2 := RA.out.cell 2
      have b0 := RB.out.cell 0
      have b1 := RB.out.cell 1
      have b2 := RB.out.cell 2
      have d0 := RC.out.cell 0
      have d1 := RC.out.cell 1
      have d2 := RC.out.cell 2
      have f0 := RC.out.frozen 0
      have f1 := RC.out.frozen 1
      have f2 := RC.out.frozen 2
      simp only [List.getElem?_cons_zero, List.getElem?_cons_succ] at a0 a1 a2 b0 b1 b2 d0 d1 d2
      go_wp2
      exact bodyPost_ret (v := .tuple #[.agg #[.int .i64 0, .slice none 0 0, .slice none 0 0], .int .i64 2]) (by simp [results, Try.results20, go_sem, d0, d1, d2]) rfl (joinPost_err HE.out (by decide) (by go_grown))
end Go.Proofs.Ythmkcckoeodhnaa
