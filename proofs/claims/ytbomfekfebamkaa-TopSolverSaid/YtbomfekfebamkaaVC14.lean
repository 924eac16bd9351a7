/-
  refute's engine: the method follows, walked.
-/
import Derived.Test.YtbomfekfebamkaaVC13
import Derived.Test.YtbomfekfebamkaaVC12
import Derived.Test.YtbomfekfebamkaaVC2
import Derived.Test.YtbomfekfebamkaaVC6
import Derived.Deep.QuietTactic
import Derived.BigQuiet
namespace Go.Proofs.Ytbomfekfebamkaa
open Go.RowKit Go.Maps
set_option linter.unusedSimpArgs false
set_option linter.unusedVariables false
theorem setAll_step {n : Nat} {s : V.En} {x : Int} {l : List Int} (hr : V.valL s.va x = 0 ∨ V.valL s.va x = 1 ∨ V.valL s.va x = -1) : V.setAll (x :: l) s = if setB s x = true then V.setAll l (setP s x) else (setP s x, false) := by
  conv => lhs; unfold V.setAll
  unfold setB setP
  rcases hr with e | e | e <;> rw [e] <;> simp
theorem setP_wf {n : Nat} {F : List (List Int)} {s : V.En} {x : Int} (h : V.WF n F s) (hx : V.lit n x) : V.WF n F (setP s x) := by
  unfold setP
  split
  · exact h.put hx ‹_›
  · exact h
theorem setP_hd (s : V.En) (x : Int) : (setP s x).hd = s.hd := by unfold setP; split <;> rfl
/-- What the loops of follows know: l is still to be set. -/
structure FL (n : Nat) (F : List (List Int)) (l0 l : List Int) (s s1 : V.En) (B b : Nat) (us : List Int) (em : Bool) (G1 : EG) (US : Value) (w wr : World) : Prop where
  run : V.setAll l0 s = V.setAll l s1
  wf : V.WF n F s1
  hd : s1.hd = 0
  eng : EngR wr B b s1 (fun _ => False) us em G1 US
  bel : Below B w wr
section
variable {n : Nat} {F : List (List Int)} {l0 l : List Int} {s s1 : V.En} {B b : Nat} {us : List Int} {em : Bool} {G1 G2 : EG} {US : Value} {w wr w2 : World} {x : Int}
theorem FL.good (h : FL n F l0 (x :: l) s s1 B b us em G1 US w wr) (hx : V.lit n x) (hb : setB s1 x = true) (E : EngR w2 B b (setP s1 x) (fun _ => False) us em G2 US) (hk : Below B wr w2) : FL n F l0 l s (setP s1 x) B b us em G2 US w w2 :=
  ⟨by rw [h.run, setAll_step (n := n) (h.wf.tk.rng x hx), if_pos hb], setP_wf h.wf hx, by rw [setP_hd, h.hd], E, h.bel.trans hk⟩
theorem FL.bad (h : FL n F l0 (x :: l) s s1 B b us em G1 US w wr) (hx : V.lit n x) (hb : setB s1 x = false) : V.setAll l0 s = (setP s1 x, false) := by
  rw [h.run, setAll_step (n := n) (h.wf.tk.rng x hx), if_neg (by rw [hb]; decide)]
end
theorem negs_drop {cc : List Int} {i : Nat} (h : i < cc.length) : V.negs (cc.drop i) = -(cc.getD i 0) :: V.negs (cc.drop (i + 1)) := by
  rw [List.drop_eq_getElem_cons h]
  rw [List.getD_eq_getElem?_getD, List.getElem?_eq_getElem h]
  rfl
theorem units_drop {cc : List Int} {i : Nat} (h : i < cc.length) : cc.drop i = cc.getD i 0 :: cc.drop (i + 1) := by
  rw [List.drop_eq_getElem_cons h]
  simp [List.getD_eq_getElem?_getD, List.getElem?_eq_getElem h]
set_option maxRecDepth 100000 in
set_option maxHeartbeats 4000000 in
theorem pFollows_any (B b n : Nat) (F : List (List Int)) (s : V.En) (us : List Int) (em : Bool) (G : EG) (US : Value) (A : Option Addr) (m c : Nat) (cc : List Int) (w : World) (h : EngR w B b s (fun _ => False) us em G US) (hW : V.WF n F s) (h0 : s.hd = 0) (hn : n ≤ 1000000) (hF : F.length ≤ 1000000) (hus : us.length ≤ 1000000) (hul : ∀ x ∈ us, V.lit n x) (hr : Rd w B 1 A m (ints cc)) (hm : m ≤ 1000000) (hl : ∀ x ∈ cc, V.lit n x) :
    Calls Try.prog 14 #[.pointer (some ⟨b, 0, none⟩), .slice A m c] w fun e w' => e = .returned (.bool (V.followsR n ⟨s, us, em⟩ cc).2) ∧ ∃ G', EngR w' B b (V.followsR n ⟨s, us, em⟩ cc).1.s (fun _ => False) us em G' US ∧ Below B w w' := by
  have H := Lib.hid h
  have HW := Lib.hid hW
  have H0 := Lib.hid h0
  have HRD := Lib.hid hr
  have HCX := Lib.hid hl
  have HUL := Lib.hid hul
  have hl1 : cc.length = m := by have := hr.1; simpa using this
  have HLN : Hid (cc.length = m) := hl1
  have R1 : Hid (Row w b 46 [G.CL, .map (some G.mb), US, .bool em, G.VA, G.TR, .int .i64 (s.hd : Int)]) := h.row
  have k0 := R1.out.cell 0
  have k1 := R1.out.cell 1
  have k2 := R1.out.cell 2
  have k3 := R1.out.cell 3
  have k4 := R1.out.cell 4
  have k5 := R1.out.cell 5
  have k6 := R1.out.cell 6
  have kl := R1.out.lt
  simp only [List.getElem?_cons_zero, List.getElem?_cons_succ] at k0 k1 k2 k3 k4 k5 k6
  clear h hW h0 hr hl hul hl1
  obtain ⟨r, hr⟩ : ∃ r, V.followsR n ⟨s, us, em⟩ cc = r := ⟨_, rfl⟩
  have HR : Hid (∀ _ : Unit, V.followsR n ⟨s, us, em⟩ cc = r) := fun _ => hr
  rw [hr]
  clear hr
  cases em with
  | true =>
    go_enter_defers Try.func14, Try.ntmps14
    go_wp2
    have he : r = (⟨s.cut 0, us, true⟩, true) := by rw [← HR.out ()]; unfold V.followsR; rfl
    subst he
    refine leaves_cons (f := 31) (args := #[.pointer (some ⟨b, 0, none⟩), .int .i64 0]) (by simp) (by simp [go_sem]) ?_
    refine (pUndoD_any .returning B b n 0 _ (fun _ => False) us true _ US _ H.out (HW.out).tk hn (Nat.zero_le _)).mono ?_
    rintro e u' w9 ⟨rfl, rfl, G9, hE9, hK9⟩
    refine ⟨_, results_tmp rfl _ _ _, ?_⟩
    skip
    exact ⟨rfl, G9, hE9, (Below.refl B w).trans hK9.below⟩
  | false =>
    have HRN : Hid (∀ _ : Unit, r = (⟨(V.tryF n us s cc).1.cut 0, us, false⟩, (V.tryF n us s cc).2)) := fun _ => by rw [← HR.out ()]; unfold V.followsR; rfl
    clear HR
    go_enter_defers Try.func14, Try.ntmps14
    go_wp2_with fail
    clear k0 k1 k2 k3 k4 k5 k6 kl R1
    go_loopg [6, 16] m (fun gg _ s16 wr => ∃ (i : Nat) (s1 : V.En) (G1 : EG), i ≤ m ∧ m - i ≤ gg ∧ s16 = .int .i64 i ∧ Aside (FL n F (V.negs cc) (V.negs (cc.drop i)) s s1 B b us false G1 US w wr))
    case atStart => exact ⟨0, s, G, Nat.zero_le _, by omega, rfl, rfl, HW.out, H0.out, H.out, Below.refl _ _⟩
    case round =>
      obtain ⟨i, s1, G1, hi, hgg, rfl, hv⟩ := hrel
      have HV : Hid (FL n F (V.negs cc) (V.negs (cc.drop i)) s s1 B b us false G1 US w wr) := hv
      clear hv
      by_cases hlt : i < m
      · have hltz : (i : Int) < (m : Int) := by omega
        have hic : i < cc.length := by have := HLN.out; omega
        obtain ⟨ad, rfl, hb, hcell0⟩ := HRD.out.int hlt
        have hcell : wr.cell? (ad.add i) = some (.int .i64 (cc.getD i 0)) := (HV.out.bel.cell (by rw [add_block]; exact hb)).trans hcell0
        obtain ⟨x, hx⟩ : ∃ x, cc.getD i 0 = x := ⟨_, rfl⟩
        have hxl : V.lit n x := HCX.out x (by rw [← hx, List.getD_eq_getElem?_getD, List.getElem?_eq_getElem hic]; exact List.getElem_mem _)
        have x1 := hxl.2.1
        have x2 := hxl.2.2
        have hwx : IntKind.i64.wrap (-x) = -x := IntWalk.i64_in _ (by omega)
        rw [hx] at hcell
        have hv : FL n F (V.negs cc) (-x :: V.negs (cc.drop (i + 1))) s s1 B b us false G1 US w wr := by
          have := HV.out; rw [negs_drop hic, hx] at this; exact this
        have HVV := Lib.hid hv
        have HXL := Lib.hid hxl.neg
        have HST := Lib.hid (pSet_any B b n s1 (fun _ => False) us false G1 US (-x) wr hv.eng hn hxl.neg hv.wf.tk (by have := hv.wf.tk.le; omega))
        clear hx hxl hv hcell0 HV x1 x2
        cases hsb : setB s1 (-x) with
        | true =>
          rw [hsb] at HST
          have HSB : Hid (∀ _ : Unit, setB s1 (-x) = true) := fun _ => hsb
          clear hsb
          go_wp2_with fail
          refine HST.out.mono ?_
          rintro e w2 ⟨G2, rfl, hE2, hK2⟩
          have HN := Lib.hid (HVV.out.good HXL.out (HSB.out ()) hE2 hK2.below)
          clear hE2 hK2
          go_wp2
          go_roundg (m - (i + 1))
          case measure => omega
          case rel => exact ⟨i + 1, _, _, by omega, by omega, by go_num, HN.out⟩
        | false =>
          rw [hsb] at HST
          have HSB : Hid (∀ _ : Unit, setB s1 (-x) = false) := fun _ => hsb
          clear hsb
          go_wp2_with fail
          refine HST.out.mono ?_
          rintro e w2 ⟨G2, rfl, hE2, hK2⟩
          have HE2 := Lib.hid hE2
          have HK2 := Lib.hid hK2
          clear hE2 hK2
          go_wp2
          have ht : V.tryF n us s cc = (setP s1 (-x), true) := by
            unfold V.tryF
            have hb := HVV.out.bad HXL.out (HSB.out ())
            rw [hb]; rfl
          have he := HRN.out ()
          rw [ht] at he
          subst he
          refine leaves_cons (f := 31) (args := #[.pointer (some ⟨b, 0, none⟩), .int .i64 0]) (by simp) (by simp [go_sem]) ?_
          refine (pUndoD_any .returning B b n 0 _ (fun _ => False) us false _ US _ HE2.out (setP_wf HVV.out.wf HXL.out).tk hn (Nat.zero_le _)).mono ?_
          rintro e u' w9 ⟨rfl, rfl, G9, hE9, hK9⟩
          refine ⟨_, results_tmp rfl _ _ _, ?_⟩
          skip
          exact ⟨rfl, G9, hE9, (HVV.out.bel.trans HK2.out.below).trans hK9.below⟩
      · have hltz : ¬ (i : Int) < (m : Int) := by omega
        have hie : m = i := by omega
        subst hie
        have hs1 : V.setAll (V.negs cc) s = (s1, true) := by
          rw [HV.out.run, List.drop_eq_nil_of_le (by have := HLN.out; omega)]; rfl
        have HS1 := Lib.hid (show Hid (∀ _ : Unit, V.setAll (V.negs cc) s = (s1, true)) from fun _ => hs1)
        have HV0 : Hid (FL n F us us s1 s1 B b us false G1 US w wr) := ⟨rfl, HV.out.wf, HV.out.hd, HV.out.eng, HV.out.bel⟩
        have R1 : Hid (Row wr b 46 [G1.CL, .map (some G1.mb), US, .bool false, G1.VA, G1.TR, .int .i64 (s1.hd : Int)]) := HV.out.eng.row
        have k0 := R1.out.cell 0
        have k1 := R1.out.cell 1
        have k2 := R1.out.cell 2
        have k3 := R1.out.cell 3
        have k4 := R1.out.cell 4
        have k5 := R1.out.cell 5
        have k6 := R1.out.cell 6
        have kl := R1.out.lt
        simp only [List.getElem?_cons_zero, List.getElem?_cons_succ] at k0 k1 k2 k3 k4 k5 k6
        obtain ⟨AU, cu, hUS, _⟩ := HV.out.eng.us.rd
        have HUS : Hid (∀ _ : Unit, US = .slice AU us.length cu) := fun _ => hUS
        rw [hUS] at k2
        clear hs1 HV hUS
        go_wp2_with fail
        clear k0 k1 k2 k3 k4 k5 k6 kl R1
        obtain ⟨wo, hwo⟩ : ∃ wo : World, wo = wr := ⟨_, rfl⟩
        rw [← hwo] at HV0 ⊢
        clear hwo
        go_loopg [8, 31] us.length (fun gg _ s31 wq => ∃ (j : Nat) (s2 : V.En) (G2 : EG), j ≤ us.length ∧ us.length - j ≤ gg ∧ s31 = .int .i64 j ∧ Aside (FL n F us (us.drop j) s1 s2 B b us false G2 US w wq))
        case atStart => exact ⟨0, s1, G1, Nat.zero_le _, by omega, rfl, HV0.out⟩
        case round =>
          rename World => wq
          obtain ⟨j, s2, G2, hj, hgg2, rfl, hv⟩ := hrel
          have HV : Hid (FL n F us (us.drop j) s1 s2 B b us false G2 US w wq) := hv
          clear hv
          by_cases hlt2 : j < us.length
          · have hltz2 : (j : Int) < (us.length : Int) := by omega
            obtain ⟨gu, cu', hUS2, _, _, hgul, hcu, hcellu, _⟩ := HV.out.eng.us.at_ hlt2
            rw [HUS.out ()] at hUS2
            obtain ⟨x, hx⟩ : ∃ x, us.getD j 0 = x := ⟨_, rfl⟩
            have hcell : wq.cell? ⟨gu, j, none⟩ = some (.int .i64 x) := hcellu j _ (by rw [← hx]; simp [ints, List.getElem?_map, List.getElem?_eq_getElem hlt2, List.getD_eq_getElem?_getD])
            injection hUS2 with hA _ hC
            have hxl : V.lit n x := HUL.out x (by rw [← hx, List.getD_eq_getElem?_getD, List.getElem?_eq_getElem hlt2]; exact List.getElem_mem _)
            have hv : FL n F us (x :: us.drop (j + 1)) s1 s2 B b us false G2 US w wq := by
              have := HV.out; rw [units_drop hlt2, hx] at this; exact this
            have HVV := Lib.hid hv
            have HXL := Lib.hid hxl
            have HST := Lib.hid (pSet_any B b n s2 (fun _ => False) us false G2 US x wq hv.eng hn hxl hv.wf.tk (by have := hv.wf.tk.le; omega))
            subst hA
            clear hx hxl hv hcellu HV hC
            cases hsb : setB s2 x with
            | true =>
              rw [hsb] at HST
              have HSB : Hid (∀ _ : Unit, setB s2 x = true) := fun _ => hsb
              clear hsb
              go_wp2_with fail
              refine HST.out.mono ?_
              rintro e w2 ⟨G3, rfl, hE2, hK2⟩
              have HN := Lib.hid (HVV.out.good HXL.out (HSB.out ()) hE2 hK2.below)
              clear hE2 hK2
              go_wp2
              go_roundg (us.length - (j + 1))
              case measure => omega
              case rel => exact ⟨j + 1, _, _, by omega, by omega, by go_num, HN.out⟩
            | false =>
              rw [hsb] at HST
              have HSB : Hid (∀ _ : Unit, setB s2 x = false) := fun _ => hsb
              clear hsb
              go_wp2_with fail
              refine HST.out.mono ?_
              rintro e w2 ⟨G3, rfl, hE2, hK2⟩
              have HE2 := Lib.hid hE2
              have HK2 := Lib.hid hK2
              clear hE2 hK2
              go_wp2
              have ht : V.tryF n us s cc = (setP s2 x, true) := by
                unfold V.tryF
                have hb := HVV.out.bad HXL.out (HSB.out ())
                rw [HS1.out.out (), hb]; rfl
              have he := HRN.out ()
              rw [ht] at he
              subst he
              refine leaves_cons (f := 31) (args := #[.pointer (some ⟨b, 0, none⟩), .int .i64 0]) (by simp) (by simp [go_sem]) ?_
              refine (pUndoD_any .returning B b n 0 _ (fun _ => False) us false _ US _ HE2.out (setP_wf HVV.out.wf HXL.out).tk hn (Nat.zero_le _)).mono ?_
              rintro e u' w9 ⟨rfl, rfl, G9, hE9, hK9⟩
              refine ⟨_, results_tmp rfl _ _ _, ?_⟩
              skip
              exact ⟨rfl, G9, hE9, (HVV.out.bel.trans HK2.out.below).trans hK9.below⟩
          · have hltz2 : ¬ (j : Int) < (us.length : Int) := by omega
            have hie2 : us.length ≤ j := by omega
            have hs2 : V.setAll us s1 = (s2, true) := by
              rw [HV.out.run, List.drop_eq_nil_of_le hie2]; rfl
            have HS2 := Lib.hid (show Hid (∀ _ : Unit, V.setAll us s1 = (s2, true)) from fun _ => hs2)
            have hI : V.Inv2 s2 s2.hd := by rw [HV.out.hd]; exact V.Inv2.zero _
            have HPR := Lib.hid (pProp_any B b n F s2 us false G2 US wq HV.out.eng HV.out.wf hI hn hF)
            have HPO := Lib.hid (V.prop_spec (n := n) (F := F) (n + 2) s2 HV.out.wf hI (by rw [HV.out.hd]; omega))
            obtain ⟨q, hq⟩ : ∃ q, V.propF (n + 2) s2 = q := ⟨_, rfl⟩
            have HQ : Hid (∀ _ : Unit, V.propF (n + 2) s2 = q) := fun _ => hq
            rw [hq] at HPR HPO
            obtain ⟨q1, q2⟩ := q
            clear hs2 hI hq
            go_wp2_with fail
            refine HPR.out.mono ?_
            rintro e w2 ⟨rfl, G3, hE2, hK2⟩
            have HE2 := Lib.hid hE2
            have HK2 := Lib.hid hK2
            clear hE2 hK2
            go_wp2
            have ht : V.tryF n us s cc = (q1, !q2) := by
              unfold V.tryF
              rw [HS1.out.out ()]
              simp only [if_true]
              rw [HS2.out.out ()]
              simp only [if_true]
              rw [HQ.out ()]
            have he := HRN.out ()
            rw [ht] at he
            subst he
            refine leaves_cons (f := 31) (args := #[.pointer (some ⟨b, 0, none⟩), .int .i64 0]) (by simp) (by simp [go_sem]) ?_
            refine (pUndoD_any .returning B b n 0 _ (fun _ => False) us false _ US _ HE2.out (HPO.out.wf).tk hn (Nat.zero_le _)).mono ?_
            rintro e u' w9 ⟨rfl, rfl, G9, hE9, hK9⟩
            refine ⟨_, results_tmp rfl _ _ _, ?_⟩
            skip
            exact ⟨rfl, G9, hE9, (HV.out.bel.trans HK2.out.below).trans hK9.below⟩
end Go.Proofs.Ytbomfekfebamkaa

/-
  solve's engine: the method first, walked.
-/
namespace Go.Proofs.Ytbomfekfebamkaa
open Go.RowKit Go.Maps
set_option linter.unusedSimpArgs false
set_option linter.unusedVariables false
/-- The values of the variables 1 .. n as booleans. -/
def valsB (va : List Int) (n : Nat) : List Bool := (List.range n).map fun v => decide (va.getD (v + 1) 0 = 1)
theorem valsB_length (va : List Int) (n : Nat) : (valsB va n).length = n := by simp [valsB]
theorem fill_set {α : Type} (l : List α) (z u : α) (n i : Nat) (hi : i < n) (hl : l.length = n) (hu : l[i]? = some u) : (l.take i ++ List.replicate (n - i) z).set i u = l.take (i + 1) ++ List.replicate (n - (i + 1)) z := by
  obtain ⟨k, rfl⟩ : ∃ k, n = i + 1 + k := ⟨n - (i + 1), by omega⟩
  rw [List.take_add_one, hu, show i + 1 + k - i = k + 1 by omega, show i + 1 + k - (i + 1) = k by omega, List.replicate_succ, List.set_append_right _ _ (by simp; omega)]
  have : (l.take i).length = i := by simp; omega
  simp [this]
theorem fill_get {α : Type} (l : List α) (z : α) (n i : Nat) (hi : i < n) (hl : l.length = n) : (l.take i ++ List.replicate (n - i) z)[i]? = some z := by
  have h : (l.take i).length = i := by simp; omega
  rw [List.getElem?_append_right (by omega), h, Nat.sub_self, List.getElem?_replicate, if_pos (by omega)]
theorem bool_infoV : (Try.prog.info? 4).map (fun i => (i.zero, i.size, i.bytes)) = some (some (.bool false), 1, 1) := by kernel_rfl
set_option maxRecDepth 100000 in
set_option maxHeartbeats 2000000 in
theorem sFirst_any (B b n : Nat) (s : V.En) (X : Int → Prop) (de : List V.Dec) (bad : Bool) (G : EG) (DE : Value) (w : World) (h : EngS w B b s X de bad G DE) (hn : n ≤ 1000000) (hl : s.va.length = n + 1) :
    Calls Try.prog 12 #[.pointer (some ⟨b, 0, none⟩), .int .i64 (n : Int)] w fun e w' => e = .returned (.slice (some ⟨w.heap.size, 0, none⟩) n n) ∧ Row w' w.heap.size 4 (bools (valsB s.va n)) ∧ Below w.heap.size w w' := by
  have R0 : Hid (Row w b 56 [G.CL, .map (some G.mb), G.VA, G.TR, .int .i64 (s.hd : Int), DE, .bool bad]) := h.row
  obtain ⟨gv, cv, hVA, _, _, hgv, hcv, hcell, _⟩ := h.core.va.at_ (i := 0) (by omega)
  have HCE : Hid (∀ u : Nat, u ≤ n → w.cell? ⟨gv, u, none⟩ = some (.int .i8 (s.va.getD u 0))) := fun u hu => hcell _ _ (i8s_get _ _ (by omega))
  have c2 : w.cell? ⟨b, 2, none⟩ = some (.slice (some ⟨gv, 0, none⟩) (n + 1) cv) := by rw [← hl, ← hVA]; exact h.row.cell 2
  have hbw : b < w.heap.size := R0.out.lt
  have hmk := fun W => make_like (P := Try.prog) Try.underlying27 bool_infoV rfl n (n : Int) rfl (by omega) (by omega) W
  have HC2 := Lib.hid c2
  clear h hVA hcell hl R0 c2
  go_enter Try.func12, Try.ntmps12
  go_wp2
  have HR0 : Hid (Row (World.alloc w (.cells (likeRow (.bool false) n) 4)) w.heap.size 4 (bools (List.replicate n false))) := by
    show Row _ _ _ _
    rw [show bools (List.replicate n false) = List.replicate n (.bool false) by simp [bools]]
    exact Row.new w 4 (List.replicate n (.bool false))
  have HB0 : Hid (Below w.heap.size w (World.alloc w (.cells (likeRow (.bool false) n) 4))) := (show Below _ _ _ by go_grown)
  revert HR0 HB0
  generalize World.alloc w (.cells (likeRow (.bool false) n) 4) = w1
  intro HR0 HB0
  clear hmk
  go_loopg [6, 11] n (fun gg _ s11 wr => ∃ i : Nat, i ≤ n ∧ n - i ≤ gg ∧ s11 = .int .i64 (i : Int) ∧ Aside (Row wr w.heap.size 4 (bools ((valsB s.va n).take i ++ List.replicate (n - i) false)) ∧ Below w.heap.size w wr))
  case atStart => exact ⟨0, Nat.zero_le _, by omega, rfl, by simpa using HR0.out, HB0.out⟩
  case round =>
    obtain ⟨i, hi, hgg, rfl, hv⟩ := hrel
    have HR := Lib.hid hv.out.1
    have HB := Lib.hid hv.out.2
    clear hv
    by_cases hlt : i < n
    · have hltz : (i : Int) < (n : Int) := by omega
      have hi1 : ((i : Int) + 1).toNat = i + 1 := by omega
      have c2 : wr.cell? ⟨b, 2, none⟩ = some (.slice (some ⟨gv, 0, none⟩) (n + 1) cv) := (HB.out.cell hbw).trans HC2.out
      have z0 : wr.cell? ⟨gv, i + 1, none⟩ = some (.int .i8 (s.va.getD (i + 1) 0)) := (HB.out.cell hgv).trans (HCE.out (i + 1) (by omega))
      have y0 : wr.cell? ⟨w.heap.size, i, none⟩ = some (.bool false) := by
        refine (Row.cell HR.out i).trans ?_
        simp only [bools, List.getElem?_map]
        rw [fill_get _ _ _ _ hlt (valsB_length _ _)]; rfl
      have y1 : wr.frozen? ⟨w.heap.size, i, none⟩ = false := Row.frozen HR.out i
      have ws : w.heap.size < wr.heap.size := Row.lt HR.out
      have hu : (valsB s.va n)[i]? = some (decide (s.va.getD (i + 1) 0 = 1)) := by simp [valsB, hlt]
      have HU := Lib.hid hu
      clear hu
      generalize s.va.getD (i + 1) 0 = uu at z0 HU
      go_wp2
      go_roundg (n - (i + 1))
      case measure => omega
      case rel =>
        refine ⟨i + 1, by omega, by omega, by go_num, ?_, HB.out.setCell (Nat.le_refl _) _⟩
        have h9 := Row.set HR.out i (.bool (uu == 1))
        rw [show (bools ((valsB s.va n).take i ++ List.replicate (n - i) false)).set i (.bool (uu == 1)) = bools (((valsB s.va n).take i ++ List.replicate (n - i) false).set i (uu == 1)) by simp [bools, List.map_set]] at h9
        rw [fill_set (valsB s.va n) false (uu == 1) n i hlt (valsB_length _ _) HU.out] at h9
        exact h9
    · have hltz : ¬ (i : Int) < (n : Int) := by omega
      obtain rfl : i = n := by omega
      go_wp2
      go_ret
      refine ⟨rfl, ?_, HB.out⟩
      have := HR.out
      rwa [List.take_of_length_le (by rw [valsB_length]; exact Nat.le_refl _), Nat.sub_self, List.replicate_zero, List.append_nil] at this
end Go.Proofs.Ytbomfekfebamkaa

/-
  Valid formulas and variables, of the program and of the reference, walked.
-/
namespace Go.Proofs.Ytbomfekfebamkaa
open Go.RowKit
set_option linter.unusedSimpArgs false
set_option linter.unusedVariables false
theorem litOk_parts {v x : Int} (h : litOk v x = true) : x ≠ 0 ∧ -v ≤ x ∧ x ≤ v := by simpa [litOk] using h
theorem litOk_not {v x : Int} (h : litOk v x = false) : x = 0 ∨ x ≠ 0 ∧ (v < x ∨ x ≤ v ∧ x < -v) := by
  have : ¬ (x ≠ 0 ∧ -v ≤ x ∧ x ≤ v) := by simpa [litOk] using h
  omega
theorem rows_all_false (l : List (List Int)) (p : List Int → Bool) (k : Nat) (hk : k < l.length) (h : p (l.getD k []) = false) : l.all p = false := by
  rw [List.all_eq_false]
  refine ⟨l.getD k [], ?_, by rw [h]; simp⟩
  rw [List.getD_eq_getElem?_getD, List.getElem?_eq_getElem hk]
  exact List.getElem_mem hk
theorem rows_all_true (l : List (List Int)) (p : List Int → Bool) (h : ∀ k, k < l.length → p (l.getD k []) = true) : l.all p = true := by
  rw [List.all_eq_true]
  intro x hx
  obtain ⟨k, hk, rfl⟩ := List.getElem_of_mem hx
  have := h k hk
  rw [List.getD_eq_getElem?_getD, List.getElem?_eq_getElem hk] at this
  exact this
set_option maxHeartbeats 1000000 in
theorem proper_any (V : Int) (A : Option Addr) (n c : Nat) (l : List Int) (w : World) (h : Rd w w.heap.size 1 A n (ints l)) (hn : n ≤ maxLen) (h0 : 0 ≤ V) (h1 : V ≤ 65536) :
    Calls Try.prog 20 #[.int .i64 V, .slice A n c] w fun e w' => e = .returned (.bool (l.all (litOk V))) ∧ w = w' := by
  have H : Hid (Rd w w.heap.size 1 A n (ints l)) := h
  have HL : Hid (l.length = n) := by have := h.1; rw [ints_length, Nat.mul_one] at this; exact this
  unfold maxLen at hn
  clear h
  go_enter Try.func20, Try.ntmps20
  go_wp2
  go_loopg [6, 9] n (fun gg _ s9 wr => ∃ k : Nat, k ≤ n ∧ n - k ≤ gg ∧ s9 = .int .i64 k ∧ Aside (w = wr) ∧ Aside (∀ j, j < k → litOk V (l.getD j 0) = true))
  case atStart => exact ⟨0, Nat.zero_le _, by omega, rfl, rfl, fun j hj => absurd hj (Nat.not_lt_zero _)⟩
  case round =>
    obtain ⟨k, hk, hgg, rfl, BW, AL⟩ := hrel
    obtain rfl := BW.out
    by_cases hlt : k < n
    · have hltz : (k : Int) < (n : Int) := by omega
      obtain ⟨ad, rfl, _, hc⟩ := H.out.int hlt
      cases hl : litOk V (l.getD k 0)
      · have HF : Hid (l.all (litOk V) = false) := all_false_at _ _ k (by rw [HL.out]; exact hlt) hl
        have hq := litOk_not hl
        clear hl
        generalize l.getD k 0 = x at hc hq
        rcases hq with rfl | ⟨q1, q2 | ⟨q2, q3⟩⟩
        · go_wp2
          go_ret
          exact ⟨ret_bool HF.out.symm, rfl⟩
        · have hx : (x == 0) = false := by simpa using q1
          go_wp2
          go_ret
          exact ⟨ret_bool HF.out.symm, rfl⟩
        · have hx : (x == 0) = false := by simpa using q1
          go_wp2
          go_ret
          exact ⟨ret_bool HF.out.symm, rfl⟩
      · obtain ⟨q1, q2, q3⟩ := litOk_parts hl
        have HK : Hid (litOk V (l.getD k 0) = true) := hl
        clear hl
        generalize hx0 : l.getD k 0 = x at hc q1 q2 q3
        have hx : (x == 0) = false := by simpa using q1
        clear hx0
        go_wp2
        go_roundg (n - (k + 1))
        case measure => omega
        case rel => exact ⟨k + 1, by omega, by omega, by go_num, rfl, (show Aside _ from fun j hj => by
          by_cases e : j = k
          · rw [e]; exact HK.out
          · exact AL.out j (by omega))⟩
    · have hltz : ¬ (k : Int) < (n : Int) := by omega
      have HT : Hid (l.all (litOk V) = true) := all_true_at _ _ (fun j hj => AL.out j (by rw [HL.out] at hj; omega))
      go_wp2
      go_ret
      exact ⟨ret_bool HT.out.symm, rfl⟩
theorem sizes_not {f : Fml} (h : sizesF f = false) : f.vars < 0 ∨ 0 ≤ f.vars ∧ (65536 < f.vars ∨ f.vars ≤ 65536 ∧ (262144 : Int) < (f.cls.length : Int)) := by
  have : ¬ (0 ≤ f.vars ∧ f.vars ≤ 65536 ∧ f.cls.length ≤ 262144) := by simpa [sizesF] using h
  omega
theorem sizes_parts {f : Fml} (h : sizesF f = true) : 0 ≤ f.vars ∧ f.vars ≤ 65536 ∧ f.cls.length ≤ 262144 := by simpa [sizesF] using h
theorem rightF_sizes {f : Fml} (h : sizesF f = false) : rightF f = false := by unfold rightF; rw [h]; rfl
theorem rightF_rows {f : Fml} (h : sizesF f = true) : rightF f = f.cls.all (fun c => c.all (litOk f.vars)) := by unfold rightF; rw [h]; rfl
set_option maxRecDepth 100000 in
set_option maxHeartbeats 2000000 in
theorem fRight_any (f : Fml) (A : Option Addr) (n c : Nat) (sl : List Sl) (w : World) (h : FAt w f A n sl) :
    Calls Try.prog 9 #[.agg #[.int .i64 f.vars, .slice A n c]] w fun e w' => e = .returned (.bool (rightF f)) ∧ Below w.heap.size w w' := by
  have H : Hid (FAt w f A n sl) := h
  have HWL : Hid (f.cls.length = n) := h.wl
  have hm := h.n63
  unfold maxLen at hm
  clear h
  cases hs : sizesF f
  · have HF : Hid (rightF f = false) := rightF_sizes hs
    have hq := sizes_not hs
    rw [HWL.out] at hq
    clear hs
    rcases hq with q1 | ⟨q1, q2 | ⟨q2, q3⟩⟩
    · go_enter Try.func9, Try.ntmps9
      go_wp2
      go_ret
      exact ⟨ret_bool HF.out.symm, by go_grown⟩
    · go_enter Try.func9, Try.ntmps9
      go_wp2
      go_ret
      exact ⟨ret_bool HF.out.symm, by go_grown⟩
    · go_enter Try.func9, Try.ntmps9
      go_wp2
      go_ret
      exact ⟨ret_bool HF.out.symm, by go_grown⟩
  have HR : Hid (rightF f = f.cls.all (fun c => c.all (litOk f.vars))) := rightF_rows hs
  obtain ⟨q1, q2, q3⟩ := sizes_parts hs
  rw [HWL.out] at q3
  clear hs
  go_enter Try.func9, Try.ntmps9
  go_wp2
  have RX : Hid (Row (World.alloc w (.cells #[.int .i64 f.vars, .slice A n c] 24)) w.heap.size 24 [.int .i64 f.vars, .slice A n c]) := Row.new w 24 [.int .i64 f.vars, .slice A n c]
  have HB : Hid (Below w.heap.size w (World.alloc w (.cells #[.int .i64 f.vars, .slice A n c] 24))) := (show Below _ _ _ by go_grown)
  revert RX HB
  generalize World.alloc w (.cells #[.int .i64 f.vars, .slice A n c] 24) = w1
  intro RX HB
  go_loopg [4, 22] n (fun gg _ s22 wr => ∃ k : Nat, k ≤ n ∧ n - k ≤ gg ∧ s22 = .int .i64 k ∧ Aside (w1 = wr) ∧ Aside (∀ j, j < k → (f.cls.getD j []).all (litOk f.vars) = true))
  case atStart => exact ⟨0, Nat.zero_le _, by omega, rfl, rfl, fun j hj => absurd hj (Nat.not_lt_zero _)⟩
  case round =>
    obtain ⟨k, hk, hgg, rfl, BW, AL⟩ := hrel
    obtain rfl := BW.out
    have k0 := RX.out.cell 0
    have k1 := RX.out.cell 1
    have kl := RX.out.lt
    simp only [List.getElem?_cons_zero, List.getElem?_cons_succ] at k0 k1
    by_cases hlt : k < n
    · have hltz : (k : Int) < (n : Int) := by omega
      obtain ⟨ad, rfl, hbl, hc, hrd, hlm, hle⟩ := (H.out.up HB.out).row hlt
      generalize sl.getD k default = s at hc hrd hlm hle
      obtain ⟨sa, sn, sc⟩ := s
      dsimp only at hc hrd hlm hle
      go_wp2_with fail
      refine (proper_any f.vars sa sn sc (f.cls.getD k []) _ hrd hlm q1 q2).mono ?_
      cases hl : (f.cls.getD k []).all (litOk f.vars)
      · have HF : Hid (rightF f = false) := HR.out.trans (rows_all_false _ _ k (by rw [HWL.out]; exact hlt) hl)
        clear hl
        rintro e w2 ⟨rfl, rfl⟩
        go_wp2
        go_ret
        exact ⟨ret_bool HF.out.symm, HB.out⟩
      · have HK : Hid ((f.cls.getD k []).all (litOk f.vars) = true) := hl
        clear hl
        rintro e w2 ⟨rfl, rfl⟩
        go_wp2
        go_roundg (n - (k + 1))
        case measure => omega
        case rel => exact ⟨k + 1, by omega, by omega, by go_num, rfl, (show Aside _ from fun j hj => by
          by_cases e : j = k
          · rw [e]; exact HK.out
          · exact AL.out j (by omega))⟩
    · have hltz : ¬ (k : Int) < (n : Int) := by omega
      have HT : Hid (rightF f = true) := HR.out.trans (rows_all_true _ _ (fun j hj => AL.out j (by rw [HWL.out] at hj; omega)))
      go_wp2
      go_ret
      exact ⟨ret_bool HT.out.symm, HB.out⟩
end Go.Proofs.Ytbomfekfebamkaa

/-
  solve.First, walked.
-/
namespace Go.Proofs.Ytbomfekfebamkaa
open Go.RowKit Go.Maps
set_option linter.unusedSimpArgs false
set_option linter.unusedVariables false
theorem new_inv {n : Nat} (N : List (List Int)) (hN : ∀ c ∈ N, V.litsOk n c) : ∃ F, V.SInv n F (V.newAll (V.startE n, false) N).1.tr (V.newAll (V.startE n, false) N).1 [] ∧ F.length ≤ N.length := by
  obtain ⟨F, k1, k2, _⟩ := V.new_spec (n := n) N [] [] (V.startE n, false) (V.start_wf n) rfl hN (fun q => by simp at q) (fun _ A => by simp [V.SatN, V.SatF, V.startE])
  refine ⟨F, ⟨k1, by rw [k2]; intro c _; unfold V.Pair; split <;> simp, by simp, by simp, by simp, fun A hA i l hl _ => hA.2 l (List.mem_of_getElem? hl)⟩, ?_⟩
  rw [← k1.clen]
  have := new_cl n N (V.startE n, false)
  have h0 : (V.startE n).cl.length = 0 := rfl
  simp only [h0] at this; omega
set_option maxRecDepth 100000 in
set_option maxHeartbeats 2000000 in
theorem sFirstF_any (f : Fml) (n : Nat) (A : Option Addr) (m c : Nat) (sl : List Sl) (w : World) (h : FAt w f A m sl) (hv : f.vars = n ∨ rightF f = false) (hlen : ∀ c ∈ f.cls, c.length ≤ 1000000) :
    Calls Try.prog 5 #[.agg #[.int .i64 f.vars, .slice A m c]] w fun e w' => Below w.heap.size w w' ∧ ((rightF f = false ∧ e = .returned (.tuple #[.slice none 0 0, .bool false, .int .i64 2])) ∨ (rightF f = true ∧
      ((V.firstE n (f.cls.map nrmI) = none ∧ e = .returned (.tuple #[.slice none 0 0, .bool false, .int .i64 0])) ∨ ∃ s g, V.firstE n (f.cls.map nrmI) = some s ∧ w.heap.size ≤ g ∧ e = .returned (.tuple #[.slice (some ⟨g, 0, none⟩) n n, .bool true, .int .i64 0]) ∧ Row w' g 4 (bools (valsB s.va n))))) := by
  have HLEN := Lib.hid hlen
  have HF0 := Lib.hid h
  clear h hlen
  go_enter Try.func5, Try.ntmps5
  go_upto_region 1 with fail
  have RX : Hid (Row (World.alloc w (.cells #[.int .i64 f.vars, .slice A m c] 24)) w.heap.size 24 [.int .i64 f.vars, .slice A m c]) := Row.new w 24 [.int .i64 f.vars, .slice A m c]
  have HB1 : Hid (Below w.heap.size w (World.alloc w (.cells #[.int .i64 f.vars, .slice A m c] 24))) := (show Below _ _ _ by go_grown)
  have HF1 : Hid (FAt (World.alloc w (.cells #[.int .i64 f.vars, .slice A m c] 24)) f A m sl) := HF0.out.up HB1.out
  revert RX HB1 HF1
  generalize (World.alloc w (.cells #[.int .i64 f.vars, .slice A m c] 24)) = w1
  intro RX HB1 HF1
  have k0 := RX.out.cell 0
  have k1 := RX.out.cell 1
  have kl := RX.out.lt
  simp only [List.getElem?_cons_zero, List.getElem?_cons_succ] at k0 k1
  go_wp2_with fail
  with_reducible refine (fRight_any f A m c sl _ HF1.out).mono ?_
  rintro e w2 ⟨rfl, hb2⟩
  have RX2 : Hid (Row w2 w.heap.size 24 [.int .i64 f.vars, .slice A m c]) := rowCells RX.out hb2
  have HF2 : Hid (FAt w2 f A m sl) := HF1.out.up hb2
  have HB2 : Hid (Below w.heap.size w w2) := HB1.out.trans (hb2.mono HB1.out.size)
  clear k0 k1 kl RX HF1 HB1 hb2
  cases hr : rightF f with
  | false =>
    go_wp2
    refine bodyPost_ret (v := .tuple #[.slice none 0 0, .bool false, .int .i64 2]) (by simp [results, Try.results5, go_sem]) rfl ?_
    exact ⟨HB2.out, .inl ⟨by first | rfl | trivial | exact hr, rfl⟩⟩
  | true =>
    have hv : f.vars = n := hv.resolve_right (by rw [hr]; nofun)
    have hs : sizesF f = true := by unfold rightF at hr; simp only [Bool.and_eq_true] at hr; exact hr.1
    obtain ⟨q1, q2, q3⟩ := sizes_parts hs
    have hlit : ∀ c ∈ f.cls, ∀ x ∈ c, V.lit n x := by
      intro c hc x hx
      have h1 := rightF_rows hs
      rw [hr] at h1
      have h2 := List.all_eq_true.1 (List.all_eq_true.1 h1.symm c hc) x hx
      obtain ⟨p1, p2, p3⟩ := litOk_parts h2
      exact ⟨p1, by omega, by omega⟩
    obtain ⟨F, hS, hFl⟩ := new_inv (n := n) (f.cls.map nrmI) (fun c hc => by
      obtain ⟨c', h1, rfl⟩ := List.mem_map.1 hc
      exact nrm_ok (hlit c' h1))
    have hwl := HF2.out.wl
    have HNE := Lib.hid (sNew_any f n A m c sl w2 HF2.out hv (by omega) (by omega) (fun c hc => ⟨HLEN.out c hc, hlit c hc⟩))
    have HFE : Hid (V.firstE n (f.cls.map nrmI) = (if (V.newAll (V.startE n, false) (f.cls.map nrmI)).2 then none else (V.searchF n (3 ^ n) (V.newAll (V.startE n, false) (f.cls.map nrmI)).1 []).map (·.1))) := (show _ = _ from rfl)
    simp only [List.length_map] at hFl
    have hnb : n ≤ 1000000 := by omega
    have hFb : F.length ≤ 1000000 := by omega
    have HS := Lib.hid hS
    have HR : Hid (∀ _ : Unit, rightF f = true) := fun _ => hr
    have HVN : Hid (∀ _ : Unit, f.vars = (n : Int)) := fun _ => hv
    clear hr hs hS hlit hwl hFl hv q1 q2 q3
    revert HNE HFE HS
    generalize V.newAll (V.startE n, false) (f.cls.map nrmI) = r
    intro HNE HFE HS
    obtain ⟨s, bd⟩ := r
    have k0 := RX2.out.cell 0
    have k1 := RX2.out.cell 1
    have kl := RX2.out.lt
    simp only [List.getElem?_cons_zero, List.getElem?_cons_succ] at k0 k1
    go_wp2_with fail
    with_reducible refine HNE.out.mono ?_
    rintro e w3 ⟨b, G, DE, rfl, hB3, hE3⟩
    have RX3 : Hid (Row w3 w.heap.size 24 [.int .i64 f.vars, .slice A m c]) := rowCells RX2.out hB3
    have HE3 := Lib.hid hE3
    have HB3 := Lib.hid hB3
    clear hE3 hB3 k0 k1 kl
    go_wp2_with fail
    have HSE := Lib.hid (sSearch_any w2.heap.size b n F s.tr s [] bd G DE (3 ^ n) w3 HE3.out (fun _ => HS.out) (by simp [V.PW]) hnb hFb HS.out.wf.tk.len)
    refine HSE.out.mono ?_
    rintro e w4 ⟨rfl, hB4, hq4⟩
    have HB4 := Lib.hid (HB3.out.trans hB4)
    have RX4 : Hid (Row w4 w.heap.size 24 [.int .i64 f.vars, .slice A m c]) := rowCells RX2.out HB4.out
    have HQ4 := Lib.hid hq4
    clear hB4 hq4 HSE
    have key := V.search_spec (n := n) (3 ^ n) s [] HS.out (by simp [V.PW])
    have KEY := Lib.hid key
    clear key
    revert HQ4 HFE KEY
    dsimp only
    generalize V.searchF n (3 ^ n) s [] = so
    intro HFE HQ4 KEY
    have HBW : Hid (Below w.heap.size w w4) := HB2.out.trans (HB4.out.mono HB2.out.size)
    have k0 := RX4.out.cell 0
    have k1 := RX4.out.cell 1
    have kl := RX4.out.lt
    simp only [List.getElem?_cons_zero, List.getElem?_cons_succ] at k0 k1
    cases bd with
    | true =>
      have hfe : V.firstE n (f.cls.map nrmI) = none := HFE.out.trans rfl
      clear HFE HQ4
      go_wp2
      refine bodyPost_ret (v := .tuple #[.slice none 0 0, .bool false, .int .i64 0]) (by simp [results, Try.results5, go_sem]) rfl ?_
      exact ⟨HBW.out, .inr ⟨HR.out (), .inl ⟨hfe, rfl⟩⟩⟩
    | false =>
      cases so with
      | none =>
        have hfe : V.firstE n (f.cls.map nrmI) = none := HFE.out.trans rfl
        have HFN := Lib.hid hfe
        clear HFE HQ4 hfe
        go_wp2
        refine bodyPost_ret (v := .tuple #[.slice none 0 0, .bool false, .int .i64 0]) (by simp [results, Try.results5, go_sem]) rfl ?_
        exact ⟨HBW.out, .inr ⟨HR.out (), .inl ⟨HFN.out, rfl⟩⟩⟩
      | some q =>
        have hfe : V.firstE n (f.cls.map nrmI) = some q.1 := HFE.out.trans rfl
        have HFN := Lib.hid hfe
        obtain ⟨G5, DE5, hE5, _⟩ := HQ4.out q rfl rfl
        have HFI := Lib.hid (sFirst_any w2.heap.size b n q.1 _ _ false G5 DE5 w4 hE5 hnb KEY.out.1.wf.tk.len)
        clear HFE HQ4 hfe hE5
        go_wp2_with fail
        rw [HVN.out ()]
        with_reducible refine HFI.out.mono ?_
        rintro e w5 ⟨rfl, hR5, hB5⟩
        have HR5 := Lib.hid hR5
        have HB5 := Lib.hid (HBW.out.trans (hB5.mono HBW.out.size))
        clear hR5 hB5
        go_wp2
        refine bodyPost_ret (v := .tuple #[.slice (some ⟨w4.heap.size, 0, none⟩) n n, .bool true, .int .i64 0]) (by simp [results, Try.results5, go_sem]) rfl ?_
        exact ⟨HB5.out, .inr ⟨HR.out (), .inr ⟨q.1, w4.heap.size, HFN.out, HBW.out.size, rfl, HR5.out⟩⟩⟩
end Go.Proofs.Ytbomfekfebamkaa

/-
  refute: with and valid, walked.
-/
namespace Go.Proofs.Ytbomfekfebamkaa
open Go.RowKit Go.Maps
set_option linter.unusedSimpArgs false
set_option linter.unusedVariables false
theorem addR_len (g : V.RE) (d : List Int) : (V.addR g d).s.cl.length ≤ g.s.cl.length + 1 ∧ (V.addR g d).units.length ≤ g.units.length + 1 := by
  unfold V.addR
  split
  · omega
  · split
    · dsimp only; omega
    · simp
    · simp [V.addCl]
theorem withR_snoc (n : Nat) (N : List (List Int)) (d : List Int) : V.withR n (N ++ [d]) = V.addR (V.withR n N) d := by simp [V.withR, List.foldl_append]
theorem foldR_len : ∀ (N : List (List Int)) (g : V.RE), (N.foldl V.addR g).s.cl.length ≤ g.s.cl.length + N.length ∧ (N.foldl V.addR g).units.length ≤ g.units.length + N.length
  | [], g => by simp
  | d :: N, g => by
    have h := foldR_len N (V.addR g d)
    have h2 := addR_len g d
    simp only [List.foldl_cons, List.length_cons]
    omega
theorem withR_len (n : Nat) (N : List (List Int)) : (V.withR n N).s.cl.length ≤ N.length ∧ (V.withR n N).units.length ≤ N.length := by
  have h := foldR_len N ⟨V.startE n, [], false⟩
  have e : (V.startE n).cl.length = 0 := rfl
  simp only [e, List.length_nil, Nat.zero_add] at h
  exact h
set_option maxRecDepth 100000 in
set_option maxHeartbeats 4000000 in
theorem pWith_any (f : Fml) (n : Nat) (A : Option Addr) (m c : Nat) (sl : List Sl) (w : World) (h : FAt w f A m sl) (hv : f.vars = n) (hn : n ≤ 1000000) (hm : m ≤ 1000000) (hl : ∀ c ∈ f.cls, c.length ≤ 1000000 ∧ ∀ x ∈ c, V.lit n x) :
    Calls Try.prog 13 #[.agg #[.int .i64 f.vars, .slice A m c]] w fun e w' => ∃ b G US, e = .returned (.pointer (some ⟨b, 0, none⟩)) ∧ Below w.heap.size w w' ∧ EngR w' (w.heap.size + 1) b (V.withR n (f.cls.map nrmI)).s (fun _ => False) (V.withR n (f.cls.map nrmI)).units (V.withR n (f.cls.map nrmI)).empty G US := by
  have H := Lib.hid h
  have HL := Lib.hid hl
  have HWL := Lib.hid h.wl
  rw [hv]
  clear h hl hv
  go_enter Try.func13, Try.ntmps13
  go_upto_region 1 with fail
  have HB0 : Hid (Below w.heap.size w ((World.alloc w (.cells #[.int .i64 (n : Int), .slice A m c] 24)))) := (show Below _ _ _ by go_grown)
  have RF0 : Hid (Row ((World.alloc w (.cells #[.int .i64 (n : Int), .slice A m c] 24))) w.heap.size 24 [.int .i64 (n : Int), .slice A m c]) := Row.new w _ [.int .i64 (n : Int), .slice A m c]
  have hs1 : ((World.alloc w (.cells #[.int .i64 (n : Int), .slice A m c] 24))).heap.size = w.heap.size + 1 := by simp
  revert HB0 RF0 hs1
  generalize (World.alloc w (.cells #[.int .i64 (n : Int), .slice A m c] 24)) = w1
  intro HB0 RF0 hs1
  have HS1 := Lib.hid hs1
  have k0 := RF0.out.cell 0
  have k1 := RF0.out.cell 1
  have kl := RF0.out.lt
  simp only [List.getElem?_cons_zero, List.getElem?_cons_succ] at k0 k1
  have HNEW := Lib.hid (pNew_any n w1 hn)
  clear hs1
  go_wp2_with fail
  refine HNEW.out.mono ?_
  rintro e w2 ⟨G0, rfl, hb2, hE2⟩
  have HE2 := Lib.hid hE2
  have HB2 : Hid (Below w.heap.size w w2) := HB0.out.trans (hb2.mono HB0.out.size)
  have RF2 : Hid (Row w2 w.heap.size 24 [.int .i64 (n : Int), .slice A m c]) := rowCells RF0.out hb2
  clear hb2 hE2 HNEW k0 k1 kl RF0 HB0
  have k0 := RF2.out.cell 0
  have k1 := RF2.out.cell 1
  have kl := RF2.out.lt
  simp only [List.getElem?_cons_zero, List.getElem?_cons_succ] at k0 k1
  go_wp2_with fail
  clear k0 k1 kl
  rw [HS1.out] at HE2
  rw [HS1.out]
  go_loopg [5, 12] m (fun gg _ s12 wr => ∃ i : Nat, i ≤ m ∧ m - i ≤ gg ∧ s12 = .int .i64 (i : Int) ∧ ∃ G US, Aside (EngR wr (w.heap.size + 1) (w.heap.size + 1 + 1 + 1) (V.withR n ((f.cls.take i).map nrmI)).s (fun _ => False) (V.withR n ((f.cls.take i).map nrmI)).units (V.withR n ((f.cls.take i).map nrmI)).empty G US ∧ Below w.heap.size w wr))
  case atStart => exact ⟨0, Nat.zero_le _, by omega, rfl, G0, _, HE2.out, HB2.out⟩
  case round =>
    obtain ⟨i, hi, hgg, rfl, G, US, hv⟩ := hrel
    have HE := Lib.hid hv.out.1
    have HB := Lib.hid hv.out.2
    clear hv
    by_cases hlt : i < m
    · have hltz : (i : Int) < (m : Int) := by omega
      obtain ⟨ad, rfl, hbl, hc, hrd, hlm, hle⟩ := (H.out.up HB.out).row hlt
      have hcm : f.cls.getD i [] ∈ f.cls := by
        have := HWL.out
        rw [List.getD_eq_getElem?_getD, List.getElem?_eq_getElem (by omega)]; exact List.getElem_mem _
      have htk : f.cls.take (i + 1) = f.cls.take i ++ [f.cls.getD i []] := by
        have := HWL.out
        rw [List.take_succ_eq_append_getElem (by omega), List.getD_eq_getElem?_getD, List.getElem?_eq_getElem (by omega)]; rfl
      have HTK := Lib.hid htk
      have hcl := (HL.out _ hcm).1
      have hcx := (HL.out _ hcm).2
      generalize sl.getD i default = sx at hc hrd hlm hle
      obtain ⟨sa, sn, sc⟩ := sx
      dsimp only at hc hrd hlm hle
      revert HTK hrd hle hcl hcx
      generalize f.cls.getD i [] = cc
      intro HTK hcl hcx hrd hle
      obtain ⟨F, hG⟩ := V.with_spec (n := n) ((f.cls.take i).map nrmI) (fun c hc => by
        obtain ⟨c', h1, rfl⟩ := List.mem_map.1 hc
        exact nrm_ok (HL.out c' (List.mem_of_mem_take h1)).2)
      have hln := withR_len n ((f.cls.take i).map nrmI)
      have hlk : ((f.cls.take i).map nrmI).length ≤ 1000000 := by simp; omega
      have hst : V.withR n ((f.cls.take (i + 1)).map nrmI) = V.addR (V.withR n ((f.cls.take i).map nrmI)) (nrmI cc) := by
        rw [HTK.out, List.map_append, List.map_cons, List.map_nil, withR_snoc]
      have HST := Lib.hid hst
      have HAD := Lib.hid (pAdd_any (w.heap.size + 1) (w.heap.size + 1 + 1 + 1) n F _ _ _ G US sa sn sc cc wr HE.out hG.wf hn (by have := hG.wf.clen; omega) (by omega) hrd (by omega) hcx)
      clear hcm htk hrd hcx hlm hG hln hlk hst hle hcl
      go_wp2_with fail
      refine HAD.out.mono ?_
      rintro e w7 ⟨rfl, G7, US7, hE7, hB7⟩
      have HE7 := Lib.hid hE7
      have HB7 := Lib.hid (HB.out.trans (hB7.mono (by omega)))
      clear hE7 hB7 hc
      go_wp2
      go_roundg (m - (i + 1))
      case measure => omega
      case rel =>
        refine ⟨i + 1, by omega, by omega, by go_num, G7, US7, ?_, HB7.out⟩
        rw [HST.out]
        exact HE7.out
    · have hltz : ¬ (i : Int) < (m : Int) := by omega
      have him : m = i := by omega
      subst him
      go_wp2
      go_ret
      have := HWL.out
      have HE' := HE.out
      rw [List.take_of_length_le (by omega)] at HE'
      exact ⟨_, rfl, HB.out, G, US, HE'⟩
set_option maxRecDepth 100000 in
set_option maxHeartbeats 1000000 in
theorem pValid_any (f : Fml) (pf : List (List Int)) (A PA : Option Addr) (m c pn pc : Nat) (sl ps : List Sl) (w : World) (h : FAt w f A m sl) (hp : FAt w ⟨f.vars, pf⟩ PA pn ps) (h1 : rightF f = true) (h2 : rightF ⟨f.vars, pf⟩ = true) :
    Calls Try.prog 18 #[.agg #[.int .i64 f.vars, .slice A m c], .slice PA pn pc] w fun e w' => e = .returned (.bool true) ∧ Below w.heap.size w w' := by
  have H := Lib.hid h
  have HP := Lib.hid hp
  have H1 := Lib.hid h1
  have H2 := Lib.hid h2
  clear h hp h1 h2
  go_enter Try.func18, Try.ntmps18
  go_upto_region 1 with fail
  have HB0 : Hid (Below w.heap.size w (World.alloc w (.cells #[.int .i64 f.vars, .slice A m c] 24))) := (show Below _ _ _ by go_grown)
  have RF0 : Hid (Row (World.alloc w (.cells #[.int .i64 f.vars, .slice A m c] 24)) w.heap.size 24 [.int .i64 f.vars, .slice A m c]) := Row.new w _ [.int .i64 f.vars, .slice A m c]
  revert HB0 RF0
  generalize World.alloc w (.cells #[.int .i64 f.vars, .slice A m c] 24) = w1
  intro HB0 RF0
  have k0 := RF0.out.cell 0
  have k1 := RF0.out.cell 1
  have kl := RF0.out.lt
  simp only [List.getElem?_cons_zero, List.getElem?_cons_succ] at k0 k1
  have HC := fRight_any f A m c sl w1 (H.out.up HB0.out)
  rw [H1.out] at HC
  go_wp2_with fail
  refine HC.mono ?_
  clear HC
  rintro e w2 ⟨rfl, hb2⟩
  have HB2 : Hid (Below w.heap.size w w2) := HB0.out.trans (hb2.mono HB0.out.size)
  have RF2 : Hid (Row w2 w.heap.size 24 [.int .i64 f.vars, .slice A m c]) := rowCells RF0.out hb2
  clear hb2 k0 k1 kl RF0 HB0
  have k0 := RF2.out.cell 0
  have k1 := RF2.out.cell 1
  have kl := RF2.out.lt
  simp only [List.getElem?_cons_zero, List.getElem?_cons_succ] at k0 k1
  have HC := fRight_any ⟨f.vars, pf⟩ PA pn pc ps w2 (HP.out.up HB2.out)
  rw [H2.out] at HC
  dsimp only at HC
  go_wp2_with fail
  refine HC.mono ?_
  clear HC
  rintro e w3 ⟨rfl, hb3⟩
  go_wp2
  go_ret
  exact ⟨rfl, HB2.out.trans (hb3.mono HB2.out.size)⟩
end Go.Proofs.Ytbomfekfebamkaa

/-
  refute: check and Check at a proof that is accepted, walked.
-/
namespace Go.Proofs.Ytbomfekfebamkaa
open Go.RowKit Go.Maps
set_option linter.unusedSimpArgs false
set_option linter.unusedVariables false
theorem foll_eta (n : Nat) (s : V.En) (us : List Int) (em : Bool) (c : List Int) : (V.followsR n ⟨s, us, em⟩ c).1 = ⟨(V.followsR n ⟨s, us, em⟩ c).1.s, us, em⟩ := by
  unfold V.followsR
  dsimp only
  split <;> rfl
/-- What check's loop knows. -/
structure CK (n : Nat) (pf : List (List Int)) (m i B b : Nat) (g : V.RE) (G : EG) (US : Value) (w wr : World) : Prop where
  inv : ∃ D F, V.GInv n D F g
  chk : V.checkI n nrmI (pf.drop i) g i = none
  clen : g.s.cl.length ≤ m + i
  ulen : g.units.length ≤ m + i
  eng : EngR wr B b g.s (fun _ => False) g.units g.empty G US
  bel : Below w.heap.size w wr
theorem CK.step {n : Nat} {pf : List (List Int)} {m i B b : Nat} {g : V.RE} {G : EG} {US : Value} {w wr : World} (h : CK n pf m i B b g G US w wr) {c : List Int} (hc : pf.drop i = c :: pf.drop (i + 1)) (hl : ∀ x ∈ c, V.lit n x) :
    (V.followsR n g c).2 = true ∧ (∃ D F, V.GInv n D F (V.followsR n g c).1) ∧ (V.followsR n g c).1.s.cl.length ≤ m + i ∧
    ∀ G' US' w', EngR w' B b (V.addR (V.followsR n g c).1 (nrmI c)).s (fun _ => False) (V.addR (V.followsR n g c).1 (nrmI c)).units (V.addR (V.followsR n g c).1 (nrmI c)).empty G' US' → Below w.heap.size w w' → CK n pf m (i + 1) B b (V.addR (V.followsR n g c).1 (nrmI c)) G' US' w w' := by
  obtain ⟨D, F, hG⟩ := h.inv
  have hk := h.chk
  rw [hc] at hk
  unfold V.checkI at hk
  have hf : (V.followsR n g c).2 = true := by
    cases hq : (V.followsR n g c).2 with
    | true => rfl
    | false => rw [hq] at hk; simp at hk
  rw [if_pos hf] at hk
  obtain ⟨f1, f2, _⟩ := V.follows_spec hG hl
  have hcl : (V.followsR n g c).1.s.cl.length ≤ m + i := by
    have h1 := f1.wf.clen
    have h2 := hG.wf.clen
    have := h.clen
    omega
  obtain ⟨F', h'⟩ := V.add_spec f1 (nrm_ok hl)
  have ha := addR_len (V.followsR n g c).1 (nrmI c)
  refine ⟨hf, ⟨D, F, f1⟩, hcl, fun G' US' w' hE hB => ⟨⟨_, F', h'⟩, hk, by omega, ?_, hE, hB⟩⟩
  have := h.ulen
  rw [← f2] at this
  omega
set_option maxRecDepth 100000 in
set_option maxHeartbeats 4000000 in
theorem pChk_any (f : Fml) (n : Nat) (pf : List (List Int)) (A PA : Option Addr) (m c pn pc : Nat) (sl ps : List Sl) (w : World) (h : FAt w f A m sl) (hp : FAt w ⟨f.vars, pf⟩ PA pn ps) (hv : f.vars = n) (hn : n ≤ 1000000) (hm : m ≤ 400000) (hpn : pn ≤ 400000) (hl : ∀ c ∈ f.cls, c.length ≤ 1000000 ∧ ∀ x ∈ c, V.lit n x)
    (hpl : ∀ c ∈ pf, c.length ≤ 1000000 ∧ ∀ x ∈ c, V.lit n x) (hk : V.checkI n nrmI pf (V.withR n (f.cls.map nrmI)) 0 = none) (hla : ∃ a, pf = a ++ [[]]) :
    Calls Try.prog 19 #[.agg #[.int .i64 f.vars, .slice A m c], .slice PA pn pc] w fun e w' => e = .returned (.tuple #[.int .i64 (pn : Int), .int .i64 0]) ∧ Below w.heap.size w w' := by
  have H := Lib.hid h
  have HP := Lib.hid hp
  have HL := Lib.hid hl
  have HPL := Lib.hid hpl
  have HK := Lib.hid hk
  have HLA := Lib.hid hla
  have HWL := Lib.hid h.wl
  have HPW : Hid (pf.length = pn) := hp.wl
  have HV : Hid (∀ _ : Unit, f.vars = n) := fun _ => hv
  clear h hp hl hpl hk hla hv
  go_enter Try.func19, Try.ntmps19
  go_upto_region 1 with fail
  have HB0 : Hid (Below w.heap.size w ((World.alloc w (.cells #[.int .i64 f.vars, .slice A m c] 24)))) := (show Below _ _ _ by go_grown)
  have RF0 : Hid (Row ((World.alloc w (.cells #[.int .i64 f.vars, .slice A m c] 24))) w.heap.size 24 [.int .i64 f.vars, .slice A m c]) := Row.new w _ [.int .i64 f.vars, .slice A m c]
  have hs1 : ((World.alloc w (.cells #[.int .i64 f.vars, .slice A m c] 24))).heap.size = w.heap.size + 1 := by simp
  revert HB0 RF0 hs1
  generalize (World.alloc w (.cells #[.int .i64 f.vars, .slice A m c] 24)) = w1
  intro HB0 RF0 hs1
  have HS1 := Lib.hid hs1
  have k0 := RF0.out.cell 0
  have k1 := RF0.out.cell 1
  have kl := RF0.out.lt
  simp only [List.getElem?_cons_zero, List.getElem?_cons_succ] at k0 k1
  have HWI := Lib.hid (pWith_any f n A m c sl w1 (H.out.up HB0.out) (HV.out ()) hn (by omega) HL.out)
  clear hs1
  go_wp2_with fail
  refine HWI.out.mono ?_
  rintro e w2 ⟨b, G0, US0, rfl, hb2, hE2⟩
  have HB2 : Hid (Below w.heap.size w w2) := HB0.out.trans (hb2.mono HB0.out.size)
  rw [HS1.out] at hE2
  have HCK : Hid (CK n pf m 0 (w.heap.size + 1 + 1) b (V.withR n (f.cls.map nrmI)) G0 US0 w w2) := by
    have hln := withR_len n (f.cls.map nrmI)
    have := HWL.out
    obtain ⟨F, hG⟩ := V.with_spec (n := n) (f.cls.map nrmI) (fun c hc => by
      obtain ⟨c', h1, rfl⟩ := List.mem_map.1 hc
      exact nrm_ok (HL.out c' h1).2)
    simp only [List.length_map] at hln
    exact ⟨⟨_, F, hG⟩, by simpa using HK.out, by omega, by omega, hE2, HB2.out⟩
  clear hb2 hE2 HWI k0 k1 kl RF0 HB0
  go_wp2_with fail
  go_loopg [7, 8, 14] pn (fun gg _ _ s14 wr => ∃ i : Nat, i ≤ pn ∧ pn - i ≤ gg ∧ s14 = .int .i64 (i : Int) ∧ ∃ g G US, Aside (CK n pf m i (w.heap.size + 1 + 1) b g G US w wr))
  case atStart => exact ⟨0, Nat.zero_le _, by omega, rfl, _, _, _, HCK.out⟩
  case round =>
    obtain ⟨i, hi, hgg, rfl, g, G, US, hv⟩ := hrel
    have HC := Lib.hid (show CK n pf m i (w.heap.size + 1 + 1) b g G US w wr from hv)
    clear hv HCK
    by_cases hlt : i < pn
    · have hltz : (i : Int) < (pn : Int) := by omega
      obtain ⟨ad, rfl, hbl, hc, hrd, hlm, hle⟩ := HP.out.row hlt
      have hc' := (HC.out.bel.cell (p := ad.add i) (by rw [add_block]; exact hbl)).trans hc
      have hip : i < pf.length := by have := HPW.out; omega
      have hcm : pf.getD i [] ∈ pf := by
        rw [List.getD_eq_getElem?_getD, List.getElem?_eq_getElem hip]; exact List.getElem_mem _
      have hdr : pf.drop i = pf.getD i [] :: pf.drop (i + 1) := by
        rw [List.drop_eq_getElem_cons hip, List.getD_eq_getElem?_getD, List.getElem?_eq_getElem hip]; rfl
      have hcl := (HPL.out _ hcm).1
      have hcx := (HPL.out _ hcm).2
      generalize ps.getD i default = sx at hc hc' hrd hlm hle
      obtain ⟨sa, sn, sc⟩ := sx
      dsimp only at hc hc' hrd hlm hle
      revert hdr hrd hle hcl hcx
      generalize pf.getD i [] = cc
      intro hdr hcl hcx hrd hle
      obtain ⟨hf, ⟨D, F, hG⟩, hcl2, hst⟩ := HC.out.step hdr hcx
      obtain ⟨D0, F0, hG0⟩ := HC.out.inv
      obtain ⟨s, us, em⟩ := g
      have hus : us.length ≤ m + i := HC.out.ulen
      have hrd2 : Rd wr (w.heap.size + 1 + 1) 1 sa sn (ints cc) := (hrd.below HC.out.bel (Nat.le_refl _)).more (by omega)
      have hFL := pFollows_any (w.heap.size + 1 + 1) b n F0 s us em G US sa sn sc cc wr HC.out.eng hG0.wf hG0.hd0 hn (by have h1 : s.cl.length = F0.length := hG0.wf.clen; have h2 : s.cl.length ≤ m + i := HC.out.clen; omega) (by omega) hG0.ulit hrd2 (by omega) hcx
      rw [hf] at hFL
      rw [foll_eta] at hst hG
      generalize (V.followsR n ⟨s, us, em⟩ cc).1.s = s2 at hst hG hFL hcl2
      have HFL := Lib.hid hFL
      have HST := Lib.hid hst
      have HG := Lib.hid hG
      have HRD := Lib.hid hrd
      have HCX := Lib.hid hcx
      have hsn : sn ≤ 1000000 := by omega
      have HCL2 : Hid (s2.cl.length ≤ m + i) := hcl2
      clear hFL hst hG hrd hcx hdr hf hrd2 hcm hG0 hcl2 hcl hle hlm hc hip
      go_wp2_with fail
      refine HFL.out.mono ?_
      rintro e w3 ⟨rfl, G3, hE3, hB3⟩
      have hB3' : Below w.heap.size w w3 := HC.out.bel.trans (hB3.mono (by omega))
      have HAD := Lib.hid (pAdd_any (w.heap.size + 1 + 1) b n F s2 us em G3 US sa sn sc cc w3 hE3 HG.out.wf hn (by have h1 : s2.cl.length = F.length := HG.out.wf.clen; have h2 : s2.cl.length ≤ m + i := HCL2.out; omega) (by omega) ((HRD.out.below hB3' (Nat.le_refl _)).more hB3'.size) hsn HCX.out)
      have HB3 := Lib.hid hB3'
      clear hB3 hB3' hE3
      go_wp2_with fail
      refine HAD.out.mono ?_
      rintro e w4 ⟨rfl, G4, US4, hE4, hB4⟩
      have HN := Lib.hid (HST.out G4 US4 w4 hE4 (HB3.out.trans (hB4.mono (by omega))))
      clear hE4 hB4 hc'
      go_wp2
      go_roundg (pn - (i + 1))
      case measure => omega
      case rel => exact ⟨i + 1, by omega, by omega, by go_num, _, _, _, HN.out⟩
    · have hltz : ¬ (i : Int) < (pn : Int) := by omega
      have him : pn = i := by omega
      subst him
      obtain ⟨a, ha⟩ := HLA.out
      have hpl1 : pn = a.length + 1 := by have := HPW.out; rw [ha] at this; simpa using this.symm
      obtain ⟨ad, rfl, hbl, hc, hrd, hlm, hle⟩ := HP.out.row (k := a.length) (by omega)
      have hc' := (HC.out.bel.cell (p := ad.add a.length) (by rw [add_block]; exact hbl)).trans hc
      have hlast : pf.getD a.length [] = [] := by rw [ha]; simp [List.getD_eq_getElem?_getD]
      have hle' : ([] : List Int).length = (ps.getD a.length default).len := by
        have := hle
        dsimp only at this
        rwa [hlast] at this
      generalize ps.getD a.length default = sx at hc hc' hrd hlm hle hle'
      obtain ⟨sa, sn, sc⟩ := sx
      dsimp only at hc hc' hle'
      simp only [List.length_nil] at hle'
      subst hle'
      have hpp : ((a.length + 1 : Nat) : Int) - 1 = (a.length : Int) := by omega
      have hw : IntKind.i64.wrap (((a.length + 1 : Nat) : Int) - 1) = (a.length : Int) := by rw [hpp]; exact IntWalk.i64_in _ (by omega)
      subst hpl1
      have hne : ¬ ((a.length + 1 : Nat) : Int) = 0 := by omega
      have hix : (a.length : Int) < ((a.length + 1 : Nat) : Int) := by omega
      have HB := Lib.hid HC.out.bel
      clear ha hrd hlm hle hc HLA HC HPW hlast
      go_wp2
      refine bodyPost_ret (v := .tuple #[.int .i64 ((a.length + 1 : Nat) : Int), .int .i64 0]) (by simp [results, Try.results19, go_sem]) rfl ?_
      exact ⟨rfl, HB.out⟩
set_option maxRecDepth 100000 in
set_option maxHeartbeats 1000000 in
theorem pCheck_any (f : Fml) (n : Nat) (pf : List (List Int)) (A PA : Option Addr) (m c pn pc : Nat) (sl ps : List Sl) (w : World) (h : FAt w f A m sl) (hp : FAt w ⟨f.vars, pf⟩ PA pn ps) (hr1 : rightF f = true) (hr2 : rightF ⟨f.vars, pf⟩ = true) (hv : f.vars = n) (hn : n ≤ 1000000) (hm : m ≤ 400000) (hpn : pn ≤ 400000) (hl : ∀ c ∈ f.cls, c.length ≤ 1000000 ∧ ∀ x ∈ c, V.lit n x)
    (hpl : ∀ c ∈ pf, c.length ≤ 1000000 ∧ ∀ x ∈ c, V.lit n x) (hk : V.checkI n nrmI pf (V.withR n (f.cls.map nrmI)) 0 = none) (hla : ∃ a, pf = a ++ [[]]) :
    Calls Try.prog 7 #[.agg #[.int .i64 f.vars, .slice A m c], .slice PA pn pc] w fun e w' => e = .returned (.tuple #[.int .i64 (pn : Int), .int .i64 0]) ∧ Below w.heap.size w w' := by
  have H := Lib.hid h
  have HP := Lib.hid hp
  have HX := Lib.hid (And.intro hr1 hr2)
  have HY := Lib.hid (And.intro hl (And.intro hpl (And.intro hk hla)))
  have HV : Hid (∀ _ : Unit, f.vars = n) := fun _ => hv
  clear h hp hr1 hr2 hl hpl hk hla hv
  go_enter Try.func7, Try.ntmps7
  go_upto_region 1 with fail
  have HB0 : Hid (Below w.heap.size w ((World.alloc w (.cells #[.int .i64 f.vars, .slice A m c] 24)))) := (show Below _ _ _ by go_grown)
  have RF0 : Hid (Row ((World.alloc w (.cells #[.int .i64 f.vars, .slice A m c] 24))) w.heap.size 24 [.int .i64 f.vars, .slice A m c]) := Row.new w _ [.int .i64 f.vars, .slice A m c]
  revert HB0 RF0
  generalize (World.alloc w (.cells #[.int .i64 f.vars, .slice A m c] 24)) = w1
  intro HB0 RF0
  have k0 := RF0.out.cell 0
  have k1 := RF0.out.cell 1
  have kl := RF0.out.lt
  simp only [List.getElem?_cons_zero, List.getElem?_cons_succ] at k0 k1
  have HC := pValid_any f pf A PA m c pn pc sl ps w1 (H.out.up HB0.out) (HP.out.up HB0.out) HX.out.1 HX.out.2
  go_wp2_with fail
  refine HC.mono ?_
  clear HC
  rintro e w2 ⟨rfl, hb2⟩
  have HB2 : Hid (Below w.heap.size w w2) := HB0.out.trans (hb2.mono HB0.out.size)
  have RF2 : Hid (Row w2 w.heap.size 24 [.int .i64 f.vars, .slice A m c]) := rowCells RF0.out hb2
  clear hb2 k0 k1 kl RF0 HB0
  have k0 := RF2.out.cell 0
  have k1 := RF2.out.cell 1
  have kl := RF2.out.lt
  simp only [List.getElem?_cons_zero, List.getElem?_cons_succ] at k0 k1
  have HC := pChk_any f n pf A PA m c pn pc sl ps w2 (H.out.up HB2.out) (HP.out.up HB2.out) (HV.out ()) hn hm hpn HY.out.1 HY.out.2.1 HY.out.2.2.1 HY.out.2.2.2
  go_wp2_with fail
  refine HC.mono ?_
  clear HC
  rintro e w3 ⟨rfl, hb3⟩
  go_wp2
  refine bodyPost_ret (v := .tuple #[.int .i64 (pn : Int), .int .i64 0]) (by simp [results, Try.results7, go_sem]) rfl ?_
  exact ⟨rfl, HB2.out.trans (hb3.mono HB2.out.size)⟩
end Go.Proofs.Ytbomfekfebamkaa
