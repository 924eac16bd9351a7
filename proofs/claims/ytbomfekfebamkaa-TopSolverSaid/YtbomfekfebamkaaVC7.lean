/-
  solve's engine: the method visit, walked.
-/
import Derived.Test.YtbomfekfebamkaaVC5
import Derived.Test.YtbomfekfebamkaaVC4
import Derived.Test.YtbomfekfebamkaaVC6
import Derived.BigQuiet
import Derived.Deep.Cut
import Derived.Deep.CutRange
namespace Go.Proofs.Ytbomfekfebamkaa
open Go.RowKit Go.Maps
set_option linter.unusedSimpArgs false
set_option linter.unusedVariables false
theorem farC {w : World} {O : Nat → Ow} {g gk k : Nat} {T : TypeId} {xs : List Value} {t : Ow} (hr : Row w g T xs) (h1 : O g = t) (h2 : O gk = .clause k) (hne : t ≠ .clause k) (j : Nat) (u : Value) : Row (w.setCell ⟨gk, j, none⟩ u) g T xs :=
  hr.far (fun e => hne (by rw [← h1, ← h2, e])) u
theorem int_keyedV : Keyed Try.prog 3 := int_keyed Try.underlying3
theorem keyV (x : Int) (h : (Lit.int .i64 x).wf = true) : keyOf Try.prog 3 (.int .i64 x) = some (.int .i64 x) := by
  simp [keyOf, mapKey, Try.underlying3, h]
theorem lit_wf {n : Nat} (hn : n ≤ 1000000) {x : Int} (h : V.lit n x) : (Lit.int .i64 x).wf = true := by
  obtain ⟨_, h1, h2⟩ := h
  simp only [Lit.wf, decide_eq_true_eq, Bool.and_eq_true]
  simp only [IntKind.min, IntKind.max, IntKind.bits, IntKind.signed]
  simp
  omega
set_option maxRecDepth 100000 in
set_option maxHeartbeats 1000000 in
theorem sClos_any (B b n eb : Nat) (s : V.En) (X : Int → Prop) (de : List V.Dec) (bad : Bool) (G : EG) (DE : Value) (y : Int) (w : World) (h : EngS w B b s X de bad G DE) (hr : Row w eb 37 [.pointer (some ⟨b, 0, none⟩)]) (hn : n ≤ 1000000) (hy : V.lit n y) (htk : V.TrOk n s.va s.tr) :
    Calls Try.prog 52 #[.int .i64 y, .pointer (some ⟨eb, 0, none⟩)] w fun e w' => e = .returned (.bool (V.notFalse s.va y)) ∧ w' = w := by
  have HC := Lib.hid (sOf_any B b n s X de bad G DE y w h hn hy htk)
  have REB := Lib.hid hr
  clear h hr htk hy
  unfold V.notFalse
  generalize V.valL s.va y = v at *
  have e0 := REB.out.cell 0
  have el := REB.out.lt
  simp only [List.getElem?_cons_zero, List.getElem?_cons_succ] at e0
  go_enter Try.func52, Try.ntmps52
  go_wp2_with fail
  refine HC.out.mono ?_
  rintro e w' ⟨rfl, rfl⟩
  go_wp2
  go_ret
  exact ⟨ret_bool (by rw [Bool.eq_iff_iff]; simp), rfl⟩
set_option maxRecDepth 100000 in
set_option maxHeartbeats 4000000 in
theorem sVisit_any (B b n : Nat) (F : List (List Int)) (s : V.En) (de : List V.Dec) (bad : Bool) (G : EG) (DE : Value) (x : Int) (w : World) (h : EngS w B b s (fun _ => False) de bad G DE) (hW : V.WF n F s) (hn : n ≤ 1000000) (hF : F.length ≤ 1000000) (hx : V.lit n x) (hxt : -x ∈ s.tr) :
    Calls Try.prog 37 #[.pointer (some ⟨b, 0, none⟩), .int .i64 x] w fun e w' => e = .returned (.bool (V.visitC x (s.wa x) [] s).2) ∧ ∃ G', EngS w' B b (V.visitC x (s.wa x) [] s).1 (fun _ => False) de bad G' DE ∧ Below B w w' ∧ ∀ g, g < w.heap.size → G'.O g = G.O g := by
  have hwl := hW.wle x
  have HX := Lib.hid hx
  have H := Lib.hid h
  have HW := Lib.hid hW
  have HT := Lib.hid hxt
  have hx1 := hx.2.1
  have hx2 := hx.2.2
  clear h hW hxt hx
  go_enter Try.func37, Try.ntmps37
  go_upto_region 1 with fail
  have hlk := fun W (hM : MI W Try.prog 3 G.mb G.fn (.slice none 0 0)) => hM.lookup int_keyedV Try.underlying43 (Try.zeroValue26 W) (keyV x (lit_wf hn HX.out))
  have E0 : Hid (EngS (w.alloc (.cells #[.pointer (some ⟨b, 0, none⟩)] 37)) B b s (fun _ => False) de bad { G with O := newO G.O w.heap.size .none } DE) := (H.out.reNew .none).alloc _
  have REB : Hid (Row (w.alloc (.cells #[.pointer (some ⟨b, 0, none⟩)] 37)) w.heap.size 37 [.pointer (some ⟨b, 0, none⟩)]) := Row.new w _ [.pointer (some ⟨b, 0, none⟩)]
  have HB : Hid (Below B w (w.alloc (.cells #[.pointer (some ⟨b, 0, none⟩)] 37))) := (Below.refl B w).alloc (by have := H.out.row.lt; have := H.out.hb; omega) _
  have HO : Hid (∀ g, g < w.heap.size → ({ G with O := newO G.O w.heap.size .none } : EG).O g = G.O g) := fun g hg => newO_old hg
  have HEO : Hid (({ G with O := newO G.O w.heap.size .none } : EG).O w.heap.size = .none) := by show newO _ _ _ _ = _; unfold newO; rw [if_neg (Nat.lt_irrefl _)]
  have hmb : ({ G with O := newO G.O w.heap.size .none } : EG).mb = G.mb := rfl
  have hfn : ({ G with O := newO G.O w.heap.size .none } : EG).fn = G.fn := rfl
  rw [← hmb, ← hfn] at hlk
  clear hmb hfn
  revert hlk E0 REB HB HO HEO
  generalize ({ G with O := newO G.O w.heap.size .none } : EG) = G0
  generalize w.alloc (.cells #[.pointer (some ⟨b, 0, none⟩)] 37) = wa
  intro hlk E0 REB HB HO HEO
  have hlk0 := hlk wa E0.out.core.mp
  clear hlk
  have RB : Hid (Row wa b 56 [G0.CL, .map (some G0.mb), G0.VA, G0.TR, .int .i64 (s.hd : Int), DE, .bool bad]) := E0.out.row
  have k0 := RB.out.cell 0
  have k1 := RB.out.cell 1
  have k2 := RB.out.cell 2
  have k3 := RB.out.cell 3
  have k4 := RB.out.cell 4
  have k5 := RB.out.cell 5
  have k6 := RB.out.cell 6
  have kl := RB.out.lt
  simp only [List.getElem?_cons_zero, List.getElem?_cons_succ] at k0 k1 k2 k3 k4 k5 k6
  have e0 := REB.out.cell 0
  have el := REB.out.lt
  simp only [List.getElem?_cons_zero, List.getElem?_cons_succ] at e0
  have hH := Lib.hid (E0.out.core.wt x id)
  rcases hH.out.1.2 with ⟨hf0, hl0⟩ | ⟨g, c, cur, hf, hgB, hgh, hnc, hcm, hcs, hct⟩
  · have hw0 : s.wa x = [] := List.eq_nil_of_length_eq_zero hl0
    have HW0 : Hid (∀ _ : Unit, s.wa x = []) := fun _ => hw0
    rw [hf0] at hlk0
    clear hf0 hl0 hw0 hH hwl
    go_wp2_with fail
    clear k0 k1 k2 k3 k4 k5 k6 kl e0 el hlk0 RB
    go_loopg [6, 7, 8, 9, 10, 21] 1 (fun gg s6 _ _ _ _ s21 wr => s21 = .int .i64 0 ∧ s6 = .slice none 0 0 ∧ wr = wa)
    case atStart => exact ⟨rfl, rfl, rfl⟩
    case round =>
      obtain ⟨rfl, rfl, rfl⟩ := hrel
      have RB : Hid (Row wr b 56 [G0.CL, .map (some G0.mb), G0.VA, G0.TR, .int .i64 (s.hd : Int), DE, .bool bad]) := E0.out.row
      have k0 := RB.out.cell 0
      have k1 := RB.out.cell 1
      have k2 := RB.out.cell 2
      have k3 := RB.out.cell 3
      have k4 := RB.out.cell 4
      have k5 := RB.out.cell 5
      have k6 := RB.out.cell 6
      have kl := RB.out.lt
      simp only [List.getElem?_cons_zero, List.getElem?_cons_succ] at k0 k1 k2 k3 k4 k5 k6
      have e0 := REB.out.cell 0
      have el := REB.out.lt
      simp only [List.getElem?_cons_zero, List.getElem?_cons_succ] at e0
      go_wp2_with (first | (at_mapUpdate; refine wpList_mapUpd rfl (.tmp 126) (.tmp 127) (.tmp 128) rfl E0.out.core.mp int_keyedV Try.underlying43 rfl (keyV x (lit_wf hn HX.out)) rfl (.slice none 0 0) rfl ?_; intro w7 hm7 hg7; have HM7 := Lib.hid hm7; have HG7 := Lib.hid hg7; clear hm7 hg7) | fail)
      refine bodyPost_ret (v := .bool true) (by simp [results, Try.results37, go_sem]) rfl ?_
      rw [HW0.out ()]
      exact ⟨rfl, _, (E0.out.mapUpd (l := []) Hd.nil HM7.out HG7.out).weak (fun _ q => q.1), map_below HG7.out E0.out.core.hmb (Nat.le_trans E0.out.hb (Nat.le_of_lt E0.out.row.lt)) HB.out, HO.out⟩
  · have HF := Lib.hid hf
    rw [hf] at hlk0
    have hgo := Lib.hid (hH.out.2 g (by rw [hf]; rfl))
    have hV : Hid (VL w wa B b n F s s x de bad G G0 DE g c w.heap.size 0 [] cur.toList) := ⟨by simp, E0.out.weak (fun _ q => q.elim), HF.out, hgo.out, hgB, by unfold Row; simpa using hgh, by simpa using hcs, hcm, by simp [nats, ints], fun j _ hj => by
        have h1 : (nats (s.wa x))[j]? = some _ := nats_get _ _ hj
        rw [← hct, List.getElem?_take_of_lt (by omega)] at h1; exact h1, Nat.zero_le _, hnc, by rw [List.nil_append, List.drop_zero, V.upd_self]; exact HW.out, HT.out, REB.out, HEO.out, HB.out, HO.out⟩
    clear hf hct hgh hH
    go_wp2_with fail
    clear k0 k1 k2 k3 k4 k5 k6 kl e0 el hlk0 RB E0 REB HB HO HEO
    have hV0 := Lib.hid hV.out
    clear hV
    go_loopg [6, 7, 8, 9, 10, 21] (s.wa x).length (fun gg s6 _ _ _ _ s21 wr => ∃ (i : Nat) (kept : List Nat) (s1 : V.En) (G1 : EG) (cells : List Value), i ≤ (s.wa x).length ∧ (s.wa x).length - i ≤ gg ∧ s21 = .int .i64 i ∧ s6 = .slice (some ⟨g, 0, none⟩) kept.length c ∧ Aside (VL w wr B b n F s s1 x de bad G G1 DE g c w.heap.size i kept cells))
    case atStart => exact ⟨0, [], s, G0, cur.toList, Nat.zero_le _, by omega, rfl, rfl, hV0.out⟩
    case round =>
      obtain ⟨i, kept, s1, G1, cells, hin, hgg, rfl, rfl, hv⟩ := hrel
      have HV : Hid (VL w wr B b n F s s1 x de bad G G1 DE g c w.heap.size i kept cells) := hv
      clear hv hV0
      by_cases hlt : i < (s.wa x).length
      · have hltz : (i : Int) < ((s.wa x).length : Int) := by omega
        obtain ⟨k, hk⟩ : ∃ k, (s.wa x).getD i 0 = k := ⟨_, rfl⟩
        have HK : Hid (∀ _ : Unit, (s.wa x).getD i 0 = k) := fun _ => hk
        obtain ⟨c0, a, tl, hS⟩ := V.step_facts (r := (s.wa x).drop (i + 1)) (k := k) (by have := HV.out.wf; rw [HV.out.dropK hlt, hk] at this; exact this)
        have HS := Lib.hid hS
        obtain ⟨p0, p1, hc0, hpp⟩ : ∃ p0 p1, c0 = p0 :: p1 :: tl ∧ ((p0 = a ∧ p1 = x) ∨ (p0 = x ∧ p1 = a)) := by
          rcases hS.shape with e | e
          · exact ⟨a, x, e, .inl ⟨rfl, rfl⟩⟩
          · exact ⟨x, a, e, .inr ⟨rfl, rfl⟩⟩
        have HPP := Lib.hid hpp
        have hgd : s1.cl.getD k [] = p0 :: p1 :: tl := by rw [V.getD_of_get hS.at_, hc0]
        have HGD : Hid (∀ _ : Unit, s1.cl.getD k [] = p0 :: p1 :: tl) := fun _ => hgd
        have hkl := hS.kl
        have oc : wr.cell? ⟨g, i, none⟩ = some (.int .i64 (k : Nat)) := (HV.out.row.cell i).trans ((HV.out.rc i (Nat.le_refl _) hlt).trans (by rw [hk]))
        have R1 : Hid (Row wr b 56 [G1.CL, .map (some G1.mb), G1.VA, G1.TR, .int .i64 (s1.hd : Int), DE, .bool bad]) := HV.out.eng.row
        have REB := Lib.hid HV.out.ebr
        have hhl := HV.out.eng.core.hl
        obtain ⟨gc, cc, hCL, _, _, _, hcc, hcell, _⟩ := HV.out.eng.core.cl.at_ (i := k) (by omega)
        have hc1 : wr.cell? ⟨gc, k, none⟩ = some (G1.hs.getD k undef) := hcell k _ (by simp [List.getD_eq_getElem?_getD, List.getElem?_eq_getElem (show k < G1.hs.length by omega)])
        obtain ⟨gk, ck, hHK, hOk, hBk, hgkl, hck, hcellk, hfrk⟩ := (HV.out.eng.core.cs k hkl).at_ (i := 0) (by rw [hgd]; simp)
        have hln : (s1.cl.getD k []).length = tl.length + 2 := by rw [hgd]; simp
        obtain ⟨m, hm⟩ : ∃ m, tl.length + 2 = m := ⟨_, rfl⟩
        have HM : Hid (∀ _ : Unit, tl.length + 2 = m) := fun _ => hm
        rw [hln, hm] at hHK hck
        have hm1 : (1 : Int) < (m : Int) := by omega
        have hm2 : 1 < m := by omega
        have hm0 : 0 < m := by omega
        have hm0z : (0 : Int) < (m : Int) := by omega
        clear hm
        have HCK : Hid (∀ j u, (ints (p0 :: p1 :: tl))[j]? = some u → wr.cell? ⟨gk, j, none⟩ = some u) := by show ∀ j u, _; rw [← hgd]; exact hcellk
        have HFK : Hid (∀ j, wr.frozen? ⟨gk, j, none⟩ = false) := hfrk
        rw [hHK] at hc1
        have z0 : wr.cell? ⟨gk, 0, none⟩ = some (.int .i64 p0) := hcellk 0 _ (by rw [hgd]; simp [ints])
        have HCL : Hid (∀ _ : Unit, G1.CL = .slice (some ⟨gc, 0, none⟩) G1.hs.length cc) := fun _ => hCL
        have HHK : Hid (∀ _ : Unit, G1.hs.getD k undef = .slice (some ⟨gk, 0, none⟩) m ck) := fun _ => hHK
        have HOK : Hid (∀ _ : Unit, G1.O gk = .clause k) := fun _ => hOk
        have hkz : (k : Int) < (G1.hs.length : Int) := by omega
        have hklt : k < G1.hs.length := by omega
        have k0 := R1.out.cell 0
        have k1 := R1.out.cell 1
        have k2 := R1.out.cell 2
        have k3 := R1.out.cell 3
        have k4 := R1.out.cell 4
        have k5 := R1.out.cell 5
        have k6 := R1.out.cell 6
        have kl := R1.out.lt
        simp only [List.getElem?_cons_zero, List.getElem?_cons_succ] at k0 k1 k2 k3 k4 k5 k6
        rw [hCL] at k0
        have e0 := REB.out.cell 0
        have el := REB.out.lt
        simp only [List.getElem?_cons_zero, List.getElem?_cons_succ] at e0
        clear hk hS hc0 hpp hgd hCL hcell hHK hOk hcellk hfrk hln hhl
        go_upto_if 37 with (fail)
        go_cut [9] from 37 to 122 (fun s9 wx => s9 = .slice (some ⟨gk, 0, none⟩) m ck ∧ Aside (EngS wx B b { s1 with cl := s1.cl.set k (a :: x :: tl) } (fun z => z = x) de bad G1 DE) ∧ Aside (Row wx g 3 cells) ∧ Aside (Row wx w.heap.size 37 [.pointer (some ⟨b, 0, none⟩)]) ∧ Aside (Below B w wx))
        case first =>
          rcases HPP.out with ⟨e1, e2⟩ | ⟨e1, e2⟩
          · have he1 : (p0 == x) = false := by rw [e1]; simpa using HS.out.ne
            have he2 : decide (p0 = x) = false := by rw [e1]; exact decide_eq_false HS.out.ne
            have hsame : ({ s1 with cl := s1.cl.set k (a :: x :: tl) } : V.En) = s1 := by
              have h9 := HS.out.at_
              rw [← V.getD_of_get h9, HGD.out ()] at h9
              rw [e1, e2] at h9
              obtain ⟨h8, h7⟩ := List.getElem?_eq_some_iff.1 h9
              rw [← h7, List.set_getElem_self]
            have HSM : Hid (∀ _ : Unit, ({ s1 with cl := s1.cl.set k (a :: x :: tl) } : V.En) = s1) := fun _ => hsame
            clear e1 e2 hsame
            go_wp2
            go_meet
            case rel => exact ⟨rfl, by rw [HSM.out ()]; exact HV.out.eng, HV.out.row, REB.out, HV.out.bel⟩
          · have he1 : (p0 == x) = true := by rw [e1]; simp
            have he2 : decide (p0 = x) = true := decide_eq_true e1
            have HE3 : Hid (∀ _ : Unit, a :: x :: tl = p1 :: p0 :: tl) := fun _ => by rw [e1, e2]
            clear e1 e2
            have E1 : Hid (EngS ((wr.setCell ⟨gk, 0, none⟩ (.int .i64 p1)).setCell ⟨gk, 1, none⟩ (.int .i64 p0)) B b { s1 with cl := s1.cl.set k (a :: x :: tl) } (fun z => z = x) de bad G1 DE) := by
              have E1 := (HV.out.eng.putClause (i := 0) hkl (HHK.out ()) (by omega) p1)
              have hg2 : (s1.cl.set k ((s1.cl.getD k []).set 0 p1)).getD k [] = (s1.cl.getD k []).set 0 p1 := by simp [List.getD_eq_getElem?_getD, hkl]
              have E2 := E1.putClause (k := k) (i := 1) (by simpa using hkl) (HHK.out ()) (by omega) p0
              simp only [hg2, List.set_set] at E2
              rw [HGD.out ()] at E2
              rw [HE3.out ()]
              exact E2
            have RO1 : Hid (Row ((wr.setCell ⟨gk, 0, none⟩ (.int .i64 p1)).setCell ⟨gk, 1, none⟩ (.int .i64 p0)) g 3 cells) := farC (farC HV.out.row HV.out.og (HOK.out ()) (by nofun) 0 _) HV.out.og (HOK.out ()) (by nofun) 1 _
            have RE1 : Hid (Row ((wr.setCell ⟨gk, 0, none⟩ (.int .i64 p1)).setCell ⟨gk, 1, none⟩ (.int .i64 p0)) w.heap.size 37 [.pointer (some ⟨b, 0, none⟩)]) := farC (farC REB.out HV.out.eo (HOK.out ()) (by nofun) 0 _) HV.out.eo (HOK.out ()) (by nofun) 1 _
            have BE1 : Hid (Below B w ((wr.setCell ⟨gk, 0, none⟩ (.int .i64 p1)).setCell ⟨gk, 1, none⟩ (.int .i64 p0))) := (HV.out.bel.setCell hBk _).setCell hBk _
            have z1 : wr.cell? ⟨gk, 1, none⟩ = some (.int .i64 p1) := HCK.out 1 _ (by simp [ints])
            have y0 : wr.frozen? ⟨gk, 0, none⟩ = false := HFK.out 0
            have y1 : wr.frozen? ⟨gk, 1, none⟩ = false := HFK.out 1
            go_upto_region 8 with fail
            refine wp_region_L (fun w' => w'.cell? ⟨gk, 0, none⟩ = some (.int .i64 p0) ∧ w'.cell? ⟨gk, 1, none⟩ = some (.int .i64 p1)) [9, 10, 11] (by kernel_rfl) (by exact ⟨z0, z1⟩) (fun hHeld => ?_)
            refine restL_pure (i := 0) (v := ?vm1) rfl (by kernel_rfl) (by kernel_rfl) (by kernel_rfl) (fun _ _ _ h => h) (Or.inl ⟨by rfl, ?ym1⟩) ?rm1
            case ym1 => intro w' hSw; clear hSw; go_simp; try (with_reducible rfl)
            go_simp
            refine restL_pure (i := 1) (v := ?vm2) rfl (by kernel_rfl) (by kernel_rfl) (by kernel_rfl) (fun _ _ _ h => h) (Or.inl ⟨by rfl, ?ym2⟩) ?rm2
            case ym2 => intro w' hSw; clear hSw; go_simp; try (with_reducible rfl)
            go_simp
            refine restL_pure (i := 2) (v := ?vm3) rfl (by kernel_rfl) (by kernel_rfl) (by kernel_rfl) (fun _ _ _ h => h) (Or.inl ⟨by rfl, ?ym3⟩) ?rm3
            case ym3 => intro w' hSw; clear hSw; go_simp; try (with_reducible rfl)
            go_simp
            refine restL_pure (i := 5) (v := ?vm4) rfl (by kernel_rfl) (by kernel_rfl) (by kernel_rfl) (fun _ _ _ h => h) (Or.inl ⟨by rfl, ?ym4⟩) ?rm4
            case ym4 => intro w' hSw; clear hSw; go_simp; try (with_reducible rfl)
            go_simp
            refine restL_take (i := 3) (v := ?vm5) [[9], [10], [11]] rfl (by kernel_rfl) (by kernel_rfl) (by kernel_rfl) (by kernel_rfl) (fun _ _ _ h => h) (Or.inl ⟨by rfl, ?ym5⟩) hHeld ?rm5
            case ym5 =>
              intro w' hSw
              obtain ⟨q0, q1⟩ := hSw
              go_simp
              try (with_reducible rfl)
            go_simp
            refine restL_take (i := 4) (v := ?vm6) [[9], [10], [11]] rfl (by kernel_rfl) (by kernel_rfl) (by kernel_rfl) (by kernel_rfl) (fun _ _ _ h => h) (Or.inl ⟨by rfl, ?ym6⟩) hHeld ?rm6
            case ym6 =>
              intro w' hSw
              obtain ⟨q0, q1⟩ := hSw
              go_simp
              try (with_reducible rfl)
            go_simp
            refine restL_take (i := 6) (v := ?vm7) [[9, 7], [10], [11]] rfl (by kernel_rfl) (by kernel_rfl) (by kernel_rfl) (by kernel_rfl) (fun _ _ _ h => h) (Or.inl ⟨by rfl, ?ym7⟩) hHeld ?rm7
            case ym7 =>
              intro w' hSw
              obtain ⟨q0, q1⟩ := hSw
              go_simp
              try (with_reducible rfl)
            go_simp
            refine restL_take (i := 7) (v := ?vm8) [[9], [10], [11]] rfl (by kernel_rfl) (by kernel_rfl) (by kernel_rfl) (by kernel_rfl) (fun _ _ _ h => h) (Or.inl ⟨by rfl, ?ym8⟩) hHeld ?rm8
            case ym8 =>
              intro w' hSw
              obtain ⟨q0, q1⟩ := hSw
              go_simp
              try (with_reducible rfl)
            go_simp
            refine restL_take (i := 8) (v := ?vm9) [[9], [10], [11]] rfl (by kernel_rfl) (by kernel_rfl) (by kernel_rfl) (by kernel_rfl) (fun _ _ _ h => h) (Or.inl ⟨by rfl, ?ym9⟩) hHeld ?rm9
            case ym9 =>
              intro w' hSw
              obtain ⟨q0, q1⟩ := hSw
              go_simp
              try (with_reducible rfl)
            go_simp
            refine restL_one (i := 9) (by kernel_rfl) rfl (fun K hK => ?_)
            go_simp
            refine hK.out _ _ (fun h => absurd h (by decide)) (fun _ => ?_)
            clear hK K
            try go_simp
            refine restL_one (i := 10) (by kernel_rfl) rfl (fun K hK => ?_)
            go_simp
            refine hK.out _ _ (fun h => absurd h (by decide)) (fun _ => ?_)
            clear hK K
            try go_simp
            refine restL_one (i := 11) (by kernel_rfl) rfl (fun K hK => ?_)
            go_simp
            refine hK.out _ _ (fun h => absurd h (by decide)) (fun _ => ?_)
            clear hK K
            try go_simp
            refine restL_done (by kernel_rfl) ?_ _
            go_wp2_with fail
            go_meet
            case rel => exact ⟨rfl, E1.out.drew, RO1.out, RE1.out, BE1.out.drew⟩
        obtain ⟨rfl, h1, h2, h3, h4⟩ := hcut
        have HE := Lib.hid h1
        have RO := Lib.hid h2
        have REB1 := Lib.hid h3
        have HBW := Lib.hid h4
        clear h1 h2 h3 h4 k0 k1 k2 k3 k4 k5 k6 kl e0 el z0 oc hc1 R1 REB
        obtain ⟨w1, rfl⟩ : ∃ w1 : World, w1 = wc := ⟨_, rfl⟩
        have hgd2 : ({ s1 with cl := s1.cl.set k (a :: x :: tl) } : V.En).cl.getD k [] = a :: x :: tl := by simp [List.getD_eq_getElem?_getD, hkl]
        have hcs2 := HE.out.core.cs k (by simpa using hkl)
        rw [hgd2] at hcs2
        obtain ⟨gk', ck', hHK2, _, _, _, _, hcell2, hfr2⟩ := hcs2.at_ (i := 0) (by simp)
        rw [HHK.out ()] at hHK2
        obtain ⟨rfl, rfl⟩ : gk = gk' ∧ ck = ck' := by cases hHK2; exact ⟨rfl, rfl⟩
        have HCK2 : Hid (∀ j u, (ints (a :: x :: tl))[j]? = some u → w1.cell? ⟨gk, j, none⟩ = some u) := hcell2
        have HFK2 : Hid (∀ j, w1.frozen? ⟨gk, j, none⟩ = false) := hfr2
        have z0 : w1.cell? ⟨gk, 0, none⟩ = some (.int .i64 a) := HCK2.out 0 _ (by simp [ints])
        clear hgd2 hcs2 hHK2 hcell2 hfr2 HCK HFK HGD HPP
        obtain ⟨v, hv⟩ : ∃ v, V.valL s1.va a = v := ⟨_, rfl⟩
        have HVV : Hid (∀ _ : Unit, V.valL s1.va a = v) := fun _ => hv
        have HOF : Hid (∀ nq, Calls Try.prog 24 #[.pointer (some ⟨b, 0, none⟩), .int .i64 a] (w1.drewN nq) fun e w' => e = .returned (.int .i8 v) ∧ w' = w1.drewN nq) := fun nq => by
          have := sOf_any B b n _ _ de bad G1 DE a _ (HE.out.drewN nq) hn HS.out.la HV.out.wf.tk
          rw [show V.valL ({ s1 with cl := s1.cl.set k (a :: x :: tl) } : V.En).va a = v from hv] at this
          exact this
        clear hv
        have e0 := REB1.out.cell 0
        have el := REB1.out.lt
        simp only [List.getElem?_cons_zero, List.getElem?_cons_succ] at e0
        go_upto_region 9 with fail
        go_quiet ((go_at_call 24; exact Calls.quiet_of_same (HOF.out _)))
        have HE2 : Hid (EngS (w1.drewN nq) B b { s1 with cl := s1.cl.set k (a :: x :: tl) } (fun z => z = x) de bad G1 DE) := HE.out.drewN nq
        have RO2 : Hid (Row (w1.drewN nq) g 3 cells) := RO.out
        have REB2 : Hid (Row (w1.drewN nq) w.heap.size 37 [.pointer (some ⟨b, 0, none⟩)]) := REB1.out
        have HBW2 : Hid (Below B w (w1.drewN nq)) := below_drewN HBW.out nq
        have HCK3 : Hid (∀ j u, (ints (a :: x :: tl))[j]? = some u → (w1.drewN nq).cell? ⟨gk, j, none⟩ = some u) := HCK2.out
        have HFK3 : Hid (∀ j, (w1.drewN nq).frozen? ⟨gk, j, none⟩ = false) := HFK2.out
        clear HE RO REB1 HBW HCK2 HFK2 z0 e0 el HOF
        revert HE2 RO2 REB2 HBW2 HCK3 HFK3
        generalize w1.drewN nq = w2
        intro HE2 RO2 REB2 HBW2 HCK3 HFK3
        by_cases hv1 : v = 1
        · subst hv1
          have hX := HV.out.keepRow hlt k
          have hnews : ∀ (j : Nat) (u : Value), [Value.int .i64 (k : Int)][j]? = some u → (w2.alloc (.cells #[.int .i64 (k : Int)] 3)).cell? ((⟨w2.heap.size, 0, none⟩ : Addr).add j) = some u := fun j u hu => by
            rw [add_zero_off, World.cell?_alloc_new]; simpa using hu
          have hclen := HV.out.clen
          have hroom : kept.length + 1 ≤ c := by have := HV.out.kl; have := HV.out.nc; omega
          have Hnews := Lib.hid hnews
          have HX2 := Lib.hid hX
          clear hX hnews
          go_wp2_with (first | (at_builtin; refine wpList_room rfl (.tmp 54) (.tmp 56) 26 rfl 3 (.int .i64 0) 8 Try.underlying26 int_infoV g kept.length c cells rfl (RO2.out.alloc _) hclen (⟨w2.heap.size, 0, none⟩) 1 1 [.int .i64 (k : Int)] rfl rfl Hnews.out (by intro u hu; simp at hu; subst hu; rfl) hroom ?_))
          go_roundg ((s.wa x).length - (i + 1))
          case measure => omega
          case rel =>
            refine ⟨i + 1, kept ++ [k], _, G1, _, by omega, by omega, by go_num, by simp, HV.out.onKept hlt ?_ HE2.out HS.out.keep HV.out.xt RO2.out REB2.out HBW2.out rfl HV.out.og HV.out.eo HV.out.own⟩
            rw [HV.out.eq, HV.out.dropK hlt, HK.out (), HS.out.run, if_pos (HVV.out ())]
        · have hv1b : (v == 1) = false := by simpa using hv1
          have HV1 : Hid (∀ _ : Unit, ¬ v = 1) := fun _ => hv1
          clear hv1
          have hm3 : (2 : Int) ≤ (m : Int) := by omega
          have hm4 : 2 ≤ m := by omega
          have hmc : (m : Int) ≤ (ck : Int) := by omega
          have hckm : ck ≤ maxLen := (HV.out.eng.core.cs k hkl).cmax (HHK.out ())
          have hl2 := HM.out ()
          have hPR : Hid (PredInts Try.prog 52 #[.pointer (some ⟨w.heap.size, 0, none⟩)] (V.notFalse s1.va) tl w2) := fun W y hy hb =>
            (sClos_any B b n w.heap.size _ _ de bad G1 DE y W (HE2.out.below hb) (rowCells REB2.out hb) hn (HS.out.lt y hy) HV.out.wf.tk).mono fun e w' h => ⟨h.1, h.2 ▸ hb⟩
          have hIF : ∀ o, (tl = [] ∨ o = 2) → Calls Try.prog 51 #[.slice (some ⟨gk, o, none⟩) (m - 2) (ck - 2), .func (.func 52) #[] #[.pointer (some ⟨w.heap.size, 0, none⟩)]] w2 fun e w' => e = .returned (.int .i64 (findI (V.notFalse s1.va) tl)) ∧ Below w2.heap.size w2 w' := fun o ho =>
            indexFunc_ints _ _ _ tl _ _ (V.notFalse s1.va) w2 (enters Try.func52 (by kernel_rfl) rfl) (by
              refine ⟨by simp; omega, fun h0 => ⟨_, rfl, ?_, fun j u hu => ?_⟩⟩
              · have := HCK3.out 0 _ rfl
                exact World.block_lt_of_cell? w2 ⟨gk, 0, none⟩ this
              · rcases ho with e | rfl
                · rw [e] at hl2; simp at hl2; omega
                · rw [addr_add, Nat.add_comm]
                  exact HCK3.out (j + 2) u (by simpa [ints] using hu)) (by unfold maxLen at hckm; omega) hPR.out
          have HIF := Lib.hid hIF
          have HL2 : Hid (∀ _ : Unit, tl.length + 2 = m) := fun _ => hl2
          clear hPR hIF hckm hl2
          go_upto_region 11 with fail
          go_cut [10] from 53 to 122 (fun s10 wx => s10 = .int .i64 (findI (V.notFalse s1.va) tl) ∧ Aside (Below w2.heap.size w2 wx))
          case first =>
            by_cases hc2 : ck = 2
            · have htl0 : tl = [] := List.eq_nil_of_length_eq_zero (by have := HL2.out (); omega)
              have HIF1 := Lib.hid (HIF.out 0 (.inl htl0))
              obtain rfl : m = 2 := by omega
              subst hc2
              have HIF2 : Hid (Calls Try.prog 51 #[.slice (some ⟨gk, 0, none⟩) 0 0, .func (.func 52) #[] #[.pointer (some ⟨w.heap.size, 0, none⟩)]] w2 fun e w' => e = .returned (.int .i64 (findI (V.notFalse s1.va) tl)) ∧ Below w2.heap.size w2 w') := HIF1.out
              clear htl0 HIF1
              go_wp2_with fail
              with_reducible refine HIF2.out.mono ?_
              rintro e w' ⟨rfl, hb⟩
              go_wp2_with fail
              go_meet
              case rel => exact ⟨rfl, hb⟩
            · have HIF2 := Lib.hid (HIF.out 2 (.inr rfl))
              have hc3 : 2 < ck := by omega
              have hc4 : (2 : Int) < (ck : Int) := by omega
              clear hc2
              go_wp2_with fail
              with_reducible refine HIF2.out.mono ?_
              rintro e w' ⟨rfl, hb⟩
              go_wp2_with fail
              go_meet
              case rel => exact ⟨rfl, hb⟩
          obtain ⟨rfl, h1⟩ := hcut
          obtain ⟨w3, rfl⟩ : ∃ w3 : World, w3 = wc := ⟨_, rfl⟩
          have HE3 : Hid (EngS w3 B b { s1 with cl := s1.cl.set k (a :: x :: tl) } (fun z => z = x) de bad G1 DE) := HE2.out.below h1
          have RO3 : Hid (Row w3 g 3 cells) := rowCells RO2.out h1
          have REB3 : Hid (Row w3 w.heap.size 37 [.pointer (some ⟨b, 0, none⟩)]) := rowCells REB2.out h1
          have HBW3 : Hid (Below B w w3) := HBW2.out.trans (h1.mono (by have := RO2.out.lt; have := HV.out.gB; omega))
          have hgk2 : gk < w2.heap.size := World.block_lt_of_cell? w2 ⟨gk, 0, none⟩ (HCK3.out 0 _ rfl)
          have HCK4 : Hid (∀ j u, (ints (a :: x :: tl))[j]? = some u → w3.cell? ⟨gk, j, none⟩ = some u) := fun j u hu => (h1.cell (p := ⟨gk, j, none⟩) hgk2).trans (HCK3.out j u hu)
          have HFK4 : Hid (∀ j, w3.frozen? ⟨gk, j, none⟩ = false) := fun j => (World.frozen?_of_block (a := ⟨gk, j, none⟩) (h1.block gk hgk2)).trans (HFK3.out j)
          clear h1 HE2 RO2 REB2 HBW2 HCK3 HFK3 HIF hgk2
          cases hfi : tl.findIdx? (V.notFalse s1.va) with
          | none =>
            have hoi : findI (V.notFalse s1.va) tl = -1 := by simp [findI, hfi]
            have HFI : Hid (∀ _ : Unit, tl.findIdx? (V.notFalse s1.va) = none) := fun _ => hfi
            clear hfi
            generalize findI (V.notFalse s1.va) tl = oi at hoi ⊢
            subst hoi
            have hX := HV.out.keepRow hlt k
            have hnews : ∀ (j : Nat) (u : Value), [Value.int .i64 (k : Int)][j]? = some u → (w3.alloc (.cells #[.int .i64 (k : Int)] 3)).cell? ((⟨w3.heap.size, 0, none⟩ : Addr).add j) = some u := fun j u hu => by
              rw [add_zero_off, World.cell?_alloc_new]; simpa using hu
            have hclen := HV.out.clen
            have hroom : kept.length + 1 ≤ c := by have := HV.out.kl; have := HV.out.nc; omega
            have Hnews := Lib.hid hnews
            have HX2 := Lib.hid hX
            clear hX hnews
            go_upto_region 15 with fail
            go_wp2_with (first | (at_builtin; refine wpList_room rfl (.tmp 96) (.tmp 98) 26 rfl 3 (.int .i64 0) 8 Try.underlying26 int_infoV g kept.length c cells rfl (RO3.out.alloc _) hclen (⟨w3.heap.size, 0, none⟩) 1 1 [.int .i64 (k : Int)] rfl rfl Hnews.out (by intro u hu; simp at hu; subst hu; rfl) hroom ?_) | fail)
            have HE4 : Hid (EngS ((w3.alloc (.cells #[.int .i64 (k : Int)] 3)).setRow g (cells.take kept.length ++ Value.int .i64 (k : Int) :: cells.drop (kept.length + 1)).toArray) B b { s1 with cl := s1.cl.set k (a :: x :: tl) } (fun z => z = x) de bad G1 DE) := (HE3.out.alloc _).growW (setRow_grownV _ _ _) HV.out.og rfl
            have RO4 : Hid (Row ((w3.alloc (.cells #[.int .i64 (k : Int)] 3)).setRow g (cells.take kept.length ++ Value.int .i64 (k : Int) :: cells.drop (kept.length + 1)).toArray) g 3 (cells.take kept.length ++ Value.int .i64 (k : Int) :: cells.drop (kept.length + 1))) := (RO3.out.alloc _).setRowV _
            have hneb : w.heap.size ≠ g := fun e => by have := HV.out.eo; rw [e, HV.out.og] at this; cases this
            have REB4 : Hid (Row ((w3.alloc (.cells #[.int .i64 (k : Int)] 3)).setRow g (cells.take kept.length ++ Value.int .i64 (k : Int) :: cells.drop (kept.length + 1)).toArray) w.heap.size 37 [.pointer (some ⟨b, 0, none⟩)]) := (setRow_other _ _ _ _ hneb).trans (REB3.out.alloc _)
            have HBW4 : Hid (Below B w ((w3.alloc (.cells #[.int .i64 (k : Int)] 3)).setRow g (cells.take kept.length ++ Value.int .i64 (k : Int) :: cells.drop (kept.length + 1)).toArray)) := (HBW3.out.alloc (by have := RO3.out.lt; have := HV.out.gB; omega) _).grown (setRow_grownV _ _ _) (by have := RO3.out.lt; have := HV.out.gB; simp; omega) (fun q e => by cases e; exact HV.out.gB)
            have hgkg : gk ≠ g := fun e => by have := HOK.out (); rw [e, HV.out.og] at this; cases this
            have hgk3 : gk < w3.heap.size := World.block_lt_of_cell? w3 ⟨gk, 0, none⟩ (HCK4.out 0 _ rfl)
            have z0 : ((w3.alloc (.cells #[.int .i64 (k : Int)] 3)).setRow g (cells.take kept.length ++ Value.int .i64 (k : Int) :: cells.drop (kept.length + 1)).toArray).cell? ⟨gk, 0, none⟩ = some (.int .i64 a) := (cell_setRow_other _ _ _ _ hgkg).trans ((World.cell?_alloc_lt _ _ _ hgk3).trans (HCK4.out 0 _ (by simp [ints])))
            have Z0 := Lib.hid z0
            clear z0 HE3 RO3 REB3 HBW3 HCK4 HFK4 Hnews hneb hgkg hgk3
            revert HE4 RO4 REB4 HBW4 Z0
            generalize (w3.alloc (.cells #[.int .i64 (k : Int)] 3)).setRow g (cells.take kept.length ++ Value.int .i64 (k : Int) :: cells.drop (kept.length + 1)).toArray = w4
            intro HE4 RO4 REB4 HBW4 Z0
            have z0 := Z0.out
            have HOF : Hid (∀ nq, Calls Try.prog 24 #[.pointer (some ⟨b, 0, none⟩), .int .i64 a] (w4.drewN nq) fun e w' => e = .returned (.int .i8 v) ∧ w' = w4.drewN nq) := fun nq => by
              have := sOf_any B b n _ _ de bad G1 DE a _ (HE4.out.drewN nq) hn HS.out.la HV.out.wf.tk
              rw [show V.valL ({ s1 with cl := s1.cl.set k (a :: x :: tl) } : V.En).va a = v from HVV.out ()] at this
              exact this
            have e0 := REB4.out.cell 0
            have el := REB4.out.lt
            simp only [List.getElem?_cons_zero, List.getElem?_cons_succ] at e0
            go_quiet ((go_at_call 24; exact Calls.quiet_of_same (HOF.out _)))
            have HE5 : Hid (EngS (w4.drewN nq) B b { s1 with cl := s1.cl.set k (a :: x :: tl) } (fun z => z = x) de bad G1 DE) := HE4.out.drewN nq
            have RO5 : Hid (Row (w4.drewN nq) g 3 (cells.take kept.length ++ Value.int .i64 (k : Int) :: cells.drop (kept.length + 1))) := RO4.out
            have REB5 : Hid (Row (w4.drewN nq) w.heap.size 37 [.pointer (some ⟨b, 0, none⟩)]) := REB4.out
            have HBW5 : Hid (Below B w (w4.drewN nq)) := below_drewN HBW4.out nq
            have Z5 : Hid ((w4.drewN nq).cell? ⟨gk, 0, none⟩ = some (.int .i64 a)) := z0
            clear HE4 RO4 REB4 HBW4 Z0 z0 e0 el HOF
            revert HE5 RO5 REB5 HBW5 Z5
            generalize w4.drewN nq = w5
            intro HE5 RO5 REB5 HBW5 Z5
            by_cases hv2 : v = -1
            · subst hv2
              have R5 : Hid (Row w5 b 56 [G1.CL, .map (some G1.mb), G1.VA, G1.TR, .int .i64 (s1.hd : Int), DE, .bool bad]) := HE5.out.row
              have k0 := R5.out.cell 0
              have k1 := R5.out.cell 1
              have k2 := R5.out.cell 2
              have k3 := R5.out.cell 3
              have k4 := R5.out.cell 4
              have k5 := R5.out.cell 5
              have k6 := R5.out.cell 6
              have kl := R5.out.lt
              simp only [List.getElem?_cons_zero, List.getElem?_cons_succ] at k0 k1 k2 k3 k4 k5 k6
              have e0 := REB5.out.cell 0
              have el := REB5.out.lt
              simp only [List.getElem?_cons_zero, List.getElem?_cons_succ] at e0
              have hN := HV.out.nc
              have HNE : Hid (w.heap.size ≠ g ∧ b ≠ g) := And.intro (fun e => by have := HV.out.eo; rw [e, HV.out.og] at this; cases this) (fun e => by have := HV.out.eng.ob; rw [e, HV.out.og] at this; cases this)
              have hcl5 := HX2.out.2.1
              have hHN : Hid (∀ (j : Nat) (u : Value), (nats ((s.wa x).drop (i + 1)))[j]? = some u → w5.cell? ⟨g, i + 1 + j, none⟩ = some u) := fun j u hu => by
                obtain ⟨h1, rfl⟩ := nats_rest _ _ _ _ hu
                rw [RO5.out.cell]
                exact HX2.out.2.2 _ (by omega) h1
              have hHL : Hid ((nats ((s.wa x).drop (i + 1))).length = (s.wa x).length - (i + 1)) := by show _ = _; simp
              have hkn : kept.length + 1 + ((s.wa x).length - (i + 1)) ≤ c := by have := HV.out.kl; omega
              have hH1 : Hid (∀ u ∈ nats ((s.wa x).drop (i + 1)), u.oneCell' = true) := ints_one _
              go_upto_region 17 with fail
              by_cases hce : c = i + 1
              · have HCE : Hid (∀ _ : Unit, c = i + 1) := fun _ => hce
                have hce3 : ((i : Int) + 1) ≤ ((s.wa x).length : Int) := by omega
                have hcw : IntKind.i64.wrap ((i : Int) + 1) = (i : Int) + 1 := IntWalk.i64_in _ (by omega)
                have hct : ((i : Int) + 1).toNat = i + 1 := by omega
                have hcf : (c = i + 1) = True := by simp; omega
                have hc0 : (0 : Int) ≤ (i : Int) + 1 := by omega
                clear hce
                refine wp_region_L (fun w' => w'.cell? ⟨w.heap.size, 0, none⟩ = some (.pointer (some ⟨b, 0, none⟩)) ∧ w'.cell? ⟨b, 1, none⟩ = some (.map (some G1.mb))) [11] (by kernel_rfl) (by exact ⟨e0, k1⟩) (fun hHeld => ?_)
                refine restL_pure (i := 4) (v := ?vd1) rfl (by kernel_rfl) (by kernel_rfl) (by kernel_rfl) (fun _ _ _ h => h) (Or.inl ⟨by rfl, ?yd1⟩) ?rd1
                case yd1 => intro w' hSw; clear hSw; go_simp; try (with_reducible rfl)
                go_simp
                refine restL_pure (i := 5) (v := ?vd2) rfl (by kernel_rfl) (by kernel_rfl) (by kernel_rfl) (fun _ _ _ h => h) (Or.inl ⟨by rfl, ?yd2⟩) ?rd2
                case yd2 => intro w' hSw; clear hSw; go_simp; try (with_reducible rfl)
                go_simp
                refine restL_pure (i := 6) (v := ?vd3) rfl (by kernel_rfl) (by kernel_rfl) (by kernel_rfl) (fun _ _ _ h => h) (Or.inl ⟨by rfl, ?yd3⟩) ?rd3
                case yd3 => intro w' hSw; clear hSw; go_simp; try (with_reducible rfl)
                go_simp
                refine restL_pure (i := 7) (v := ?vd4) rfl (by kernel_rfl) (by kernel_rfl) (by kernel_rfl) (fun _ _ _ h => h) (Or.inl ⟨by rfl, ?yd4⟩) ?rd4
                case yd4 => intro w' hSw; clear hSw; go_simp; try (with_reducible rfl)
                go_simp
                refine restL_pure (i := 8) (v := ?vd5) rfl (by kernel_rfl) (by kernel_rfl) (by kernel_rfl) (fun _ _ _ h => h) (Or.inl ⟨by rfl, ?yd5⟩) ?rd5
                case yd5 => intro w' hSw; clear hSw; go_simp; try (with_reducible rfl)
                go_simp
                refine restL_take (i := 0) (v := ?vd6) [[11]] rfl (by kernel_rfl) (by kernel_rfl) (by kernel_rfl) (by kernel_rfl) (fun _ _ _ h => h) (Or.inl ⟨by rfl, ?yd6⟩) hHeld ?rd6
                case yd6 =>
                  intro w' hSw
                  obtain ⟨q0, q1⟩ := hSw
                  go_simp
                  try (with_reducible rfl)
                go_simp
                refine restL_pure (i := 1) (v := ?vd7) rfl (by kernel_rfl) (by kernel_rfl) (by kernel_rfl) (fun _ _ _ h => h) (Or.inl ⟨by rfl, ?yd7⟩) ?rd7
                case yd7 => intro w' hSw; clear hSw; go_simp; try (with_reducible rfl)
                go_simp
                refine restL_pure (i := 2) (v := ?vd8) rfl (by kernel_rfl) (by kernel_rfl) (by kernel_rfl) (fun _ _ _ h => h) (Or.inl ⟨by rfl, ?yd8⟩) ?rd8
                case yd8 => intro w' hSw; clear hSw; go_simp; try (with_reducible rfl)
                go_simp
                refine restL_take (i := 3) (v := ?vd9) [[11]] rfl (by kernel_rfl) (by kernel_rfl) (by kernel_rfl) (by kernel_rfl) (fun _ _ _ h => h) (Or.inl ⟨by rfl, ?yd9⟩) hHeld ?rd9
                case yd9 =>
                  intro w' hSw
                  obtain ⟨q0, q1⟩ := hSw
                  go_simp
                  try (with_reducible rfl)
                go_simp
                refine restL_take (i := 9) (v := ?vd10) [[11]] rfl (by kernel_rfl) (by kernel_rfl) (by kernel_rfl) (by kernel_rfl) (fun _ _ _ h => h) (Or.inl ⟨by rfl, ?yd10⟩) hHeld ?rd10
                case yd10 =>
                  intro w' hSw
                  obtain ⟨q0, q1⟩ := hSw
                  go_simp
                  try (with_reducible rfl)
                go_simp
                refine restL_one (i := 10) (by kernel_rfl) rfl (fun K hK => ?_)
                refine step_room rfl (.tmp 111) (.tmp 115) 26 rfl 3 (.int .i64 0) 8 Try.underlying26 int_infoV g (kept.length + 1) c (cells.take kept.length ++ Value.int .i64 (k : Int) :: cells.drop (kept.length + 1)) rfl RO5.out hcl5 ⟨g, 0, none⟩ ((s.wa x).length - (i + 1)) _ (nats ((s.wa x).drop (i + 1))) rfl hHL.out (fun j u hu => absurd (nats_rest _ _ _ _ hu).1 (by have := HCE.out (); omega)) hH1.out hkn ?_
                have HEW : Hid (EngS (World.setRow (World.drew w5) g ((cells.take kept.length ++ Value.int .i64 (k : Int) :: cells.drop (kept.length + 1)).take (kept.length + 1) ++ nats ((s.wa x).drop (i + 1)) ++ (cells.take kept.length ++ Value.int .i64 (k : Int) :: cells.drop (kept.length + 1)).drop (kept.length + 1 + ((s.wa x).length - (i + 1)))).toArray) B b { s1 with cl := s1.cl.set k (a :: x :: tl) } (fun z => z = x) de bad G1 DE) := HE5.out.drew.growW (setRow_grownV _ _ _) HV.out.og rfl
                have ROW : Hid (Row (World.setRow (World.drew w5) g ((cells.take kept.length ++ Value.int .i64 (k : Int) :: cells.drop (kept.length + 1)).take (kept.length + 1) ++ nats ((s.wa x).drop (i + 1)) ++ (cells.take kept.length ++ Value.int .i64 (k : Int) :: cells.drop (kept.length + 1)).drop (kept.length + 1 + ((s.wa x).length - (i + 1)))).toArray) g 3 ((cells.take kept.length ++ Value.int .i64 (k : Int) :: cells.drop (kept.length + 1)).take (kept.length + 1) ++ nats ((s.wa x).drop (i + 1)) ++ (cells.take kept.length ++ Value.int .i64 (k : Int) :: cells.drop (kept.length + 1)).drop (kept.length + 1 + ((s.wa x).length - (i + 1))))) := (show Row (World.drew w5) g 3 (cells.take kept.length ++ Value.int .i64 (k : Int) :: cells.drop (kept.length + 1)) from RO5.out).setRowV _
                have HBF : Hid (Below B w (World.setRow (World.drew w5) g ((cells.take kept.length ++ Value.int .i64 (k : Int) :: cells.drop (kept.length + 1)).take (kept.length + 1) ++ nats ((s.wa x).drop (i + 1)) ++ (cells.take kept.length ++ Value.int .i64 (k : Int) :: cells.drop (kept.length + 1)).drop (kept.length + 1 + ((s.wa x).length - (i + 1)))).toArray)) := HBW5.out.drew.grown (setRow_grownV _ _ _) (by have := RO5.out.lt; have := HV.out.gB; show B ≤ w5.heap.size; omega) (fun q e => by cases e; exact HV.out.gB)
                have HKP : Hid (World.cell? (World.setRow (World.drew w5) g ((cells.take kept.length ++ Value.int .i64 (k : Int) :: cells.drop (kept.length + 1)).take (kept.length + 1) ++ nats ((s.wa x).drop (i + 1)) ++ (cells.take kept.length ++ Value.int .i64 (k : Int) :: cells.drop (kept.length + 1)).drop (kept.length + 1 + ((s.wa x).length - (i + 1)))).toArray) ⟨w.heap.size, 0, none⟩ = some (.pointer (some ⟨b, 0, none⟩)) ∧ World.cell? (World.setRow (World.drew w5) g ((cells.take kept.length ++ Value.int .i64 (k : Int) :: cells.drop (kept.length + 1)).take (kept.length + 1) ++ nats ((s.wa x).drop (i + 1)) ++ (cells.take kept.length ++ Value.int .i64 (k : Int) :: cells.drop (kept.length + 1)).drop (kept.length + 1 + ((s.wa x).length - (i + 1)))).toArray) ⟨b, 1, none⟩ = some (.map (some G1.mb))) := And.intro ((cell_setRow_other _ _ _ _ HNE.out.1).trans e0) ((cell_setRow_other _ _ _ _ HNE.out.2).trans k1)
                revert HEW ROW HBF HKP
                generalize (World.setRow (World.drew w5) g ((cells.take kept.length ++ Value.int .i64 (k : Int) :: cells.drop (kept.length + 1)).take (kept.length + 1) ++ nats ((s.wa x).drop (i + 1)) ++ (cells.take kept.length ++ Value.int .i64 (k : Int) :: cells.drop (kept.length + 1)).drop (kept.length + 1 + ((s.wa x).length - (i + 1)))).toArray) = wW
                intro HEW ROW HBF HKP
                refine hK.out _ _ (fun _ => ?keep) (fun hHeld => ?_)
                case keep => exact HKP.out
                have hHeld := hHeld rfl
                clear hK K
                try go_simp
                refine restL_one (i := 11) (by kernel_rfl) rfl (fun K hK => ?_)
                refine step_mapUpd rfl (.tmp 109) (.tmp 110) (.tmp 116) rfl HEW.out.core.mp int_keyedV Try.underlying43 rfl (keyV x (lit_wf hn HX.out)) rfl (.slice (some ⟨g, 0, none⟩) (kept.length + 1 + ((s.wa x).length - (i + 1))) c) rfl ?_
                intro w7 hm7 hg7
                have HM7 := Lib.hid hm7
                have HG7 := Lib.hid hg7
                clear hm7 hg7
                refine hK.out _ _ (fun h => absurd h (by decide)) (fun _ => ?_)
                clear hK K
                try go_simp
                refine restL_done (by kernel_rfl) ?_ _
                go_wp2_with fail
                have hll : (kept ++ [k] ++ (s.wa x).drop (i + 1)).length = kept.length + 1 + ((s.wa x).length - (i + 1)) := by simp; omega
                refine bodyPost_ret (v := .bool false) (by simp [results, Try.results37, go_sem]) rfl ?_
                have hrun : V.visitC x (s.wa x) [] s = ({ s1 with cl := s1.cl.set k (a :: x :: tl), wa := V.upd s1.wa x (kept ++ [k] ++ (s.wa x).drop (i + 1)) }, false) := by
                  rw [HV.out.eq, HV.out.dropK hlt, HK.out (), HS.out.run, HVV.out (), if_neg (by decide), HFI.out ()]; rfl
                rw [hrun]
                rw [← hll] at HM7
                exact ⟨rfl, _, eng_fin HEW.out ROW.out HV.out.gB (by have := HX2.out.2.1; have := HV.out.kl; simp; omega) HV.out.cmax HV.out.og _ (conf_take HX2.out.1 (by simp; have := HX2.out.2.1; simp at this; omega) (by simp)) (by rw [hll]; exact hkn) HM7.out HG7.out, map_below HG7.out HEW.out.core.hmb (Nat.le_trans HEW.out.hb (Nat.le_of_lt HEW.out.row.lt)) HBF.out, HV.out.own⟩
              · have hce1 : i + 1 < c := by omega
                have hce2 : ((i : Int) + 1) < (c : Int) := by omega
                have hce3 : ((i : Int) + 1) ≤ ((s.wa x).length : Int) := by omega
                have hcw : IntKind.i64.wrap ((i : Int) + 1) = (i : Int) + 1 := IntWalk.i64_in _ (by omega)
                have hct : ((i : Int) + 1).toNat = i + 1 := by omega
                have hcf : (c = i + 1) = False := by simp; omega
                have hc0 : (0 : Int) ≤ (i : Int) + 1 := by omega
                clear hce
                refine wp_region_L (fun w' => w'.cell? ⟨w.heap.size, 0, none⟩ = some (.pointer (some ⟨b, 0, none⟩)) ∧ w'.cell? ⟨b, 1, none⟩ = some (.map (some G1.mb))) [11] (by kernel_rfl) (by exact ⟨e0, k1⟩) (fun hHeld => ?_)
                refine restL_pure (i := 4) (v := ?vc1) rfl (by kernel_rfl) (by kernel_rfl) (by kernel_rfl) (fun _ _ _ h => h) (Or.inl ⟨by rfl, ?yc1⟩) ?rc1
                case yc1 => intro w' hSw; clear hSw; go_simp; try (with_reducible rfl)
                go_simp
                refine restL_pure (i := 5) (v := ?vc2) rfl (by kernel_rfl) (by kernel_rfl) (by kernel_rfl) (fun _ _ _ h => h) (Or.inl ⟨by rfl, ?yc2⟩) ?rc2
                case yc2 => intro w' hSw; clear hSw; go_simp; try (with_reducible rfl)
                go_simp
                refine restL_pure (i := 6) (v := ?vc3) rfl (by kernel_rfl) (by kernel_rfl) (by kernel_rfl) (fun _ _ _ h => h) (Or.inl ⟨by rfl, ?yc3⟩) ?rc3
                case yc3 => intro w' hSw; clear hSw; go_simp; try (with_reducible rfl)
                go_simp
                refine restL_pure (i := 7) (v := ?vc4) rfl (by kernel_rfl) (by kernel_rfl) (by kernel_rfl) (fun _ _ _ h => h) (Or.inl ⟨by rfl, ?yc4⟩) ?rc4
                case yc4 => intro w' hSw; clear hSw; go_simp; try (with_reducible rfl)
                go_simp
                refine restL_pure (i := 8) (v := ?vc5) rfl (by kernel_rfl) (by kernel_rfl) (by kernel_rfl) (fun _ _ _ h => h) (Or.inl ⟨by rfl, ?yc5⟩) ?rc5
                case yc5 => intro w' hSw; clear hSw; go_simp; try (with_reducible rfl)
                go_simp
                refine restL_take (i := 0) (v := ?vc6) [[11]] rfl (by kernel_rfl) (by kernel_rfl) (by kernel_rfl) (by kernel_rfl) (fun _ _ _ h => h) (Or.inl ⟨by rfl, ?yc6⟩) hHeld ?rc6
                case yc6 =>
                  intro w' hSw
                  obtain ⟨q0, q1⟩ := hSw
                  go_simp
                  try (with_reducible rfl)
                go_simp
                refine restL_pure (i := 1) (v := ?vc7) rfl (by kernel_rfl) (by kernel_rfl) (by kernel_rfl) (fun _ _ _ h => h) (Or.inl ⟨by rfl, ?yc7⟩) ?rc7
                case yc7 => intro w' hSw; clear hSw; go_simp; try (with_reducible rfl)
                go_simp
                refine restL_pure (i := 2) (v := ?vc8) rfl (by kernel_rfl) (by kernel_rfl) (by kernel_rfl) (fun _ _ _ h => h) (Or.inl ⟨by rfl, ?yc8⟩) ?rc8
                case yc8 => intro w' hSw; clear hSw; go_simp; try (with_reducible rfl)
                go_simp
                refine restL_take (i := 3) (v := ?vc9) [[11]] rfl (by kernel_rfl) (by kernel_rfl) (by kernel_rfl) (by kernel_rfl) (fun _ _ _ h => h) (Or.inl ⟨by rfl, ?yc9⟩) hHeld ?rc9
                case yc9 =>
                  intro w' hSw
                  obtain ⟨q0, q1⟩ := hSw
                  go_simp
                  try (with_reducible rfl)
                go_simp
                refine restL_take (i := 9) (v := ?vc10) [[11]] rfl (by kernel_rfl) (by kernel_rfl) (by kernel_rfl) (by kernel_rfl) (fun _ _ _ h => h) (Or.inl ⟨by rfl, ?yc10⟩) hHeld ?rc10
                case yc10 =>
                  intro w' hSw
                  obtain ⟨q0, q1⟩ := hSw
                  go_simp
                  try (with_reducible rfl)
                go_simp
                refine restL_one (i := 10) (by kernel_rfl) rfl (fun K hK => ?_)
                refine step_room rfl (.tmp 111) (.tmp 115) 26 rfl 3 (.int .i64 0) 8 Try.underlying26 int_infoV g (kept.length + 1) c (cells.take kept.length ++ Value.int .i64 (k : Int) :: cells.drop (kept.length + 1)) rfl RO5.out hcl5 ⟨g, i + 1, none⟩ ((s.wa x).length - (i + 1)) _ (nats ((s.wa x).drop (i + 1))) rfl hHL.out (fun j u hu => by rw [addr_add]; exact hHN.out j u hu) hH1.out hkn ?_
                have HEW : Hid (EngS (World.setRow (World.drew w5) g ((cells.take kept.length ++ Value.int .i64 (k : Int) :: cells.drop (kept.length + 1)).take (kept.length + 1) ++ nats ((s.wa x).drop (i + 1)) ++ (cells.take kept.length ++ Value.int .i64 (k : Int) :: cells.drop (kept.length + 1)).drop (kept.length + 1 + ((s.wa x).length - (i + 1)))).toArray) B b { s1 with cl := s1.cl.set k (a :: x :: tl) } (fun z => z = x) de bad G1 DE) := HE5.out.drew.growW (setRow_grownV _ _ _) HV.out.og rfl
                have ROW : Hid (Row (World.setRow (World.drew w5) g ((cells.take kept.length ++ Value.int .i64 (k : Int) :: cells.drop (kept.length + 1)).take (kept.length + 1) ++ nats ((s.wa x).drop (i + 1)) ++ (cells.take kept.length ++ Value.int .i64 (k : Int) :: cells.drop (kept.length + 1)).drop (kept.length + 1 + ((s.wa x).length - (i + 1)))).toArray) g 3 ((cells.take kept.length ++ Value.int .i64 (k : Int) :: cells.drop (kept.length + 1)).take (kept.length + 1) ++ nats ((s.wa x).drop (i + 1)) ++ (cells.take kept.length ++ Value.int .i64 (k : Int) :: cells.drop (kept.length + 1)).drop (kept.length + 1 + ((s.wa x).length - (i + 1))))) := (show Row (World.drew w5) g 3 (cells.take kept.length ++ Value.int .i64 (k : Int) :: cells.drop (kept.length + 1)) from RO5.out).setRowV _
                have HBF : Hid (Below B w (World.setRow (World.drew w5) g ((cells.take kept.length ++ Value.int .i64 (k : Int) :: cells.drop (kept.length + 1)).take (kept.length + 1) ++ nats ((s.wa x).drop (i + 1)) ++ (cells.take kept.length ++ Value.int .i64 (k : Int) :: cells.drop (kept.length + 1)).drop (kept.length + 1 + ((s.wa x).length - (i + 1)))).toArray)) := HBW5.out.drew.grown (setRow_grownV _ _ _) (by have := RO5.out.lt; have := HV.out.gB; show B ≤ w5.heap.size; omega) (fun q e => by cases e; exact HV.out.gB)
                have HKP : Hid (World.cell? (World.setRow (World.drew w5) g ((cells.take kept.length ++ Value.int .i64 (k : Int) :: cells.drop (kept.length + 1)).take (kept.length + 1) ++ nats ((s.wa x).drop (i + 1)) ++ (cells.take kept.length ++ Value.int .i64 (k : Int) :: cells.drop (kept.length + 1)).drop (kept.length + 1 + ((s.wa x).length - (i + 1)))).toArray) ⟨w.heap.size, 0, none⟩ = some (.pointer (some ⟨b, 0, none⟩)) ∧ World.cell? (World.setRow (World.drew w5) g ((cells.take kept.length ++ Value.int .i64 (k : Int) :: cells.drop (kept.length + 1)).take (kept.length + 1) ++ nats ((s.wa x).drop (i + 1)) ++ (cells.take kept.length ++ Value.int .i64 (k : Int) :: cells.drop (kept.length + 1)).drop (kept.length + 1 + ((s.wa x).length - (i + 1)))).toArray) ⟨b, 1, none⟩ = some (.map (some G1.mb))) := And.intro ((cell_setRow_other _ _ _ _ HNE.out.1).trans e0) ((cell_setRow_other _ _ _ _ HNE.out.2).trans k1)
                revert HEW ROW HBF HKP
                generalize (World.setRow (World.drew w5) g ((cells.take kept.length ++ Value.int .i64 (k : Int) :: cells.drop (kept.length + 1)).take (kept.length + 1) ++ nats ((s.wa x).drop (i + 1)) ++ (cells.take kept.length ++ Value.int .i64 (k : Int) :: cells.drop (kept.length + 1)).drop (kept.length + 1 + ((s.wa x).length - (i + 1)))).toArray) = wW
                intro HEW ROW HBF HKP
                refine hK.out _ _ (fun _ => ?keep) (fun hHeld => ?_)
                case keep => exact HKP.out
                have hHeld := hHeld rfl
                clear hK K
                try go_simp
                refine restL_one (i := 11) (by kernel_rfl) rfl (fun K hK => ?_)
                refine step_mapUpd rfl (.tmp 109) (.tmp 110) (.tmp 116) rfl HEW.out.core.mp int_keyedV Try.underlying43 rfl (keyV x (lit_wf hn HX.out)) rfl (.slice (some ⟨g, 0, none⟩) (kept.length + 1 + ((s.wa x).length - (i + 1))) c) rfl ?_
                intro w7 hm7 hg7
                have HM7 := Lib.hid hm7
                have HG7 := Lib.hid hg7
                clear hm7 hg7
                refine hK.out _ _ (fun h => absurd h (by decide)) (fun _ => ?_)
                clear hK K
                try go_simp
                refine restL_done (by kernel_rfl) ?_ _
                go_wp2_with fail
                have hll : (kept ++ [k] ++ (s.wa x).drop (i + 1)).length = kept.length + 1 + ((s.wa x).length - (i + 1)) := by simp; omega
                refine bodyPost_ret (v := .bool false) (by simp [results, Try.results37, go_sem]) rfl ?_
                have hrun : V.visitC x (s.wa x) [] s = ({ s1 with cl := s1.cl.set k (a :: x :: tl), wa := V.upd s1.wa x (kept ++ [k] ++ (s.wa x).drop (i + 1)) }, false) := by
                  rw [HV.out.eq, HV.out.dropK hlt, HK.out (), HS.out.run, HVV.out (), if_neg (by decide), HFI.out ()]; rfl
                rw [hrun]
                rw [← hll] at HM7
                exact ⟨rfl, _, eng_fin HEW.out ROW.out HV.out.gB (by have := HX2.out.2.1; have := HV.out.kl; simp; omega) HV.out.cmax HV.out.og _ (conf_take HX2.out.1 (by simp; have := HX2.out.2.1; simp at this; omega) (by simp)) (by rw [hll]; exact hkn) HM7.out HG7.out, map_below HG7.out HEW.out.core.hmb (Nat.le_trans HEW.out.hb (Nat.le_of_lt HEW.out.row.lt)) HBF.out, HV.out.own⟩
            · have hv2b : (v == -1) = false := by simpa using hv2
              have HV2 : Hid (∀ _ : Unit, ¬ v = -1) := fun _ => hv2
              have HV0 : Hid (∀ _ : Unit, V.valL s1.va a = 0) := fun _ => by
                have h1 := HVV.out ()
                rcases HV.out.wf.tk.rng a HS.out.la with h | h | h
                · exact h
                · exact absurd (h1.symm.trans h) (HV1.out ())
                · exact absurd (h1.symm.trans h) (HV2.out ())
              clear hv2
              have z0 := Z5.out
              have e0 := REB5.out.cell 0
              have el := REB5.out.lt
              simp only [List.getElem?_cons_zero, List.getElem?_cons_succ] at e0
              go_upto_region 19 with fail
              refine wp_region_L (fun w' => w'.cell? ⟨w.heap.size, 0, none⟩ = some (.pointer (some ⟨b, 0, none⟩)) ∧ w'.cell? ⟨gk, 0, none⟩ = some (.int .i64 a)) [4] (by kernel_rfl) (by exact ⟨e0, z0⟩) (fun hHeld => ?_)
              refine restL_pure (i := 1) (v := ?vs1) rfl (by kernel_rfl) (by kernel_rfl) (by kernel_rfl) (fun _ _ _ h => h) (Or.inl ⟨by rfl, ?ys1⟩) ?rs1
              case ys1 => intro w' hSw; clear hSw; go_simp; try (with_reducible rfl)
              go_simp
              refine restL_take (i := 0) (v := ?vs2) [[4]] rfl (by kernel_rfl) (by kernel_rfl) (by kernel_rfl) (by kernel_rfl) (fun _ _ _ h => h) (Or.inl ⟨by rfl, ?ys2⟩) hHeld ?rs2
              case ys2 =>
                intro w' hSw
                obtain ⟨q0, q1⟩ := hSw
                go_simp
                try (with_reducible rfl)
              go_simp
              refine restL_take (i := 2) (v := ?vs3) [[4, 3]] rfl (by kernel_rfl) (by kernel_rfl) (by kernel_rfl) (by kernel_rfl) (fun _ _ _ h => h) (Or.inl ⟨by rfl, ?ys3⟩) hHeld ?rs3
              case ys3 =>
                intro w' hSw
                obtain ⟨q0, q1⟩ := hSw
                go_simp
                try (with_reducible rfl)
              go_simp
              refine restL_take (i := 3) (v := ?vs4) [[4]] rfl (by kernel_rfl) (by kernel_rfl) (by kernel_rfl) (by kernel_rfl) (fun _ _ _ h => h) (Or.inl ⟨by rfl, ?ys4⟩) hHeld ?rs4
              case ys4 =>
                intro w' hSw
                obtain ⟨q0, q1⟩ := hSw
                go_simp
                try (with_reducible rfl)
              go_simp
              refine restL_one (i := 4) (by kernel_rfl) rfl (fun K hK => ?_)
              go_simp
              go_at_call 25
              with_reducible refine (sSet_any B b n _ _ de bad G1 DE a _ HE5.out.drew hn HS.out.la HV.out.wf.tk.len (by have h9 : s1.tr.length ≤ n + 1 := HV.out.wf.tk.le; show s1.tr.length ≤ 2000000; omega)).mono ?_
              rintro e w6 ⟨rfl, G2, hE6, hK6⟩
              have HE6 := Lib.hid hE6
              have HK6 := Lib.hid hK6
              clear hE6 hK6
              refine hK.out _ _ (fun h => absurd h (by decide)) (fun _ => ?_)
              clear hK K
              try go_simp
              refine restL_done (by kernel_rfl) ?_ _
              go_wp2_with fail
              go_roundg ((s.wa x).length - (i + 1))
              case measure => omega
              case rel =>
                obtain ⟨q1, q2, q3⟩ := HX2.out
                have hog := (HK6.out.own g RO5.out.lt).trans HV.out.og
                have heo := (HK6.out.own _ REB5.out.lt).trans HV.out.eo
                refine ⟨i + 1, kept ++ [k], _, G2, cells.take kept.length ++ Value.int .i64 (k : Int) :: cells.drop (kept.length + 1), by omega, by omega, by go_num, by simp, ⟨?_, HE6.out, by rw [HK6.out.fn]; exact HV.out.fn, hog, HV.out.gB, ?_, q2, HV.out.cmax, q1, q3, by have := HV.out.kl; simp; omega, HV.out.nc, HS.out.put (HV0.out ()), List.mem_append.2 (.inl HV.out.xt), ?_, heo, HBW5.out.drew.trans HK6.out.below, fun q hq => ?_⟩⟩
                · rw [HV.out.eq, HV.out.dropK hlt, HK.out (), HS.out.run, HVV.out (), if_neg (HV1.out ()), HFI.out (), if_neg (HV2.out ())]
                · exact (HK6.out.oth g RO5.out.lt (by rw [HV.out.og]; nofun) (by rw [HV.out.og]; nofun) (by rw [HV.out.og]; nofun)).trans RO5.out
                · exact (HK6.out.oth _ REB5.out.lt (by rw [HV.out.eo]; nofun) (by rw [HV.out.eo]; nofun) (by rw [HV.out.eo]; nofun)).trans REB5.out
                · exact (HK6.out.own q (Nat.lt_of_lt_of_le hq HBW5.out.size)).trans (HV.out.own q hq)
          | some j =>
            have hoi : findI (V.notFalse s1.va) tl = (j : Int) := by simp [findI, hfi]
            have HFI : Hid (∀ _ : Unit, tl.findIdx? (V.notFalse s1.va) = some j) := fun _ => hfi
            obtain ⟨hj, hyx, hly, hwf2⟩ := HS.out.move j hfi
            have HWF2 := Lib.hid hwf2
            clear hfi hwf2
            generalize findI (V.notFalse s1.va) tl = oi at hoi ⊢
            subst hoi
            have hl2 := HL2.out ()
            have hj0 : (0 : Int) ≤ (j : Int) := by omega
            have hjm : (j : Int) + 2 < (m : Int) := by omega
            have hjm2 : j + 2 < m := by omega
            have hjw : IntKind.i64.wrap ((j : Int) + 2) = (j : Int) + 2 := IntWalk.i64_in _ (by have := (HV.out.eng.core.cs k hkl).cmax (HHK.out ()); unfold maxLen at this; omega)
            have hjt : ((j : Int) + 2).toNat = j + 2 := by omega
            have hj2 : (0 : Int) ≤ (j : Int) + 2 := by omega
            clear hl2
            obtain ⟨y, hy⟩ : ∃ y, tl.getD j 0 = y := ⟨_, rfl⟩
            have HY : Hid (∀ _ : Unit, tl.getD j 0 = y) := fun _ => hy
            rw [hy] at hyx hly HWF2
            have HYX := Lib.hid hyx
            have HLY := Lib.hid hly
            have z1 : w3.cell? ⟨gk, 1, none⟩ = some (.int .i64 x) := HCK4.out 1 _ (by simp [ints])
            have z2 : w3.cell? ⟨gk, j + 2, none⟩ = some (.int .i64 y) := HCK4.out (j + 2) _ (by rw [← hy]; simp [ints, List.getElem?_map, List.getElem?_eq_getElem hj, List.getD_eq_getElem?_getD])
            have y1 : w3.frozen? ⟨gk, 1, none⟩ = false := HFK4.out 1
            have y2 : w3.frozen? ⟨gk, j + 2, none⟩ = false := HFK4.out (j + 2)
            have E6 : Hid (EngS ((w3.setCell ⟨gk, 1, none⟩ (.int .i64 y)).setCell ⟨gk, j + 2, none⟩ (.int .i64 x)) B b { s1 with cl := s1.cl.set k (a :: y :: tl.set j x) } (fun z => z = x) de bad G1 DE) := by
              have hk1 : k < (s1.cl.set k (a :: x :: tl)).length := by simpa using hkl
              have E1 := HE3.out.putClause (k := k) (i := 1) hk1 (HHK.out ()) hm2 y
              have hg1 : (s1.cl.set k (a :: x :: tl)).getD k [] = a :: x :: tl := by simp [List.getD_eq_getElem?_getD, hkl]
              simp only [hg1, List.set_set, List.set_cons_succ, List.set_cons_zero] at E1
              have hg2 : (s1.cl.set k (a :: y :: tl)).getD k [] = a :: y :: tl := by simp [List.getD_eq_getElem?_getD, hkl]
              have E2 := E1.putClause (k := k) (i := j + 2) (by simpa using hkl) (HHK.out ()) hjm2 x
              simp only [hg2, List.set_set, List.set_cons_succ, List.set_cons_zero] at E2
              exact E2
            have RO6 : Hid (Row ((w3.setCell ⟨gk, 1, none⟩ (.int .i64 y)).setCell ⟨gk, j + 2, none⟩ (.int .i64 x)) g 3 cells) := farC (farC RO3.out HV.out.og (HOK.out ()) (by nofun) 1 _) HV.out.og (HOK.out ()) (by nofun) (j + 2) _
            have RE6 : Hid (Row ((w3.setCell ⟨gk, 1, none⟩ (.int .i64 y)).setCell ⟨gk, j + 2, none⟩ (.int .i64 x)) w.heap.size 37 [.pointer (some ⟨b, 0, none⟩)]) := farC (farC REB3.out HV.out.eo (HOK.out ()) (by nofun) 1 _) HV.out.eo (HOK.out ()) (by nofun) (j + 2) _
            have BE6 : Hid (Below B w ((w3.setCell ⟨gk, 1, none⟩ (.int .i64 y)).setCell ⟨gk, j + 2, none⟩ (.int .i64 x))) := (HBW3.out.setCell hBk _).setCell hBk _
            clear hj hyx hly hy HE3 RO3 REB3 HBW3 HCK4 HFK4
            go_upto_region 13 with fail
            refine wp_region_L (fun w' => w'.cell? ⟨gk, 1, none⟩ = some (.int .i64 x) ∧ w'.cell? ⟨gk, j + 2, none⟩ = some (.int .i64 y)) [13, 14, 15] (by kernel_rfl) (by exact ⟨z1, z2⟩) (fun hHeld => ?_)
            refine restL_pure (i := 0) (v := ?vn1) rfl (by kernel_rfl) (by kernel_rfl) (by kernel_rfl) (fun _ _ _ h => h) (Or.inl ⟨by rfl, ?yn1⟩) ?rn1
            case yn1 => intro w' hSw; clear hSw; go_simp; try (with_reducible rfl)
            go_simp
            refine restL_pure (i := 1) (v := ?vn2) rfl (by kernel_rfl) (by kernel_rfl) (by kernel_rfl) (fun _ _ _ h => h) (Or.inl ⟨by rfl, ?yn2⟩) ?rn2
            case yn2 => intro w' hSw; clear hSw; go_simp; try (with_reducible rfl)
            go_simp
            refine restL_pure (i := 2) (v := ?vn3) rfl (by kernel_rfl) (by kernel_rfl) (by kernel_rfl) (fun _ _ _ h => h) (Or.inl ⟨by rfl, ?yn3⟩) ?rn3
            case yn3 => intro w' hSw; clear hSw; go_simp; try (with_reducible rfl)
            go_simp
            refine restL_pure (i := 3) (v := ?vn4) rfl (by kernel_rfl) (by kernel_rfl) (by kernel_rfl) (fun _ _ _ h => h) (Or.inl ⟨by rfl, ?yn4⟩) ?rn4
            case yn4 => intro w' hSw; clear hSw; go_simp; try (with_reducible rfl)
            go_simp
            refine restL_pure (i := 4) (v := ?vn5) rfl (by kernel_rfl) (by kernel_rfl) (by kernel_rfl) (fun _ _ _ h => h) (Or.inl ⟨by rfl, ?yn5⟩) ?rn5
            case yn5 => intro w' hSw; clear hSw; go_simp; try (with_reducible rfl)
            go_simp
            refine restL_pure (i := 5) (v := ?vn6) rfl (by kernel_rfl) (by kernel_rfl) (by kernel_rfl) (fun _ _ _ h => h) (Or.inl ⟨by rfl, ?yn6⟩) ?rn6
            case yn6 => intro w' hSw; clear hSw; go_simp; try (with_reducible rfl)
            go_simp
            refine restL_pure (i := 6) (v := ?vn7) rfl (by kernel_rfl) (by kernel_rfl) (by kernel_rfl) (fun _ _ _ h => h) (Or.inl ⟨by rfl, ?yn7⟩) ?rn7
            case yn7 => intro w' hSw; clear hSw; go_simp; try (with_reducible rfl)
            go_simp
            refine restL_pure (i := 9) (v := ?vn8) rfl (by kernel_rfl) (by kernel_rfl) (by kernel_rfl) (fun _ _ _ h => h) (Or.inl ⟨by rfl, ?yn8⟩) ?rn8
            case yn8 => intro w' hSw; clear hSw; go_simp; try (with_reducible rfl)
            go_simp
            refine restL_take (i := 7) (v := ?vn9) [[13], [14], [15]] rfl (by kernel_rfl) (by kernel_rfl) (by kernel_rfl) (by kernel_rfl) (fun _ _ _ h => h) (Or.inl ⟨by rfl, ?yn9⟩) hHeld ?rn9
            case yn9 =>
              intro w' hSw
              obtain ⟨q0, q1⟩ := hSw
              go_simp
              try (with_reducible rfl)
            go_simp
            refine restL_take (i := 8) (v := ?vn10) [[13], [14], [15]] rfl (by kernel_rfl) (by kernel_rfl) (by kernel_rfl) (by kernel_rfl) (fun _ _ _ h => h) (Or.inl ⟨by rfl, ?yn10⟩) hHeld ?rn10
            case yn10 =>
              intro w' hSw
              obtain ⟨q0, q1⟩ := hSw
              go_simp
              try (with_reducible rfl)
            go_simp
            refine restL_take (i := 10) (v := ?vn11) [[13, 11], [14], [15]] rfl (by kernel_rfl) (by kernel_rfl) (by kernel_rfl) (by kernel_rfl) (fun _ _ _ h => h) (Or.inl ⟨by rfl, ?yn11⟩) hHeld ?rn11
            case yn11 =>
              intro w' hSw
              obtain ⟨q0, q1⟩ := hSw
              go_simp
              try (with_reducible rfl)
            go_simp
            refine restL_take (i := 11) (v := ?vn12) [[13], [14], [15]] rfl (by kernel_rfl) (by kernel_rfl) (by kernel_rfl) (by kernel_rfl) (fun _ _ _ h => h) (Or.inl ⟨by rfl, ?yn12⟩) hHeld ?rn12
            case yn12 =>
              intro w' hSw
              obtain ⟨q0, q1⟩ := hSw
              go_simp
              try (with_reducible rfl)
            go_simp
            refine restL_take (i := 12) (v := ?vn13) [[13], [14], [15]] rfl (by kernel_rfl) (by kernel_rfl) (by kernel_rfl) (by kernel_rfl) (fun _ _ _ h => h) (Or.inl ⟨by rfl, ?yn13⟩) hHeld ?rn13
            case yn13 =>
              intro w' hSw
              obtain ⟨q0, q1⟩ := hSw
              go_simp
              try (with_reducible rfl)
            go_simp
            refine restL_one (i := 13) (by kernel_rfl) rfl (fun K hK => ?_)
            go_simp
            refine hK.out _ _ (fun h => absurd h (by decide)) (fun _ => ?_)
            clear hK K
            try go_simp
            refine restL_one (i := 14) (by kernel_rfl) rfl (fun K hK => ?_)
            go_simp
            refine hK.out _ _ (fun h => absurd h (by decide)) (fun _ => ?_)
            clear hK K
            try go_simp
            refine restL_one (i := 15) (by kernel_rfl) rfl (fun K hK => ?_)
            go_simp
            refine hK.out _ _ (fun h => absurd h (by decide)) (fun _ => ?_)
            clear hK K
            try go_simp
            refine restL_done (by kernel_rfl) ?_ _
            go_wp2_with fail
            clear z1 z2 y1 y2
            revert E6 RO6 RE6 BE6
            generalize (w3.setCell ⟨gk, 1, none⟩ (.int .i64 y)).setCell ⟨gk, j + 2, none⟩ (.int .i64 x) = w6
            intro E6 RO6 RE6 BE6
            have R6 : Hid (Row w6 b 56 [G1.CL, .map (some G1.mb), G1.VA, G1.TR, .int .i64 (s1.hd : Int), DE, .bool bad]) := E6.out.row
            have hgd6 : (s1.cl.set k (a :: y :: tl.set j x)).getD k [] = a :: y :: tl.set j x := by simp [List.getD_eq_getElem?_getD, hkl]
            have z1 : w6.cell? ⟨gk, 1, none⟩ = some (.int .i64 y) := by
              have hcs6 := E6.out.core.cs k (by simpa using hkl)
              obtain ⟨gk', ck', hH6, _, _, _, _, hcell6, _⟩ := hcs6.at_ (i := 0) (by show 0 < ((s1.cl.set k (a :: y :: tl.set j x)).getD k []).length; rw [hgd6]; simp)
              rw [HHK.out ()] at hH6
              cases hH6
              exact hcell6 1 _ (by show (ints ((s1.cl.set k (a :: y :: tl.set j x)).getD k []))[1]? = _; rw [hgd6]; simp [ints])
            have hgk6 : gk < w6.heap.size := World.block_lt_of_cell? w6 ⟨gk, 1, none⟩ z1
            have hb6 : b < w6.heap.size := R6.out.lt
            have he6 : w.heap.size < w6.heap.size := RE6.out.lt
            have HMI : Hid (MI w6 Try.prog 3 G1.mb G1.fn (.slice none 0 0)) := E6.out.core.mp
            have HwN : Hid ((s1.wa y).length ≤ 1000000) := by
              show _ ≤ _
              have h1 := HV.out.wf.wle y
              simp only [V.upd_other _ _ HYX.out] at h1
              omega
            have k0 := R6.out.cell 0
            have k1 := R6.out.cell 1
            have k2 := R6.out.cell 2
            have k3 := R6.out.cell 3
            have k4 := R6.out.cell 4
            have k5 := R6.out.cell 5
            have k6 := R6.out.cell 6
            have kl := R6.out.lt
            simp only [List.getElem?_cons_zero, List.getElem?_cons_succ] at k0 k1 k2 k3 k4 k5 k6
            have e0 := RE6.out.cell 0
            have el := RE6.out.lt
            simp only [List.getElem?_cons_zero, List.getElem?_cons_succ] at e0
            clear hgd6
            have hBw6 : B ≤ w6.heap.size := by have := E6.out.hb; omega
            refine wp_region_L (fun w' => w'.cell? ⟨w.heap.size, 0, none⟩ = some (.pointer (some ⟨b, 0, none⟩)) ∧ w'.cell? ⟨b, 1, none⟩ = some (.map (some G1.mb)) ∧ w'.cell? ⟨gk, 1, none⟩ = some (.int .i64 y) ∧ MI w' Try.prog 3 G1.mb G1.fn (.slice none 0 0)) [18] (by kernel_rfl) (by exact ⟨e0, k1, z1, HMI.out⟩) (fun hHeld => ?_)
            refine restL_pure (i := 4) (v := ?vp1) rfl (by kernel_rfl) (by kernel_rfl) (by kernel_rfl) (fun _ _ _ h => h) (Or.inl ⟨by rfl, ?yp1⟩) ?rp1
            case yp1 => intro w' hSw; clear hSw; go_simp; try (with_reducible rfl)
            go_simp
            refine restL_pure (i := 11) (v := ?vp2) rfl (by kernel_rfl) (by kernel_rfl) (by kernel_rfl) (fun _ _ _ h => h) (Or.inl ⟨by rfl, ?yp2⟩) ?rp2
            case yp2 => intro w' hSw; clear hSw; go_simp; try (with_reducible rfl)
            go_simp
            refine restL_pure (i := 15) (v := ?vp3) rfl (by kernel_rfl) (by kernel_rfl) (by kernel_rfl) (fun _ _ _ h => h) (Or.inl ⟨by rfl, ?yp3⟩) ?rp3
            case yp3 => intro w' hSw; clear hSw; go_simp; try (with_reducible rfl)
            go_simp
            refine restL_take (i := 0) (v := ?vp4) [[18]] rfl (by kernel_rfl) (by kernel_rfl) (by kernel_rfl) (by kernel_rfl) (fun _ _ _ h => h) (Or.inl ⟨by rfl, ?yp4⟩) hHeld ?rp4
            case yp4 =>
              intro w' hSw
              obtain ⟨q0, q1, q2, q3⟩ := hSw
              have q4 := q3.lookup int_keyedV Try.underlying43 (Try.zeroValue26 w') (keyV y (lit_wf hn HLY.out))
              go_simp
              try (with_reducible rfl)
            go_simp
            refine restL_pure (i := 1) (v := ?vp5) rfl (by kernel_rfl) (by kernel_rfl) (by kernel_rfl) (fun _ _ _ h => h) (Or.inl ⟨by rfl, ?yp5⟩) ?rp5
            case yp5 => intro w' hSw; clear hSw; go_simp; try (with_reducible rfl)
            go_simp
            refine restL_pure (i := 2) (v := ?vp6) rfl (by kernel_rfl) (by kernel_rfl) (by kernel_rfl) (fun _ _ _ h => h) (Or.inl ⟨by rfl, ?yp6⟩) ?rp6
            case yp6 => intro w' hSw; clear hSw; go_simp; try (with_reducible rfl)
            go_simp
            refine restL_take (i := 3) (v := ?vp7) [[18]] rfl (by kernel_rfl) (by kernel_rfl) (by kernel_rfl) (by kernel_rfl) (fun _ _ _ h => h) (Or.inl ⟨by rfl, ?yp7⟩) hHeld ?rp7
            case yp7 =>
              intro w' hSw
              obtain ⟨q0, q1, q2, q3⟩ := hSw
              have q4 := q3.lookup int_keyedV Try.underlying43 (Try.zeroValue26 w') (keyV y (lit_wf hn HLY.out))
              go_simp
              try (with_reducible rfl)
            go_simp
            refine restL_take (i := 5) (v := ?vp8) [[18]] rfl (by kernel_rfl) (by kernel_rfl) (by kernel_rfl) (by kernel_rfl) (fun _ _ _ h => h) (Or.inl ⟨by rfl, ?yp8⟩) hHeld ?rp8
            case yp8 =>
              intro w' hSw
              obtain ⟨q0, q1, q2, q3⟩ := hSw
              have q4 := q3.lookup int_keyedV Try.underlying43 (Try.zeroValue26 w') (keyV y (lit_wf hn HLY.out))
              go_simp
              try (with_reducible rfl)
            go_simp
            refine restL_take (i := 6) (v := ?vp9) [[18]] rfl (by kernel_rfl) (by kernel_rfl) (by kernel_rfl) (by kernel_rfl) (fun _ _ _ h => h) (Or.inl ⟨by rfl, ?yp9⟩) hHeld ?rp9
            case yp9 =>
              intro w' hSw
              obtain ⟨q0, q1, q2, q3⟩ := hSw
              have q4 := q3.lookup int_keyedV Try.underlying43 (Try.zeroValue26 w') (keyV y (lit_wf hn HLY.out))
              go_simp
              try (with_reducible rfl)
            go_simp
            refine restL_take (i := 7) (v := ?vp10) [[18]] rfl (by kernel_rfl) (by kernel_rfl) (by kernel_rfl) (by kernel_rfl) (fun _ _ _ h => h) (Or.inl ⟨by rfl, ?yp10⟩) hHeld ?rp10
            case yp10 =>
              intro w' hSw
              obtain ⟨q0, q1, q2, q3⟩ := hSw
              have q4 := q3.lookup int_keyedV Try.underlying43 (Try.zeroValue26 w') (keyV y (lit_wf hn HLY.out))
              go_simp
              try (with_reducible rfl)
            go_simp
            refine restL_pure (i := 8) (v := ?vp11) rfl (by kernel_rfl) (by kernel_rfl) (by kernel_rfl) (fun _ _ _ h => h) (Or.inl ⟨by rfl, ?yp11⟩) ?rp11
            case yp11 => intro w' hSw; clear hSw; go_simp; try (with_reducible rfl)
            go_simp
            refine restL_pure (i := 9) (v := ?vp12) rfl (by kernel_rfl) (by kernel_rfl) (by kernel_rfl) (fun _ _ _ h => h) (Or.inl ⟨by rfl, ?yp12⟩) ?rp12
            case yp12 => intro w' hSw; clear hSw; go_simp; try (with_reducible rfl)
            go_simp
            refine restL_take (i := 10) (v := ?vp13) [[18]] rfl (by kernel_rfl) (by kernel_rfl) (by kernel_rfl) (by kernel_rfl) (fun _ _ _ h => h) (Or.inl ⟨by rfl, ?yp13⟩) hHeld ?rp13
            case yp13 =>
              intro w' hSw
              obtain ⟨q0, q1, q2, q3⟩ := hSw
              have q4 := q3.lookup int_keyedV Try.underlying43 (Try.zeroValue26 w') (keyV y (lit_wf hn HLY.out))
              go_simp
              try (with_reducible rfl)
            go_simp
            refine restL_take (i := 12) (v := ?vp14) [[18]] rfl (by kernel_rfl) (by kernel_rfl) (by kernel_rfl) (by kernel_rfl) (fun _ _ _ h => h) (Or.inl ⟨by rfl, ?yp14⟩) hHeld ?rp14
            case yp14 =>
              intro w' hSw
              obtain ⟨q0, q1, q2, q3⟩ := hSw
              have q4 := q3.lookup int_keyedV Try.underlying43 (Try.zeroValue26 w') (keyV y (lit_wf hn HLY.out))
              go_simp
              try (with_reducible rfl)
            go_simp
            refine restL_take (i := 13) (v := ?vp15) [[18]] rfl (by kernel_rfl) (by kernel_rfl) (by kernel_rfl) (by kernel_rfl) (fun _ _ _ h => h) (Or.inl ⟨by rfl, ?yp15⟩) hHeld ?rp15
            case yp15 =>
              intro w' hSw
              obtain ⟨q0, q1, q2, q3⟩ := hSw
              have q4 := q3.lookup int_keyedV Try.underlying43 (Try.zeroValue26 w') (keyV y (lit_wf hn HLY.out))
              go_simp
              try (with_reducible rfl)
            go_simp
            refine restL_take (i := 14) (v := ?vp16) [[18]] rfl (by kernel_rfl) (by kernel_rfl) (by kernel_rfl) (by kernel_rfl) (fun _ _ _ h => h) (Or.inl ⟨by rfl, ?yp16⟩) hHeld ?rp16
            case yp16 =>
              intro w' hSw
              obtain ⟨q0, q1, q2, q3⟩ := hSw
              have q4 := q3.lookup int_keyedV Try.underlying43 (Try.zeroValue26 w') (keyV y (lit_wf hn HLY.out))
              go_simp
              try (with_reducible rfl)
            go_simp
            refine restL_one (i := 16) (by kernel_rfl) rfl (fun K hK => ?_)
            go_simp
            have S7 : Hid ((World.drew (World.drew (World.alloc w6 (.cells #[.int .i64 (k : Int)] 3)))).cell? ⟨w.heap.size, 0, none⟩ = some (.pointer (some ⟨b, 0, none⟩)) ∧ (World.drew (World.drew (World.alloc w6 (.cells #[.int .i64 (k : Int)] 3)))).cell? ⟨b, 1, none⟩ = some (.map (some G1.mb)) ∧ (World.drew (World.drew (World.alloc w6 (.cells #[.int .i64 (k : Int)] 3)))).cell? ⟨gk, 1, none⟩ = some (.int .i64 y) ∧ MI (World.drew (World.drew (World.alloc w6 (.cells #[.int .i64 (k : Int)] 3)))) Try.prog 3 G1.mb G1.fn (.slice none 0 0)) := And.intro ((World.cell?_alloc_lt _ _ _ he6).trans e0) (And.intro ((World.cell?_alloc_lt _ _ _ hb6).trans k1) (And.intro ((World.cell?_alloc_lt _ _ _ hgk6).trans z1) ((HMI.out.alloc _).drew.drew)))
            have HL7 : Hid (Rd (World.drew (World.drew (World.alloc w6 (.cells #[.int .i64 (k : Int)] 3)))) (w6.heap.size + 1) 1 (some ⟨w6.heap.size, 0, none⟩) 1 [.int .i64 (k : Int)]) := Rd.lit w6 #[.int .i64 (k : Int)] 3 (sz := 1) (m := 1) rfl
            have E7 : Hid (EngS (World.drew (World.drew (World.alloc w6 (.cells #[.int .i64 (k : Int)] 3)))) B b { s1 with cl := s1.cl.set k (a :: y :: tl.set j x) } (fun z => z = x) de bad G1 DE) := (E6.out.alloc _).drew.drew
            have RO7 : Hid (Row (World.drew (World.drew (World.alloc w6 (.cells #[.int .i64 (k : Int)] 3)))) g 3 cells) := (show Row (World.alloc w6 _) g 3 cells from RO6.out.alloc _)
            have RE7 : Hid (Row (World.drew (World.drew (World.alloc w6 (.cells #[.int .i64 (k : Int)] 3)))) w.heap.size 37 [.pointer (some ⟨b, 0, none⟩)]) := (show Row (World.alloc w6 _) _ _ _ from RE6.out.alloc _)
            have BE7 : Hid (Below B w (World.drew (World.drew (World.alloc w6 (.cells #[.int .i64 (k : Int)] 3))))) := (BE6.out.alloc hBw6 _).drew.drew
            have hsz7 : (World.drew (World.drew (World.alloc w6 (.cells #[.int .i64 (k : Int)] 3)))).heap.size = w6.heap.size + 1 := by simp
            revert S7 HL7 E7 RO7 RE7 BE7 hsz7
            generalize World.drew (World.drew (World.alloc w6 (.cells #[.int .i64 (k : Int)] 3))) = w7
            intro S7 HL7 E7 RO7 RE7 BE7 hsz7
            have HSZ7 := Lib.hid hsz7
            clear hsz7
            refine hK.out _ _ (fun _ => ?keep) (fun hHeld => ?_)
            case keep => exact S7.out
            have hHeld := hHeld rfl
            clear hK K
            try go_simp
            refine restL_one (i := 17) (by kernel_rfl) rfl (fun K hK => ?_)
            refine step_app rfl (.tmp 92) (.tmp 94) 26 rfl B 3 (.int .i64 0) 1 8 Try.underlying26 int_infoV rfl (by decide) (by decide) (G1.fn y) (s1.wa y).length (nats (s1.wa y)) rfl (E7.out.core.wt y HYX.out).1 (w6.heap.size + 1) (some ⟨w6.heap.size, 0, none⟩) 1 1 [.int .i64 (k : Int)] rfl HL7.out (by intro u hu; simp at hu; subst hu; rfl) (by have := HwN.out; omega) (by rw [HSZ7.out]; omega) ?_
            intro v' w8 hown' hgrow' hat'
            obtain ⟨hE8, hH8⟩ := E7.out.watchApp HYX.out hown' hgrow' hat'
            have HE8 := Lib.hid hE8
            have HH8 := Lib.hid hH8
            have hfy : ∀ q, (G1.fn y).ownBlock = some q → G1.O q = .watch y := (E7.out.core.wt y HYX.out).2
            have hS8 : Hid (w8.cell? ⟨w.heap.size, 0, none⟩ = some (.pointer (some ⟨b, 0, none⟩)) ∧ w8.cell? ⟨b, 1, none⟩ = some (.map (some G1.mb)) ∧ w8.cell? ⟨gk, 1, none⟩ = some (.int .i64 y) ∧ MI w8 Try.prog 3 G1.mb G1.fn (.slice none 0 0)) := And.intro (hgrow'.cell S7.out.1 (fun e => by have := hfy _ e.symm; rw [HV.out.eo] at this; cases this)) (And.intro (hgrow'.cell S7.out.2.1 (fun e => by have := hfy _ e.symm; rw [HV.out.eng.ob] at this; cases this)) (And.intro (hgrow'.cell S7.out.2.2.1 (fun e => by have := hfy _ e.symm; rw [HOK.out ()] at this; cases this)) (S7.out.2.2.2.kept hgrow' (fun e => by have := hfy _ e; rw [HV.out.eng.core.om] at this; cases this))))
            have RO8 : Hid (Row w8 g 3 cells) := RO7.out.grown hgrow' (fun e => by have := hfy _ e.symm; rw [HV.out.og] at this; injection this with this; exact HYX.out this.symm)
            have RE8 : Hid (Row w8 w.heap.size 37 [.pointer (some ⟨b, 0, none⟩)]) := RE7.out.grown hgrow' (fun e => by have := hfy _ e.symm; rw [HV.out.eo] at this; cases this)
            have BE8 : Hid (Below B w w8) := BE7.out.grown hgrow' (by rw [HSZ7.out]; omega) (fun q e => ((E7.out.core.wt y HYX.out).1.lt q e).1)
            have hsz8 : w7.heap.size ≤ w8.heap.size := hgrow'.size
            clear hE8 hH8 hown' hgrow' hat' hfy
            refine hK.out _ _ (fun _ => ?keep) (fun hHeld => ?_)
            case keep => exact hS8.out
            have hHeld := hHeld rfl
            clear hK K
            try go_simp
            refine restL_one (i := 18) (by kernel_rfl) rfl (fun K hK => ?_)
            refine step_mapUpd rfl (.tmp 81) (.tmp 84) (.tmp 95) rfl hS8.out.2.2.2 int_keyedV Try.underlying43 rfl (keyV y (lit_wf hn HLY.out)) rfl v' rfl ?_
            intro w9 hm9 hg9
            have HE9 := Lib.hid ((HE8.out.mapUpd HH8.out hm9 hg9).weak (X' := fun z => z = x) (fun z q => q.1.resolve_right q.2))
            have RO9 : Hid (Row w9 g 3 cells) := RO8.out.grown hg9 (fun e => by injection e with e; have := HV.out.eng.core.om; rw [← e, HV.out.og] at this; cases this)
            have RE9 : Hid (Row w9 w.heap.size 37 [.pointer (some ⟨b, 0, none⟩)]) := RE8.out.grown hg9 (fun e => by injection e with e; have := HV.out.eng.core.om; rw [← e, HV.out.eo] at this; cases this)
            have BE9 : Hid (Below B w w9) := map_below hg9 HV.out.eng.core.hmb (by rw [HSZ7.out] at hsz8; omega) BE8.out
            clear hm9 hg9
            refine hK.out _ _ (fun h => absurd h (by decide)) (fun _ => ?_)
            clear hK K
            try go_simp
            refine restL_done (by kernel_rfl) ?_ _
            go_wp2_with fail
            go_roundg ((s.wa x).length - (i + 1))
            case measure => omega
            case rel =>
              refine ⟨i + 1, kept, _, _, cells, by omega, by omega, by go_num, rfl, HV.out.onMoved ?_ HE9.out ?_ HV.out.xt RO9.out RE9.out BE9.out ?_ ?_ ?_ ?_⟩
              · rw [HV.out.eq, HV.out.dropK hlt, HK.out (), HS.out.run, HVV.out (), if_neg (HV1.out ()), HFI.out ()]
                simp only [HY.out ()]
              · exact HWF2.out
              · show updV G1.fn y v' x = G1.fn x
                unfold updV; rw [if_neg (fun e => HYX.out e.symm)]
              · exact (newO_old (by have := RO6.out.lt; rw [HSZ7.out]; omega)).trans HV.out.og
              · exact (newO_old (by have := RE6.out.lt; rw [HSZ7.out]; omega)).trans HV.out.eo
              · exact fun q hq => (newO_old (by have := BE6.out.size; rw [HSZ7.out]; omega)).trans (HV.out.own q hq)
      · have hie : i = (s.wa x).length := by omega
        have hltz : ¬ (i : Int) < ((s.wa x).length : Int) := by omega
        subst hie
        have R1 : Hid (Row wr b 56 [G1.CL, .map (some G1.mb), G1.VA, G1.TR, .int .i64 (s1.hd : Int), DE, .bool bad]) := HV.out.eng.row
        have REB := Lib.hid HV.out.ebr
        have k0 := R1.out.cell 0
        have k1 := R1.out.cell 1
        have k2 := R1.out.cell 2
        have k3 := R1.out.cell 3
        have k4 := R1.out.cell 4
        have k5 := R1.out.cell 5
        have k6 := R1.out.cell 6
        have kl := R1.out.lt
        simp only [List.getElem?_cons_zero, List.getElem?_cons_succ] at k0 k1 k2 k3 k4 k5 k6
        have e0 := REB.out.cell 0
        have el := REB.out.lt
        simp only [List.getElem?_cons_zero, List.getElem?_cons_succ] at e0
        go_wp2_with (first | (at_mapUpdate; refine wpList_mapUpd rfl (.tmp 126) (.tmp 127) (.tmp 128) rfl HV.out.eng.core.mp int_keyedV Try.underlying43 rfl (keyV x (lit_wf hn HX.out)) rfl (.slice (some ⟨g, 0, none⟩) kept.length c) rfl ?_; intro w7 hm7 hg7; have HM7 := Lib.hid hm7; have HG7 := Lib.hid hg7; clear hm7 hg7) | fail)
        refine bodyPost_ret (v := .bool true) (by simp [results, Try.results37, go_sem]) rfl ?_
        have hrun : V.visitC x (s.wa x) [] s = ({ s1 with wa := V.upd s1.wa x kept }, true) := by
          rw [HV.out.eq, List.drop_length]; rfl
        rw [hrun]
        exact ⟨rfl, _, eng_fin HV.out.eng HV.out.row HV.out.gB HV.out.clen HV.out.cmax HV.out.og _ HV.out.kc (by have := HV.out.kl; have := HV.out.nc; omega) HM7.out HG7.out, map_below HG7.out HV.out.eng.core.hmb (Nat.le_trans HV.out.eng.hb (Nat.le_of_lt HV.out.eng.row.lt)) HV.out.bel, HV.out.own⟩
end Go.Proofs.Ytbomfekfebamkaa

