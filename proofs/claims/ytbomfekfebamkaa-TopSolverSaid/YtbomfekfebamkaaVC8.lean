/-
  refute's engine: the method visit, walked.
-/
import Derived.Test.YtbomfekfebamkaaVC6
import Derived.Test.YtbomfekfebamkaaVC7
namespace Go.Proofs.Ytbomfekfebamkaa
open Go.RowKit Go.Maps
set_option linter.unusedSimpArgs false
set_option linter.unusedVariables false
/-- What a visit of one clause keeps: all below B, whose blocks are, the open row. -/
structure KeepX (x : Int) (B : Nat) (w w' : World) (G G' : EG) : Prop where
  below : Below B w w'
  fn : G'.fn x = G.fn x
  own : ∀ g, g < w.heap.size → G'.O g = G.O g
  oth : ∀ q, q < w.heap.size → G.O q = .watch x ∨ fre (G.O q) → w'.heap[q]? = w.heap[q]?
theorem fre_ne {O : Nat → Ow} {x : Int} {q g : Nat} {t : Ow} (ho : O q = .watch x ∨ fre (O q)) (hg : O g = t) (h1 : t ≠ .watch x) (h2 : ¬ fre t) : q ≠ g := fun e => by
  subst e
  rcases ho with h | h
  · exact h1 (hg.symm.trans h)
  · exact h2 (by rw [← hg]; exact h)
set_option maxRecDepth 100000 in
set_option maxHeartbeats 4000000 in
theorem pVisit_any (B b n : Nat) (F : List (List Int)) (s : V.En) (x : Int) (kept r : List Nat) (k : Nat) (us : List Int) (em : Bool) (G : EG) (US : Value) (w : World) (h : EngR w B b s (fun z => z = x) us em G US) (hW : V.WF n F { s with wa := V.upd s.wa x (kept ++ k :: r) }) (hn : n ≤ 1000000) (hF : F.length ≤ 1000000) :
    Calls Try.prog 33 #[.pointer (some ⟨b, 0, none⟩), .int .i64 (k : Int), .int .i64 x] w fun e w' => ∃ G', e = .returned (.tuple #[.bool (V.visit1 x k s).2.1, .bool (V.visit1 x k s).2.2]) ∧ EngR w' B b (V.visit1 x k s).1 (fun z => z = x) us em G' US ∧ KeepX x B w w' G G' := by
  obtain ⟨c0, a, tl, hS⟩ := V.step_facts hW
  have HONE : Hid (∀ _ : Unit, V.visit1 x k s = _) := fun _ => hS.one
  have hrg : V.valL s.va a = 0 ∨ V.valL s.va a = 1 ∨ V.valL s.va a = -1 := hW.tk.rng a hS.la
  have HRG := Lib.hid hrg
  have HTK : Hid (V.TrOk n s.va s.tr) := hW.tk
  have htl : s.tr.length ≤ n + 1 := hW.tk.le
  have HTL : Hid (s.tr.length ≤ 2000000) := (by show _ ≤ _; omega)
  have H := Lib.hid h
  have HW := Lib.hid hW
  have HS := Lib.hid hS
  obtain ⟨p0, p1, hc0, hpp⟩ : ∃ p0 p1, c0 = p0 :: p1 :: tl ∧ ((p0 = a ∧ p1 = x) ∨ (p0 = x ∧ p1 = a)) := by
    rcases hS.shape with e | e
    · exact ⟨a, x, e, .inl ⟨rfl, rfl⟩⟩
    · exact ⟨x, a, e, .inr ⟨rfl, rfl⟩⟩
  have HPP := Lib.hid hpp
  have hgd : s.cl.getD k [] = p0 :: p1 :: tl := by rw [V.getD_of_get hS.at_, hc0]
  have HGD : Hid (∀ _ : Unit, s.cl.getD k [] = p0 :: p1 :: tl) := fun _ => hgd
  have hkl := hS.kl
  have R1 : Hid (Row w b 46 [G.CL, .map (some G.mb), US, .bool em, G.VA, G.TR, .int .i64 (s.hd : Int)]) := h.row
  have hhl := h.core.hl
  obtain ⟨gc, cc, hCL, _, _, _, hcc, hcell, _⟩ := h.core.cl.at_ (i := k) (by omega)
  have hc1 : w.cell? ⟨gc, k, none⟩ = some (G.hs.getD k undef) := hcell k _ (by simp [List.getD_eq_getElem?_getD, List.getElem?_eq_getElem (show k < G.hs.length by omega)])
  obtain ⟨gq, ck, hHK, hOk, hBk, hgkl, hck, hcellk, hfrk⟩ := (h.core.cs k hkl).at_ (i := 0) (by rw [hgd]; simp)
  have hln : (s.cl.getD k []).length = tl.length + 2 := by rw [hgd]; simp
  obtain ⟨m, hm⟩ : ∃ m, tl.length + 2 = m := ⟨_, rfl⟩
  have HM : Hid (∀ _ : Unit, tl.length + 2 = m) := fun _ => hm
  rw [hln, hm] at hHK hck
  have hckm : ck ≤ maxLen := (h.core.cs k hkl).cmax hHK
  have hmm : m ≤ 9223372036854775807 := by unfold maxLen at hckm; omega
  have hm1 : (1 : Int) < (m : Int) := by omega
  have hm2 : 1 < m := by omega
  have hm0 : 0 < m := by omega
  have hm0z : (0 : Int) < (m : Int) := by omega
  clear hm hckm
  have HCK : Hid (∀ j u, (ints (p0 :: p1 :: tl))[j]? = some u → w.cell? ⟨gq, j, none⟩ = some u) := by show ∀ j u, _; rw [← hgd]; exact hcellk
  have HFK : Hid (∀ j, w.frozen? ⟨gq, j, none⟩ = false) := hfrk
  rw [hHK] at hc1
  have z0 : w.cell? ⟨gq, 0, none⟩ = some (.int .i64 p0) := hcellk 0 _ (by rw [hgd]; simp [ints])
  have HHK : Hid (∀ _ : Unit, G.hs.getD k undef = .slice (some ⟨gq, 0, none⟩) m ck) := fun _ => hHK
  have HOK : Hid (∀ _ : Unit, G.O gq = .clause k) := fun _ => hOk
  have hkz : (k : Int) < (G.hs.length : Int) := by omega
  have hklt : k < G.hs.length := by omega
  have hbs : B ≤ w.heap.size := by have := h.row.lt; have := h.hb; omega
  have k0 := R1.out.cell 0
  have k1 := R1.out.cell 1
  have k2 := R1.out.cell 2
  have k3 := R1.out.cell 3
  have k4 := R1.out.cell 4
  have k5 := R1.out.cell 5
  have k6 := R1.out.cell 6
  have kl := R1.out.lt
  simp only [List.getElem?_cons_zero, List.getElem?_cons_succ] at k0 k1 k2 k3 k4 k5 k6
  rw [hCL] at k0
  clear hS hc0 hpp hgd hCL hcell hHK hOk hcellk hfrk hln hhl hrg h hW htl
  go_enter Try.func33, Try.ntmps33
  go_upto_if 21 with (fail)
  go_cut [8] from 21 to 85 (fun s8 wx => s8 = .slice (some ⟨gq, 0, none⟩) m ck ∧ Aside (EngR wx B b { s with cl := s.cl.set k (a :: x :: tl) } (fun z => z = x) us em G US) ∧ Aside (∀ q, q < w.heap.size → G.O q = .watch x ∨ fre (G.O q) → wx.heap[q]? = w.heap[q]?) ∧ Aside (Below B w wx))
  case first =>
    rcases HPP.out with ⟨e1, e2⟩ | ⟨e1, e2⟩
    · have he1 : (p0 == x) = false := by rw [e1]; simpa using HS.out.ne
      have he2 : decide (p0 = x) = false := by rw [e1]; exact decide_eq_false HS.out.ne
      have hsame : ({ s with cl := s.cl.set k (a :: x :: tl) } : V.En) = s := by
        have h9 := HS.out.at_
        rw [← V.getD_of_get h9, HGD.out ()] at h9
        rw [e1, e2] at h9
        obtain ⟨h8, h7⟩ := List.getElem?_eq_some_iff.1 h9
        rw [← h7, List.set_getElem_self]
      have HSM : Hid (∀ _ : Unit, ({ s with cl := s.cl.set k (a :: x :: tl) } : V.En) = s) := fun _ => hsame
      clear e1 e2 hsame
      go_wp2
      go_meet
      case rel => exact ⟨rfl, by rw [HSM.out ()]; exact H.out, fun _ _ _ => rfl, Below.refl _ _⟩
    · have he1 : (p0 == x) = true := by rw [e1]; simp
      have he2 : decide (p0 = x) = true := decide_eq_true e1
      have HE3 : Hid (∀ _ : Unit, a :: x :: tl = p1 :: p0 :: tl) := fun _ => by rw [e1, e2]
      clear e1 e2
      have E1 : Hid (EngR ((w.setCell ⟨gq, 0, none⟩ (.int .i64 p1)).setCell ⟨gq, 1, none⟩ (.int .i64 p0)) B b { s with cl := s.cl.set k (a :: x :: tl) } (fun z => z = x) us em G US) := by
        have E1 := (H.out.putClause (i := 0) hkl (HHK.out ()) (by omega) p1)
        have hg2 : (s.cl.set k ((s.cl.getD k []).set 0 p1)).getD k [] = (s.cl.getD k []).set 0 p1 := by simp [List.getD_eq_getElem?_getD, hkl]
        have E2 := E1.putClause (k := k) (i := 1) (by simpa using hkl) (HHK.out ()) (by omega) p0
        simp only [hg2, List.set_set] at E2
        rw [HGD.out ()] at E2
        rw [HE3.out ()]
        exact E2
      have RO1 : Hid (∀ q, q < w.heap.size → G.O q = .watch x ∨ fre (G.O q) → ((w.setCell ⟨gq, 0, none⟩ (.int .i64 p1)).setCell ⟨gq, 1, none⟩ (.int .i64 p0)).heap[q]? = w.heap[q]?) := fun q hq ho => (Below.heap_setCell _ _ _ _ (fre_ne ho (HOK.out ()) (by nofun) id)).trans (Below.heap_setCell _ _ _ _ (fre_ne ho (HOK.out ()) (by nofun) id))
      have BE1 : Hid (Below B w ((w.setCell ⟨gq, 0, none⟩ (.int .i64 p1)).setCell ⟨gq, 1, none⟩ (.int .i64 p0))) := ((Below.refl B w).setCell hBk _).setCell hBk _
      have z1 : w.cell? ⟨gq, 1, none⟩ = some (.int .i64 p1) := HCK.out 1 _ (by simp [ints])
      have y0 : w.frozen? ⟨gq, 0, none⟩ = false := HFK.out 0
      have y1 : w.frozen? ⟨gq, 1, none⟩ = false := HFK.out 1
      go_upto_region 3 with fail
      refine wp_region_L (fun w' => w'.cell? ⟨gq, 0, none⟩ = some (.int .i64 p0) ∧ w'.cell? ⟨gq, 1, none⟩ = some (.int .i64 p1)) [9, 10, 11] (by kernel_rfl) (by exact ⟨z0, z1⟩) (fun hHeld => ?_)
      refine restL_pure (i := 0) (v := ?vm1) rfl (by kernel_rfl) (by kernel_rfl) (by kernel_rfl) (fun _ _ _ h => h) (Or.inl ⟨by rfl, ?ym1⟩) ?rm1
      case ym1 => intro w' hSw; clear hSw; go_simp; try (with_reducible rfl)
      go_simp
      refine restL_pure (i := 1) (v := ?vm2) rfl (by kernel_rfl) (by kernel_rfl) (by kernel_rfl) (fun _ _ _ h => h) (Or.inl ⟨by rfl, ?ym2⟩) ?rm2
      case ym2 => intro w' hSw; clear hSw; go_simp; try (with_reducible rfl)
      go_simp
      refine restL_pure (i := 2) (v := ?vm3) rfl (by kernel_rfl) (by kernel_rfl) (by kernel_rfl) (fun _ _ _ h => h) (Or.inl ⟨by rfl, ?ym3⟩) ?rm3
      case ym3 => intro w' hSw; clear hSw; go_simp; try (with_reducible rfl)
      go_simp
      refine restL_pure (i := 5) (v := ?vm4) rfl (by kernel_rfl) (by kernel_rfl) (by kernel_rfl) (fun _ _ _ h => h) (Or.inl ⟨by rfl, ?ym4⟩) ?rm4
      case ym4 => intro w' hSw; clear hSw; go_simp; try (with_reducible rfl)
      go_simp
      refine restL_take (i := 3) (v := ?vm5) [[9], [10], [11]] rfl (by kernel_rfl) (by kernel_rfl) (by kernel_rfl) (by kernel_rfl) (fun _ _ _ h => h) (Or.inl ⟨by rfl, ?ym5⟩) hHeld ?rm5
      case ym5 =>
        intro w' hSw
        obtain ⟨q0, q1⟩ := hSw
        go_simp
        try (with_reducible rfl)
      go_simp
      refine restL_take (i := 4) (v := ?vm6) [[9], [10], [11]] rfl (by kernel_rfl) (by kernel_rfl) (by kernel_rfl) (by kernel_rfl) (fun _ _ _ h => h) (Or.inl ⟨by rfl, ?ym6⟩) hHeld ?rm6
      case ym6 =>
        intro w' hSw
        obtain ⟨q0, q1⟩ := hSw
        go_simp
        try (with_reducible rfl)
      go_simp
      refine restL_take (i := 6) (v := ?vm7) [[9, 7], [10], [11]] rfl (by kernel_rfl) (by kernel_rfl) (by kernel_rfl) (by kernel_rfl) (fun _ _ _ h => h) (Or.inl ⟨by rfl, ?ym7⟩) hHeld ?rm7
      case ym7 =>
        intro w' hSw
        obtain ⟨q0, q1⟩ := hSw
        go_simp
        try (with_reducible rfl)
      go_simp
      refine restL_take (i := 7) (v := ?vm8) [[9], [10], [11]] rfl (by kernel_rfl) (by kernel_rfl) (by kernel_rfl) (by kernel_rfl) (fun _ _ _ h => h) (Or.inl ⟨by rfl, ?ym8⟩) hHeld ?rm8
      case ym8 =>
        intro w' hSw
        obtain ⟨q0, q1⟩ := hSw
        go_simp
        try (with_reducible rfl)
      go_simp
      refine restL_take (i := 8) (v := ?vm9) [[9], [10], [11]] rfl (by kernel_rfl) (by kernel_rfl) (by kernel_rfl) (by kernel_rfl) (fun _ _ _ h => h) (Or.inl ⟨by rfl, ?ym9⟩) hHeld ?rm9
      case ym9 =>
        intro w' hSw
        obtain ⟨q0, q1⟩ := hSw
        go_simp
        try (with_reducible rfl)
      go_simp
      refine restL_one (i := 9) (by kernel_rfl) rfl (fun K hK => ?_)
      go_simp
      refine hK.out _ _ (fun h => absurd h (by decide)) (fun _ => ?_)
      clear hK K
      try go_simp
      refine restL_one (i := 10) (by kernel_rfl) rfl (fun K hK => ?_)
      go_simp
      refine hK.out _ _ (fun h => absurd h (by decide)) (fun _ => ?_)
      clear hK K
      try go_simp
      refine restL_one (i := 11) (by kernel_rfl) rfl (fun K hK => ?_)
      go_simp
      refine hK.out _ _ (fun h => absurd h (by decide)) (fun _ => ?_)
      clear hK K
      try go_simp
      refine restL_done (by kernel_rfl) ?_ _
      go_wp2_with fail
      go_meet
      case rel => exact ⟨rfl, E1.out.drew, RO1.out, BE1.out.drew⟩
  obtain ⟨rfl, h1, h2, h4⟩ := hcut
  have HE := Lib.hid h1
  have RO := Lib.hid h2
  have HBW := Lib.hid h4
  clear h1 h2 h4 k0 k1 k2 k3 k4 k5 k6 kl z0 hc1 R1
  obtain ⟨w1, rfl⟩ : ∃ w1 : World, w1 = wc := ⟨_, rfl⟩
  have hgd2 : ({ s with cl := s.cl.set k (a :: x :: tl) } : V.En).cl.getD k [] = a :: x :: tl := by simp [List.getD_eq_getElem?_getD, hkl]
  have hcs2 := HE.out.core.cs k (by simpa using hkl)
  rw [hgd2] at hcs2
  obtain ⟨gq', ck', hHK2, _, _, hgk1, _, hcell2, hfr2⟩ := hcs2.at_ (i := 0) (by simp)
  rw [HHK.out ()] at hHK2
  obtain ⟨rfl, rfl⟩ : gq = gq' ∧ ck = ck' := by cases hHK2; exact ⟨rfl, rfl⟩
  have HCK2 : Hid (∀ j u, (ints (a :: x :: tl))[j]? = some u → w1.cell? ⟨gq, j, none⟩ = some u) := hcell2
  have HFK2 : Hid (∀ j, w1.frozen? ⟨gq, j, none⟩ = false) := hfr2
  have z0 : w1.cell? ⟨gq, 0, none⟩ = some (.int .i64 a) := HCK2.out 0 _ (by simp [ints])
  clear hgd2 hcs2 hHK2 hcell2 hfr2 HCK HFK HGD HPP
  obtain ⟨v, hv⟩ : ∃ v, V.valL s.va a = v := ⟨_, rfl⟩
  have HVV : Hid (∀ _ : Unit, V.valL s.va a = v) := fun _ => hv
  have HOF : Hid (Calls Try.prog 32 #[.pointer (some ⟨b, 0, none⟩), .int .i64 a] w1 fun e w' => e = .returned (.int .i8 v) ∧ w' = w1) := by
    have := pVal_any B b n _ _ us em G US a _ HE.out hn HS.out.la HTK.out
    rw [show V.valL ({ s with cl := s.cl.set k (a :: x :: tl) } : V.En).va a = v from hv] at this
    exact this
  clear hv
  go_wp2_with fail
  refine HOF.out.mono ?_
  rintro e w8 ⟨rfl, hw8⟩
  rw [hw8]
  clear hw8 w8 HOF
  by_cases hv1 : v = 1
  · subst hv1
    go_wp2_with fail
    refine bodyPost_ret (v := .tuple #[.bool false, .bool true]) (by simp [results, Try.results33, go_sem]) rfl ?_
    rw [HONE.out (), if_pos (HVV.out ())]
    exact ⟨G, rfl, HE.out, HBW.out, rfl, fun _ _ => rfl, RO.out⟩
  · have hv1b : (v == 1) = false := by simpa using hv1
    have hv1c : decide (v = 1) = false := decide_eq_false hv1
    have HV1 : Hid (∀ _ : Unit, ¬ v = 1) := fun _ => hv1
    clear hv1
    have HTLL : Hid (∀ _ : Unit, tl.length + 2 = m) := HM.out
    go_wp2_with fail
    obtain ⟨wo, rfl⟩ : ∃ wo : World, wo = w1 := ⟨_, rfl⟩
    go_loopg [9] (m - 2) (fun gg s9 wr => ∃ j : Nat, j + 2 ≤ m ∧ m - 2 - j ≤ gg ∧ s9 = .int .i64 ((j + 2 : Nat) : Int) ∧ Aside (∀ i, i < j → V.notFalse s.va (tl.getD i 0) = false) ∧ wo = wr)
    case atStart => exact ⟨0, by omega, by omega, rfl, fun i hi => absurd hi (Nat.not_lt_zero _), rfl⟩
    case round =>
      obtain ⟨j, hjm, hgg, rfl, hbef, rfl⟩ := hrel
      have HBEF := Lib.hid (show ∀ i, i < j → V.notFalse s.va (tl.getD i 0) = false from hbef)
      clear hbef
      by_cases hlt : j + 2 < m
      · have hltz : ((j + 2 : Nat) : Int) < (m : Int) := by omega
        have hj : j < tl.length := by have := HTLL.out (); omega
        obtain ⟨y, hy⟩ : ∃ y, tl.getD j 0 = y := ⟨_, rfl⟩
        have HY : Hid (∀ _ : Unit, tl.getD j 0 = y) := fun _ => hy
        have hym : y ∈ tl := by rw [← hy]; simp [List.getD_eq_getElem?_getD, List.getElem?_eq_getElem hj]
        have HLY := Lib.hid (HS.out.lt y hym)
        have z2 : wo.cell? ⟨gq, j + 2, none⟩ = some (.int .i64 y) := HCK2.out (j + 2) _ (by rw [← hy]; simp [ints, List.getElem?_map, List.getElem?_eq_getElem hj, List.getD_eq_getElem?_getD])
        have hnf := V.notFalse_ge (HTK.out.rng y HLY.out)
        obtain ⟨u, hu⟩ : ∃ u, V.valL s.va y = u := ⟨_, rfl⟩
        have HOF : Hid (Calls Try.prog 32 #[.pointer (some ⟨b, 0, none⟩), .int .i64 y] wo fun e w' => e = .returned (.int .i8 u) ∧ w' = wo) := by
          have := pVal_any B b n _ _ us em G US y _ HE.out hn HLY.out HTK.out
          rw [show V.valL ({ s with cl := s.cl.set k (a :: x :: tl) } : V.En).va y = u from hu] at this
          exact this
        rw [hu] at hnf
        have HNF := Lib.hid hnf
        clear hnf hu hy hym
        go_wp2_with fail
        refine HOF.out.mono ?_
        rintro e w8 ⟨rfl, hw8⟩
        rw [hw8]
        clear hw8 w8 HOF
        by_cases hu0 : 0 ≤ u
        · have hu1 : decide (0 ≤ u) = true := decide_eq_true hu0
          have hfi : tl.findIdx? (V.notFalse s.va) = some j := V.find_first hj (by rw [HY.out (), ← HNF.out]; exact hu1) HBEF.out
          have HFI : Hid (∀ _ : Unit, tl.findIdx? (V.notFalse s.va) = some j) := fun _ => hfi
          obtain ⟨_, hyx, hly, hwf2⟩ := HS.out.move j hfi
          rw [HY.out ()] at hyx hly hwf2
          have HYX := Lib.hid hyx
          have HWF2 := Lib.hid hwf2
          clear hfi hwf2 hyx hly HLY
          have HLY := Lib.hid (HS.out.lt y (by rw [← HY.out ()]; simp [List.getD_eq_getElem?_getD, List.getElem?_eq_getElem hj]))
          have z1 : wo.cell? ⟨gq, 1, none⟩ = some (.int .i64 x) := HCK2.out 1 _ (by simp [ints])
          have y1 : wo.frozen? ⟨gq, 1, none⟩ = false := HFK2.out 1
          have y2 : wo.frozen? ⟨gq, j + 2, none⟩ = false := HFK2.out (j + 2)
          have E6 : Hid (EngR ((wo.setCell ⟨gq, 1, none⟩ (.int .i64 y)).setCell ⟨gq, j + 2, none⟩ (.int .i64 x)) B b { s with cl := s.cl.set k (a :: y :: tl.set j x) } (fun z => z = x) us em G US) := by
            have hk1 : k < (s.cl.set k (a :: x :: tl)).length := by simpa using hkl
            have E1 := HE.out.putClause (k := k) (i := 1) hk1 (HHK.out ()) hm2 y
            have hg1 : (s.cl.set k (a :: x :: tl)).getD k [] = a :: x :: tl := by simp [List.getD_eq_getElem?_getD, hkl]
            simp only [hg1, List.set_set, List.set_cons_succ, List.set_cons_zero] at E1
            have hg2 : (s.cl.set k (a :: y :: tl)).getD k [] = a :: y :: tl := by simp [List.getD_eq_getElem?_getD, hkl]
            have E2 := E1.putClause (k := k) (i := j + 2) (by simpa using hkl) (HHK.out ()) hlt x
            simp only [hg2, List.set_set, List.set_cons_succ, List.set_cons_zero] at E2
            exact E2
          have RO6 : Hid (∀ q, q < w.heap.size → G.O q = .watch x ∨ fre (G.O q) → ((wo.setCell ⟨gq, 1, none⟩ (.int .i64 y)).setCell ⟨gq, j + 2, none⟩ (.int .i64 x)).heap[q]? = w.heap[q]?) := fun q hq ho => ((Below.heap_setCell _ _ _ _ (fre_ne ho (HOK.out ()) (by nofun) id)).trans (Below.heap_setCell _ _ _ _ (fre_ne ho (HOK.out ()) (by nofun) id))).trans (RO.out q hq ho)
          have BE6 : Hid (Below B w ((wo.setCell ⟨gq, 1, none⟩ (.int .i64 y)).setCell ⟨gq, j + 2, none⟩ (.int .i64 x))) := (HBW.out.setCell hBk _).setCell hBk _
          have hj0 : (0 : Int) ≤ (j : Int) := by omega
          have hjm3 : (j : Int) + 2 < (m : Int) := by omega
          have hjt : ((j : Int) + 2).toNat = j + 2 := by omega
          have hj2 : (0 : Int) ≤ (j : Int) + 2 := by omega
          go_upto_region 10 with fail
          refine wp_region_L (fun w' => w'.cell? ⟨gq, 1, none⟩ = some (.int .i64 x) ∧ w'.cell? ⟨gq, j + 2, none⟩ = some (.int .i64 y)) [11, 12, 13] (by kernel_rfl) (by exact ⟨z1, z2⟩) (fun hHeld => ?_)
          refine restL_pure (i := 0) (v := ?vn1) rfl (by kernel_rfl) (by kernel_rfl) (by kernel_rfl) (fun _ _ _ h => h) (Or.inl ⟨by rfl, ?yn1⟩) ?rn1
          case yn1 => intro w' hSw; clear hSw; go_simp; try (with_reducible rfl)
          go_simp
          refine restL_pure (i := 1) (v := ?vn2) rfl (by kernel_rfl) (by kernel_rfl) (by kernel_rfl) (fun _ _ _ h => h) (Or.inl ⟨by rfl, ?yn2⟩) ?rn2
          case yn2 => intro w' hSw; clear hSw; go_simp; try (with_reducible rfl)
          go_simp
          refine restL_pure (i := 2) (v := ?vn3) rfl (by kernel_rfl) (by kernel_rfl) (by kernel_rfl) (fun _ _ _ h => h) (Or.inl ⟨by rfl, ?yn3⟩) ?rn3
          case yn3 => intro w' hSw; clear hSw; go_simp; try (with_reducible rfl)
          go_simp
          refine restL_pure (i := 3) (v := ?vn4) rfl (by kernel_rfl) (by kernel_rfl) (by kernel_rfl) (fun _ _ _ h => h) (Or.inl ⟨by rfl, ?yn4⟩) ?rn4
          case yn4 => intro w' hSw; clear hSw; go_simp; try (with_reducible rfl)
          go_simp
          refine restL_pure (i := 4) (v := ?vn5) rfl (by kernel_rfl) (by kernel_rfl) (by kernel_rfl) (fun _ _ _ h => h) (Or.inl ⟨by rfl, ?yn5⟩) ?rn5
          case yn5 => intro w' hSw; clear hSw; go_simp; try (with_reducible rfl)
          go_simp
          refine restL_pure (i := 7) (v := ?vn6) rfl (by kernel_rfl) (by kernel_rfl) (by kernel_rfl) (fun _ _ _ h => h) (Or.inl ⟨by rfl, ?yn6⟩) ?rn6
          case yn6 => intro w' hSw; clear hSw; go_simp; try (with_reducible rfl)
          go_simp
          refine restL_take (i := 5) (v := ?vn7) [[11], [12], [13]] rfl (by kernel_rfl) (by kernel_rfl) (by kernel_rfl) (by kernel_rfl) (fun _ _ _ h => h) (Or.inl ⟨by rfl, ?yn7⟩) hHeld ?rn7
          case yn7 =>
            intro w' hSw
            obtain ⟨q0, q1⟩ := hSw
            go_simp
            try (with_reducible rfl)
          go_simp
          refine restL_take (i := 6) (v := ?vn8) [[11], [12], [13]] rfl (by kernel_rfl) (by kernel_rfl) (by kernel_rfl) (by kernel_rfl) (fun _ _ _ h => h) (Or.inl ⟨by rfl, ?yn8⟩) hHeld ?rn8
          case yn8 =>
            intro w' hSw
            obtain ⟨q0, q1⟩ := hSw
            go_simp
            try (with_reducible rfl)
          go_simp
          refine restL_take (i := 8) (v := ?vn9) [[11, 9], [12], [13]] rfl (by kernel_rfl) (by kernel_rfl) (by kernel_rfl) (by kernel_rfl) (fun _ _ _ h => h) (Or.inl ⟨by rfl, ?yn9⟩) hHeld ?rn9
          case yn9 =>
            intro w' hSw
            obtain ⟨q0, q1⟩ := hSw
            go_simp
            try (with_reducible rfl)
          go_simp
          refine restL_take (i := 9) (v := ?vn10) [[11], [12], [13]] rfl (by kernel_rfl) (by kernel_rfl) (by kernel_rfl) (by kernel_rfl) (fun _ _ _ h => h) (Or.inl ⟨by rfl, ?yn10⟩) hHeld ?rn10
          case yn10 =>
            intro w' hSw
            obtain ⟨q0, q1⟩ := hSw
            go_simp
            try (with_reducible rfl)
          go_simp
          refine restL_take (i := 10) (v := ?vn11) [[11], [12], [13]] rfl (by kernel_rfl) (by kernel_rfl) (by kernel_rfl) (by kernel_rfl) (fun _ _ _ h => h) (Or.inl ⟨by rfl, ?yn11⟩) hHeld ?rn11
          case yn11 =>
            intro w' hSw
            obtain ⟨q0, q1⟩ := hSw
            go_simp
            try (with_reducible rfl)
          go_simp
          refine restL_one (i := 11) (by kernel_rfl) rfl (fun K hK => ?_)
          go_simp
          refine hK.out _ _ (fun h => absurd h (by decide)) (fun _ => ?_)
          clear hK K
          try go_simp
          refine restL_one (i := 12) (by kernel_rfl) rfl (fun K hK => ?_)
          go_simp
          refine hK.out _ _ (fun h => absurd h (by decide)) (fun _ => ?_)
          clear hK K
          try go_simp
          refine restL_one (i := 13) (by kernel_rfl) rfl (fun K hK => ?_)
          go_simp
          refine hK.out _ _ (fun h => absurd h (by decide)) (fun _ => ?_)
          clear hK K
          try go_simp
          refine restL_done (by kernel_rfl) ?_ _
          go_wp2_with fail
          clear z0 z1 z2 y1 y2
          revert E6 RO6 BE6
          generalize (wo.setCell ⟨gq, 1, none⟩ (.int .i64 y)).setCell ⟨gq, j + 2, none⟩ (.int .i64 x) = w6
          intro E6 RO6 BE6
          have R6 : Hid (Row w6 b 46 [G.CL, .map (some G.mb), US, .bool em, G.VA, G.TR, .int .i64 (s.hd : Int)]) := E6.out.row
          have hgd6 : (s.cl.set k (a :: y :: tl.set j x)).getD k [] = a :: y :: tl.set j x := by simp [List.getD_eq_getElem?_getD, hkl]
          have z1 : w6.cell? ⟨gq, 1, none⟩ = some (.int .i64 y) := by
            have hcs6 := E6.out.core.cs k (by simpa using hkl)
            obtain ⟨gq', ck', hH6, _, _, _, _, hcell6, _⟩ := hcs6.at_ (i := 0) (by show 0 < ((s.cl.set k (a :: y :: tl.set j x)).getD k []).length; rw [hgd6]; simp)
            rw [HHK.out ()] at hH6
            cases hH6
            exact hcell6 1 _ (by show (ints ((s.cl.set k (a :: y :: tl.set j x)).getD k []))[1]? = _; rw [hgd6]; simp [ints])
          have hgk6 : gq < w6.heap.size := World.block_lt_of_cell? w6 ⟨gq, 1, none⟩ z1
          have hb6 : b < w6.heap.size := R6.out.lt
          have HMI : Hid (MI w6 Try.prog 3 G.mb G.fn (.slice none 0 0)) := E6.out.core.mp
          have HwN : Hid ((s.wa y).length ≤ 1000000) := by
            show _ ≤ _
            have h1 := HW.out.wle y
            simp only [V.upd_other _ _ HYX.out] at h1
            omega
          have k0 := R6.out.cell 0
          have k1 := R6.out.cell 1
          have k2 := R6.out.cell 2
          have k3 := R6.out.cell 3
          have k4 := R6.out.cell 4
          have k5 := R6.out.cell 5
          have k6 := R6.out.cell 6
          have kl := R6.out.lt
          simp only [List.getElem?_cons_zero, List.getElem?_cons_succ] at k0 k1 k2 k3 k4 k5 k6
          clear hgd6
          have hBw6 : B ≤ w6.heap.size := by have := E6.out.hb; omega
          refine wp_region_L (fun w' => w'.cell? ⟨b, 1, none⟩ = some (.map (some G.mb)) ∧ w'.cell? ⟨gq, 1, none⟩ = some (.int .i64 y) ∧ MI w' Try.prog 3 G.mb G.fn (.slice none 0 0)) [18] (by kernel_rfl) (by exact ⟨k1, z1, HMI.out⟩) (fun hHeld => ?_)
          refine restL_pure (i := 0) (v := ?vp1) rfl (by kernel_rfl) (by kernel_rfl) (by kernel_rfl) (fun _ _ _ h => h) (Or.inl ⟨by rfl, ?yp1⟩) ?rp1
          case yp1 => intro w' hSw; clear hSw; go_simp; try (with_reducible rfl)
          go_simp
          refine restL_pure (i := 1) (v := ?vp2) rfl (by kernel_rfl) (by kernel_rfl) (by kernel_rfl) (fun _ _ _ h => h) (Or.inl ⟨by rfl, ?yp2⟩) ?rp2
          case yp2 => intro w' hSw; clear hSw; go_simp; try (with_reducible rfl)
          go_simp
          refine restL_pure (i := 2) (v := ?vp3) rfl (by kernel_rfl) (by kernel_rfl) (by kernel_rfl) (fun _ _ _ h => h) (Or.inl ⟨by rfl, ?yp3⟩) ?rp3
          case yp3 => intro w' hSw; clear hSw; go_simp; try (with_reducible rfl)
          go_simp
          refine restL_pure (i := 4) (v := ?vp4) rfl (by kernel_rfl) (by kernel_rfl) (by kernel_rfl) (fun _ _ _ h => h) (Or.inl ⟨by rfl, ?yp4⟩) ?rp4
          case yp4 => intro w' hSw; clear hSw; go_simp; try (with_reducible rfl)
          go_simp
          refine restL_pure (i := 7) (v := ?vp5) rfl (by kernel_rfl) (by kernel_rfl) (by kernel_rfl) (fun _ _ _ h => h) (Or.inl ⟨by rfl, ?yp5⟩) ?rp5
          case yp5 => intro w' hSw; clear hSw; go_simp; try (with_reducible rfl)
          go_simp
          refine restL_pure (i := 8) (v := ?vp6) rfl (by kernel_rfl) (by kernel_rfl) (by kernel_rfl) (fun _ _ _ h => h) (Or.inl ⟨by rfl, ?yp6⟩) ?rp6
          case yp6 => intro w' hSw; clear hSw; go_simp; try (with_reducible rfl)
          go_simp
          refine restL_pure (i := 9) (v := ?vp7) rfl (by kernel_rfl) (by kernel_rfl) (by kernel_rfl) (fun _ _ _ h => h) (Or.inl ⟨by rfl, ?yp7⟩) ?rp7
          case yp7 => intro w' hSw; clear hSw; go_simp; try (with_reducible rfl)
          go_simp
          refine restL_pure (i := 11) (v := ?vp8) rfl (by kernel_rfl) (by kernel_rfl) (by kernel_rfl) (fun _ _ _ h => h) (Or.inl ⟨by rfl, ?yp8⟩) ?rp8
          case yp8 => intro w' hSw; clear hSw; go_simp; try (with_reducible rfl)
          go_simp
          refine restL_pure (i := 15) (v := ?vp9) rfl (by kernel_rfl) (by kernel_rfl) (by kernel_rfl) (fun _ _ _ h => h) (Or.inl ⟨by rfl, ?yp9⟩) ?rp9
          case yp9 => intro w' hSw; clear hSw; go_simp; try (with_reducible rfl)
          go_simp
          refine restL_take (i := 3) (v := ?vp10) [[18]] rfl (by kernel_rfl) (by kernel_rfl) (by kernel_rfl) (by kernel_rfl) (fun _ _ _ h => h) (Or.inl ⟨by rfl, ?yp10⟩) hHeld ?rp10
          case yp10 =>
            intro w' hSw
            obtain ⟨q1, q2, q3⟩ := hSw
            have q4 := q3.lookup int_keyedV Try.underlying43 (Try.zeroValue26 w') (keyV y (lit_wf hn HLY.out))
            go_simp
            try (with_reducible rfl)
          go_simp
          refine restL_take (i := 5) (v := ?vp11) [[18]] rfl (by kernel_rfl) (by kernel_rfl) (by kernel_rfl) (by kernel_rfl) (fun _ _ _ h => h) (Or.inl ⟨by rfl, ?yp11⟩) hHeld ?rp11
          case yp11 =>
            intro w' hSw
            obtain ⟨q1, q2, q3⟩ := hSw
            have q4 := q3.lookup int_keyedV Try.underlying43 (Try.zeroValue26 w') (keyV y (lit_wf hn HLY.out))
            go_simp
            try (with_reducible rfl)
          go_simp
          refine restL_take (i := 6) (v := ?vp12) [[18]] rfl (by kernel_rfl) (by kernel_rfl) (by kernel_rfl) (by kernel_rfl) (fun _ _ _ h => h) (Or.inl ⟨by rfl, ?yp12⟩) hHeld ?rp12
          case yp12 =>
            intro w' hSw
            obtain ⟨q1, q2, q3⟩ := hSw
            have q4 := q3.lookup int_keyedV Try.underlying43 (Try.zeroValue26 w') (keyV y (lit_wf hn HLY.out))
            go_simp
            try (with_reducible rfl)
          go_simp
          refine restL_take (i := 10) (v := ?vp13) [[18]] rfl (by kernel_rfl) (by kernel_rfl) (by kernel_rfl) (by kernel_rfl) (fun _ _ _ h => h) (Or.inl ⟨by rfl, ?yp13⟩) hHeld ?rp13
          case yp13 =>
            intro w' hSw
            obtain ⟨q1, q2, q3⟩ := hSw
            have q4 := q3.lookup int_keyedV Try.underlying43 (Try.zeroValue26 w') (keyV y (lit_wf hn HLY.out))
            go_simp
            try (with_reducible rfl)
          go_simp
          refine restL_take (i := 12) (v := ?vp14) [[18]] rfl (by kernel_rfl) (by kernel_rfl) (by kernel_rfl) (by kernel_rfl) (fun _ _ _ h => h) (Or.inl ⟨by rfl, ?yp14⟩) hHeld ?rp14
          case yp14 =>
            intro w' hSw
            obtain ⟨q1, q2, q3⟩ := hSw
            have q4 := q3.lookup int_keyedV Try.underlying43 (Try.zeroValue26 w') (keyV y (lit_wf hn HLY.out))
            go_simp
            try (with_reducible rfl)
          go_simp
          refine restL_take (i := 13) (v := ?vp15) [[18]] rfl (by kernel_rfl) (by kernel_rfl) (by kernel_rfl) (by kernel_rfl) (fun _ _ _ h => h) (Or.inl ⟨by rfl, ?yp15⟩) hHeld ?rp15
          case yp15 =>
            intro w' hSw
            obtain ⟨q1, q2, q3⟩ := hSw
            have q4 := q3.lookup int_keyedV Try.underlying43 (Try.zeroValue26 w') (keyV y (lit_wf hn HLY.out))
            go_simp
            try (with_reducible rfl)
          go_simp
          refine restL_take (i := 14) (v := ?vp16) [[18]] rfl (by kernel_rfl) (by kernel_rfl) (by kernel_rfl) (by kernel_rfl) (fun _ _ _ h => h) (Or.inl ⟨by rfl, ?yp16⟩) hHeld ?rp16
          case yp16 =>
            intro w' hSw
            obtain ⟨q1, q2, q3⟩ := hSw
            have q4 := q3.lookup int_keyedV Try.underlying43 (Try.zeroValue26 w') (keyV y (lit_wf hn HLY.out))
            go_simp
            try (with_reducible rfl)
          go_simp
          refine restL_one (i := 16) (by kernel_rfl) rfl (fun K hK => ?_)
          go_simp
          have S7 : Hid ((World.drew (World.drew (World.alloc w6 (.cells #[.int .i64 (k : Int)] 3)))).cell? ⟨b, 1, none⟩ = some (.map (some G.mb)) ∧ (World.drew (World.drew (World.alloc w6 (.cells #[.int .i64 (k : Int)] 3)))).cell? ⟨gq, 1, none⟩ = some (.int .i64 y) ∧ MI (World.drew (World.drew (World.alloc w6 (.cells #[.int .i64 (k : Int)] 3)))) Try.prog 3 G.mb G.fn (.slice none 0 0)) := And.intro ((World.cell?_alloc_lt _ _ _ hb6).trans k1) (And.intro ((World.cell?_alloc_lt _ _ _ hgk6).trans z1) ((HMI.out.alloc _).drew.drew))
          have HL7 : Hid (Rd (World.drew (World.drew (World.alloc w6 (.cells #[.int .i64 (k : Int)] 3)))) (w6.heap.size + 1) 1 (some ⟨w6.heap.size, 0, none⟩) 1 [.int .i64 (k : Int)]) := Rd.lit w6 #[.int .i64 (k : Int)] 3 (sz := 1) (m := 1) rfl
          have E7 : Hid (EngR (World.drew (World.drew (World.alloc w6 (.cells #[.int .i64 (k : Int)] 3)))) B b { s with cl := s.cl.set k (a :: y :: tl.set j x) } (fun z => z = x) us em G US) := (E6.out.alloc _).drew.drew
          have RO7 : Hid (∀ q, q < w.heap.size → G.O q = .watch x ∨ fre (G.O q) → (World.drew (World.drew (World.alloc w6 (.cells #[.int .i64 (k : Int)] 3)))).heap[q]? = w.heap[q]?) := fun q hq ho => (Below.heap_alloc w6 _ _ (Nat.lt_of_lt_of_le hq BE6.out.size)).trans (RO6.out q hq ho)
          have BE7 : Hid (Below B w (World.drew (World.drew (World.alloc w6 (.cells #[.int .i64 (k : Int)] 3))))) := (BE6.out.alloc hBw6 _).drew.drew
          have hsz7 : (World.drew (World.drew (World.alloc w6 (.cells #[.int .i64 (k : Int)] 3)))).heap.size = w6.heap.size + 1 := by simp
          revert S7 HL7 E7 RO7 BE7 hsz7
          generalize (World.drew (World.drew (World.alloc w6 (.cells #[.int .i64 (k : Int)] 3)))) = w7
          intro S7 HL7 E7 RO7 BE7 hsz7
          have HSZ7 := Lib.hid hsz7
          clear hsz7
          refine hK.out _ _ (fun _ => ?keep) (fun hHeld => ?_)
          case keep => exact S7.out
          have hHeld := hHeld rfl
          clear hK K
          try go_simp
          refine restL_one (i := 17) (by kernel_rfl) rfl (fun K hK => ?_)
          refine step_app rfl (.tmp 77) (.tmp 79) 26 rfl B 3 (.int .i64 0) 1 8 Try.underlying26 int_infoV rfl (by decide) (by decide) (G.fn y) (s.wa y).length (nats (s.wa y)) rfl (E7.out.core.wt y HYX.out).1 (w6.heap.size + 1) (some ⟨w6.heap.size, 0, none⟩) 1 1 [.int .i64 (k : Int)] rfl HL7.out (by intro u hu; simp at hu; subst hu; rfl) (by have := HwN.out; omega) (by rw [HSZ7.out]; omega) ?_
          intro v' w8 hown' hgrow' hat'
          obtain ⟨hE8, hH8⟩ := E7.out.watchApp HYX.out hown' hgrow' hat'
          have HE8 := Lib.hid hE8
          have HH8 := Lib.hid hH8
          have hfy : ∀ q, (G.fn y).ownBlock = some q → G.O q = .watch y := (E7.out.core.wt y HYX.out).2
          have hS8 : Hid (w8.cell? ⟨b, 1, none⟩ = some (.map (some G.mb)) ∧ w8.cell? ⟨gq, 1, none⟩ = some (.int .i64 y) ∧ MI w8 Try.prog 3 G.mb G.fn (.slice none 0 0)) := And.intro (hgrow'.cell S7.out.1 (fun e => by have := hfy _ e.symm; rw [H.out.ob] at this; cases this)) (And.intro (hgrow'.cell S7.out.2.1 (fun e => by have := hfy _ e.symm; rw [HOK.out ()] at this; cases this)) (S7.out.2.2.kept hgrow' (fun e => by have := hfy _ e; rw [H.out.core.om] at this; cases this)))
          have RO8 : Hid (∀ q, q < w.heap.size → G.O q = .watch x ∨ fre (G.O q) → w8.heap[q]? = w.heap[q]?) := fun q hq ho => (hgrow'.block q (Nat.lt_of_lt_of_le hq BE7.out.size) (fun e => fre_ne ho (hfy _ e.symm) (fun e2 => HYX.out (by injection e2)) id rfl)).trans (RO7.out q hq ho)
          have BE8 : Hid (Below B w w8) := BE7.out.grown hgrow' (by rw [HSZ7.out]; omega) (fun q e => ((E7.out.core.wt y HYX.out).1.lt q e).1)
          have hsz8 : w7.heap.size ≤ w8.heap.size := hgrow'.size
          clear hE8 hH8 hown' hgrow' hat' hfy
          refine hK.out _ _ (fun _ => ?keep) (fun hHeld => ?_)
          case keep => exact hS8.out
          have hHeld := hHeld rfl
          clear hK K
          try go_simp
          refine restL_one (i := 18) (by kernel_rfl) rfl (fun K hK => ?_)
          refine step_mapUpd rfl (.tmp 66) (.tmp 69) (.tmp 80) rfl hS8.out.2.2 int_keyedV Try.underlying43 rfl (keyV y (lit_wf hn HLY.out)) rfl v' rfl ?_
          intro w9 hm9 hg9
          have HE9 := Lib.hid ((HE8.out.mapUpd HH8.out hm9 hg9).weak (X' := fun z => z = x) (fun z q => q.1.resolve_right q.2))
          have RO9 : Hid (∀ q, q < w.heap.size → G.O q = .watch x ∨ fre (G.O q) → w9.heap[q]? = w.heap[q]?) := fun q hq ho => (hg9.block q (Nat.lt_of_lt_of_le hq BE8.out.size) (fun e => fre_ne ho H.out.core.om (by nofun) id (by injection e))).trans (RO8.out q hq ho)
          have BE9 : Hid (Below B w w9) := map_below hg9 H.out.core.hmb (by rw [HSZ7.out] at hsz8; omega) BE8.out
          clear hm9 hg9
          refine hK.out _ _ (fun h => absurd h (by decide)) (fun _ => ?_)
          clear hK K
          try go_simp
          refine restL_done (by kernel_rfl) ?_ _
          go_wp2_with fail
          refine bodyPost_ret (v := .tuple #[.bool true, .bool true]) (by simp [results, Try.results33, go_sem]) rfl ?_
          rw [HONE.out (), HVV.out (), if_neg (HV1.out ()), HFI.out ()]
          simp only [HY.out ()]
          refine ⟨trivial, _, HE9.out, BE9.out, ?_, fun q hq => newO_old (by have := BE6.out.size; rw [HSZ7.out]; omega), RO9.out⟩
          show updV G.fn y v' x = G.fn x
          unfold updV; rw [if_neg (fun e => HYX.out e.symm)]
        · have hu1 : decide (0 ≤ u) = false := decide_eq_false hu0
          go_wp2_with fail
          go_roundg (m - 2 - (j + 1))
          case measure => omega
          case rel =>
            refine ⟨j + 1, by omega, by omega, by go_num, fun i hi => ?_, rfl⟩
            by_cases e : i = j
            · subst e; rw [HY.out (), ← HNF.out]; exact hu1
            · exact HBEF.out i (by omega)
      · have hltz : ¬ ((j + 2 : Nat) : Int) < (m : Int) := by omega
        have hfi : tl.findIdx? (V.notFalse s.va) = none := V.find_no (fun i hi => HBEF.out i (by have := HTLL.out (); omega))
        have HFI : Hid (∀ _ : Unit, tl.findIdx? (V.notFalse s.va) = none) := fun _ => hfi
        clear hfi
        have HSET := pSet_any B b n { s with cl := s.cl.set k (a :: x :: tl) } (fun z => z = x) us em G US a wo HE.out hn HS.out.la HTK.out HTL.out
        have HSB : Hid (∀ _ : Unit, setB { s with cl := s.cl.set k (a :: x :: tl) } a = decide (V.valL s.va a ≠ -1)) := fun _ => rfl
        have HSP : Hid (∀ _ : Unit, setP { s with cl := s.cl.set k (a :: x :: tl) } a = if V.valL s.va a = 0 then ({ s with cl := s.cl.set k (a :: x :: tl) } : V.En).put a else { s with cl := s.cl.set k (a :: x :: tl) }) := fun _ => rfl
        have HST := Lib.hid HSET
        clear HSET
        go_wp2_with fail
        refine HST.out.mono ?_
        rintro e w9 ⟨G', rfl, hE9, hK9⟩
        have HE9 := Lib.hid hE9
        have HK9 := Lib.hid hK9
        clear hE9 hK9
        go_wp2_with fail
        refine bodyPost_ret (v := .tuple #[.bool false, .bool (setB { s with cl := s.cl.set k (a :: x :: tl) } a)]) (by simp [results, Try.results33, go_sem]) rfl ?_
        rw [HONE.out (), if_neg (by rw [HVV.out ()]; exact HV1.out ()), HFI.out ()]
        rw [HSB.out ()]
        refine ⟨G', rfl, by rw [← HSP.out ()]; exact HE9.out, HBW.out.trans HK9.out.below, by rw [HK9.out.fn], fun g hg => HK9.out.own g (Nat.lt_of_lt_of_le hg HBW.out.size), fun q hq ho => ?_⟩
        have hr2 := RO.out q hq ho
        refine (HK9.out.oth q (Nat.lt_of_lt_of_le hq HBW.out.size) ?_ ?_ ?_).trans hr2 <;> (intro e; rcases ho with ho | ho <;> rw [e] at ho <;> first | cases ho | exact ho)
end Go.Proofs.Ytbomfekfebamkaa

/-
  solve's engine: the method propagate, walked.
-/
namespace Go.Proofs.Ytbomfekfebamkaa
open Go.RowKit Go.Maps
set_option linter.unusedSimpArgs false
set_option linter.unusedVariables false
theorem EngS.setHd {w : World} {B b : Nat} {s : V.En} {X : Int → Prop} {de : List V.Dec} {bad : Bool} {G : EG} {DE : Value} (h : EngS w B b s X de bad G DE) (m : Nat) : EngS (w.setCell ⟨b, 4, none⟩ (.int .i64 (m : Int))) B b { s with hd := m } X de bad G DE :=
  ⟨(h.core.hd m).set (p := ⟨b, 4, none⟩) (by show foreign (G.O b); rw [h.ob]; trivial) _, h.row.set 4 _, h.hb, h.ob, h.de.far (by show G.O b ≠ _; rw [h.ob]; nofun) _⟩
theorem prop_run {n f : Nat} {s1 : V.En} {l : Int} {r : V.En × Bool} (hl : s1.tr[s1.hd]? = some l) (hr : V.visitC (-l) (s1.wa (-l)) [] s1 = r) : V.propF (f + 1) s1 = if r.2 then V.propF f { r.1 with hd := s1.hd + 1 } else (r.1, false) := by
  conv => lhs; unfold V.propF
  rw [hl]
  simp only [hr]
theorem prop_stop {f : Nat} {s1 : V.En} (h : s1.tr.length ≤ s1.hd) : V.propF f s1 = (s1, true) := by
  cases f with
  | zero => rfl
  | succ f => unfold V.propF; rw [List.getElem?_eq_none_iff.2 h]
set_option maxRecDepth 100000 in
set_option maxHeartbeats 2000000 in
theorem sProp_any (B b n : Nat) (F : List (List Int)) (s : V.En) (de : List V.Dec) (bad : Bool) (G : EG) (DE : Value) (w : World) (h : EngS w B b s (fun _ => False) de bad G DE) (hW : V.WF n F s) (hI : V.Inv2 s s.hd) (hn : n ≤ 1000000) (hF : F.length ≤ 1000000) :
    Calls Try.prog 26 #[.pointer (some ⟨b, 0, none⟩)] w fun e w' => e = .returned (.bool (V.propF (n + 2) s).2) ∧ ∃ G', EngS w' B b (V.propF (n + 2) s).1 (fun _ => False) de bad G' DE ∧ Below B w w' ∧ ∀ g, g < w.heap.size → G'.O g = G.O g := by
  have H := Lib.hid h
  have HW := Lib.hid hW
  have HI := Lib.hid hI
  clear h hW hI
  go_enter Try.func26, Try.ntmps26
  go_wp2
  go_loopg [2] (n + 2) (fun gg _ wr => ∃ (f : Nat) (s1 : V.En) (G1 : EG), f ≤ gg ∧ Aside (V.propF (n + 2) s = V.propF f s1 ∧ V.WF n F s1 ∧ V.Inv2 s1 s1.hd ∧ EngS wr B b s1 (fun _ => False) de bad G1 DE ∧ n + 1 < f + s1.hd ∧ Below B w wr ∧ ∀ g, g < w.heap.size → G1.O g = G.O g))
  case atStart => exact ⟨n + 2, s, G, Nat.le_refl _, rfl, HW.out, HI.out, H.out, by omega, Below.refl _ _, fun _ _ => rfl⟩
  case round =>
    obtain ⟨f, s1, G1, hfg, hv⟩ := hrel
    have HV : Hid (V.propF (n + 2) s = V.propF f s1 ∧ V.WF n F s1 ∧ V.Inv2 s1 s1.hd ∧ EngS wr B b s1 (fun _ => False) de bad G1 DE ∧ n + 1 < f + s1.hd ∧ Below B w wr ∧ ∀ g, g < w.heap.size → G1.O g = G.O g) := hv
    clear hv
    have R1 : Hid (Row wr b 56 [G1.CL, .map (some G1.mb), G1.VA, G1.TR, .int .i64 (s1.hd : Int), DE, .bool bad]) := HV.out.2.2.2.1.row
    have hbB : B ≤ wr.heap.size := Nat.le_trans HV.out.2.2.2.1.hb (Nat.le_of_lt R1.out.lt)
    have k0 := R1.out.cell 0
    have k1 := R1.out.cell 1
    have k2 := R1.out.cell 2
    have k3 := R1.out.cell 3
    have k4 := R1.out.cell 4
    have k5 := R1.out.cell 5
    have k6 := R1.out.cell 6
    have kl := R1.out.lt
    simp only [List.getElem?_cons_zero, List.getElem?_cons_succ] at k0 k1 k2 k3 k4 k5 k6
    by_cases hlt : s1.hd < s1.tr.length
    · have hltz : (s1.hd : Int) < (s1.tr.length : Int) := by omega
      obtain ⟨gt, ct, hTR, hOt, hBt, hgt, hct, hcell, _⟩ := HV.out.2.2.2.1.core.tr.at_ hlt
      obtain ⟨l, hl⟩ : ∃ l, s1.tr[s1.hd]? = some l := ⟨_, List.getElem?_eq_getElem hlt⟩
      have HTL : Hid (∀ _ : Unit, s1.tr[s1.hd]? = some l) := fun _ => hl
      have z0 : wr.cell? ⟨gt, s1.hd, none⟩ = some (.int .i64 l) := hcell _ _ (by simp [ints, hl])
      have hLL := HV.out.2.1.tk.lits l (List.mem_of_getElem? hl)
      have HLL := Lib.hid hLL
      have hl1 := hLL.2.1
      have hl2 := hLL.2.2
      have hlw : IntKind.i64.wrap (-l) = -l := IntWalk.i64_in _ (by omega)
      rw [hTR] at k3
      have hp := V.prop_step HV.out.2.1 HV.out.2.2.1 hl _ rfl
      have HP := Lib.hid hp
      clear hcell hl hTR hLL hp
      go_upto_region 1 with fail
      go_quiet (fail)
      have HE2 : Hid (EngS (wr.drewN nq) B b s1 (fun _ => False) de bad G1 DE) := HV.out.2.2.2.1.drewN nq
      have HBW2 : Hid (Below B w (wr.drewN nq)) := below_drewN HV.out.2.2.2.2.2.1 nq
      have HX : Hid (V.propF (n + 2) s = V.propF f s1 ∧ n + 1 < f + s1.hd ∧ ∀ g, g < w.heap.size → G1.O g = G.O g) := And.intro HV.out.1 (And.intro HV.out.2.2.2.2.1 HV.out.2.2.2.2.2.2)
      have HWI : Hid (V.WF n F s1 ∧ V.Inv2 s1 s1.hd) := And.intro HV.out.2.1 HV.out.2.2.1
      have hz : (wr.drewN nq).cell? ⟨gt, s1.hd, none⟩ = some (.int .i64 l) := z0
      have hk3 : (wr.drewN nq).cell? ⟨b, 3, none⟩ = some (.slice (some ⟨gt, 0, none⟩) s1.tr.length ct) := k3
      have hk4 : (wr.drewN nq).cell? ⟨b, 4, none⟩ = some (.int .i64 (s1.hd : Int)) := k4
      have HV' : Hid (True ∧ V.WF n F s1 ∧ V.Inv2 s1 s1.hd ∧ EngS (wr.drewN nq) B b s1 (fun _ => False) de bad G1 DE ∧ True) := And.intro trivial (And.intro HWI.out.1 (And.intro HWI.out.2 (And.intro HE2.out trivial)))
      clear HV z0 k0 k1 k2 k3 k4 k5 k6 kl R1 HE2 HWI
      have hbq : B ≤ (wr.drewN nq).heap.size := hbB
      clear hbB
      revert HV' HBW2 hz hk3 hk4 hbq
      generalize wr.drewN nq = w2
      intro HBW2 z0 k3 k4 HV hbB
      go_upto_region 3 with fail
      refine wp_region_L (fun w' => w'.cell? ⟨b, 3, none⟩ = some (.slice (some ⟨gt, 0, none⟩) s1.tr.length ct) ∧ w'.cell? ⟨b, 4, none⟩ = some (.int .i64 (s1.hd : Int)) ∧ w'.cell? ⟨gt, s1.hd, none⟩ = some (.int .i64 l)) [12] (by kernel_rfl) (by exact ⟨k3, k4, z0⟩) (fun hHeld => ?_)
      refine restL_pure (i := 0) (v := ?vs1) rfl (by kernel_rfl) (by kernel_rfl) (by kernel_rfl) (fun _ _ _ h => h) (Or.inl ⟨by rfl, ?ys1⟩) ?rs1
      case ys1 => intro w' hSw; clear hSw; go_simp; try (with_reducible rfl)
      go_simp
      refine restL_pure (i := 1) (v := ?vs2) rfl (by kernel_rfl) (by kernel_rfl) (by kernel_rfl) (fun _ _ _ h => h) (Or.inl ⟨by rfl, ?ys2⟩) ?rs2
      case ys2 => intro w' hSw; clear hSw; go_simp; try (with_reducible rfl)
      go_simp
      refine restL_pure (i := 2) (v := ?vs3) rfl (by kernel_rfl) (by kernel_rfl) (by kernel_rfl) (fun _ _ _ h => h) (Or.inl ⟨by rfl, ?ys3⟩) ?rs3
      case ys3 => intro w' hSw; clear hSw; go_simp; try (with_reducible rfl)
      go_simp
      refine restL_pure (i := 3) (v := ?vs4) rfl (by kernel_rfl) (by kernel_rfl) (by kernel_rfl) (fun _ _ _ h => h) (Or.inl ⟨by rfl, ?ys4⟩) ?rs4
      case ys4 => intro w' hSw; clear hSw; go_simp; try (with_reducible rfl)
      go_simp
      refine restL_pure (i := 5) (v := ?vs5) rfl (by kernel_rfl) (by kernel_rfl) (by kernel_rfl) (fun _ _ _ h => h) (Or.inl ⟨by rfl, ?ys5⟩) ?rs5
      case ys5 => intro w' hSw; clear hSw; go_simp; try (with_reducible rfl)
      go_simp
      refine restL_pure (i := 6) (v := ?vs6) rfl (by kernel_rfl) (by kernel_rfl) (by kernel_rfl) (fun _ _ _ h => h) (Or.inl ⟨by rfl, ?ys6⟩) ?rs6
      case ys6 => intro w' hSw; clear hSw; go_simp; try (with_reducible rfl)
      go_simp
      refine restL_pure (i := 7) (v := ?vs7) rfl (by kernel_rfl) (by kernel_rfl) (by kernel_rfl) (fun _ _ _ h => h) (Or.inl ⟨by rfl, ?ys7⟩) ?rs7
      case ys7 => intro w' hSw; clear hSw; go_simp; try (with_reducible rfl)
      go_simp
      refine restL_take (i := 4) (v := ?vs8) [[12, 11, 10, 9]] rfl (by kernel_rfl) (by kernel_rfl) (by kernel_rfl) (by kernel_rfl) (fun _ _ _ h => h) (Or.inl ⟨by rfl, ?ys8⟩) hHeld ?rs8
      case ys8 =>
        intro w' hSw
        obtain ⟨q0, q1, q2⟩ := hSw
        go_simp
        try (with_reducible rfl)
      go_simp
      refine restL_take (i := 8) (v := ?vs9) [[12, 11, 10, 9]] rfl (by kernel_rfl) (by kernel_rfl) (by kernel_rfl) (by kernel_rfl) (fun _ _ _ h => h) (Or.inl ⟨by rfl, ?ys9⟩) hHeld ?rs9
      case ys9 =>
        intro w' hSw
        obtain ⟨q0, q1, q2⟩ := hSw
        go_simp
        try (with_reducible rfl)
      go_simp
      refine restL_take (i := 9) (v := ?vs10) [[12, 11, 10]] rfl (by kernel_rfl) (by kernel_rfl) (by kernel_rfl) (by kernel_rfl) (fun _ _ _ h => h) (Or.inl ⟨by rfl, ?ys10⟩) hHeld ?rs10
      case ys10 =>
        intro w' hSw
        obtain ⟨q0, q1, q2⟩ := hSw
        go_simp
        try (with_reducible rfl)
      go_simp
      refine restL_take (i := 10) (v := ?vs11) [[12, 11]] rfl (by kernel_rfl) (by kernel_rfl) (by kernel_rfl) (by kernel_rfl) (fun _ _ _ h => h) (Or.inl ⟨by rfl, ?ys11⟩) hHeld ?rs11
      case ys11 =>
        intro w' hSw
        obtain ⟨q0, q1, q2⟩ := hSw
        go_simp
        try (with_reducible rfl)
      go_simp
      refine restL_pure (i := 11) (v := ?vs12) rfl (by kernel_rfl) (by kernel_rfl) (by kernel_rfl) (fun _ _ _ h => h) (Or.inl ⟨by rfl, ?ys12⟩) ?rs12
      case ys12 => intro w' hSw; clear hSw; go_simp; try (with_reducible rfl)
      go_simp
      refine restL_one (i := 12) (by kernel_rfl) rfl (fun K hK => ?_)
      go_simp
      go_at_call 37
      with_reducible refine (sVisit_any B b n F s1 de bad G1 DE (-l) _ HV.out.2.2.2.1.drew HV.out.2.1 hn hF HLL.out.neg (by rw [Int.neg_neg]; exact List.mem_of_getElem? (HTL.out ()))).mono ?_
      rintro e w6 ⟨rfl, G2, hE6, hB6, hO6⟩
      have HE6 := Lib.hid hE6
      have HB6 := Lib.hid hB6
      have HO6 := Lib.hid hO6
      clear hE6 hB6 hO6
      refine hK.out _ _ (fun h => absurd h (by decide)) (fun _ => ?_)
      clear hK K
      try go_simp
      refine restL_pure (i := 13) (v := ?vs13) rfl (by kernel_rfl) (by kernel_rfl) (by kernel_rfl) (fun _ _ _ h => h) (Or.inl ⟨by rfl, ?ys13⟩) ?rs13
      case ys13 => intro w' hSw; clear hSw; go_simp; try (with_reducible rfl)
      go_simp
      refine restL_done (by kernel_rfl) ?_ _
      revert HP HE6
      generalize hr : V.visitC (-l) (s1.wa (-l)) [] s1 = r
      intro HP HE6
      have HR : Hid (∀ _ : Unit, V.visitC (-l) (s1.wa (-l)) [] s1 = r) := fun _ => hr
      clear hr k3 k4 z0
      obtain ⟨r1, r2⟩ := r
      cases r2 with
      | false =>
        go_wp2
        go_ret
        obtain ⟨f, rfl⟩ : ∃ f', f = f' + 1 := ⟨f - 1, by have := HX.out.2.1; have := HV.out.2.1.tk.le; omega⟩
        have hrun : V.propF (n + 2) s = (r1, false) := by rw [HX.out.1, prop_run (n := n) (HTL.out ()) (HR.out ())]; rfl
        rw [hrun]
        exact ⟨rfl, G2, HE6.out, HBW2.out.drew.trans HB6.out, fun q hq => (HO6.out q (Nat.lt_of_lt_of_le hq HBW2.out.size)).trans (HX.out.2.2 q hq)⟩
      | true =>
        have R6 : Hid (Row w6 b 56 [G2.CL, .map (some G2.mb), G2.VA, G2.TR, .int .i64 (r1.hd : Int), DE, .bool bad]) := HE6.out.row
        have k0 := R6.out.cell 0
        have k1 := R6.out.cell 1
        have k2 := R6.out.cell 2
        have k3 := R6.out.cell 3
        have k4 := R6.out.cell 4
        have k5 := R6.out.cell 5
        have k6 := R6.out.cell 6
        have kl := R6.out.lt
        simp only [List.getElem?_cons_zero, List.getElem?_cons_succ] at k0 k1 k2 k3 k4 k5 k6
        have kf0 := R6.out.frozen 0
        have kf1 := R6.out.frozen 1
        have kf2 := R6.out.frozen 2
        have kf3 := R6.out.frozen 3
        have kf4 := R6.out.frozen 4
        have kf5 := R6.out.frozen 5
        have kf6 := R6.out.frozen 6
        have hhd : r1.hd = s1.hd := HP.out.2.1
        rw [hhd] at k4
        have E7 : EngS (w6.setCell ⟨b, 4, none⟩ (.int .i64 ((s1.hd : Int) + 1))) B b { r1 with hd := s1.hd + 1 } (fun _ => False) de bad G2 DE := by
          have h9 := HE6.out.setHd (s1.hd + 1)
          rwa [show ((s1.hd + 1 : Nat) : Int) = (s1.hd : Int) + 1 by omega] at h9
        have hdb : (s1.hd : Int) ≤ 1000002 := by have := HV.out.2.1.tk.le; omega
        have HE7 := Lib.hid E7
        clear E7 hhd R6
        go_wp2
        have hf1 : 1 ≤ f := by have := HX.out.2.1; have := HV.out.2.1.tk.le; omega
        go_roundg (f - 1)
        case measure => omega
        case rel =>
          obtain ⟨f, rfl⟩ : ∃ f', f = f' + 1 := ⟨f - 1, by omega⟩
          refine ⟨f, _, G2, by omega, ?_, (HP.out.2.2 trivial).1, (HP.out.2.2 trivial).2, HE7.out, ?_, ?_, fun q hq => (HO6.out q (Nat.lt_of_lt_of_le hq HBW2.out.size)).trans (HX.out.2.2 q hq)⟩
          · rw [HX.out.1, prop_run (n := n) (HTL.out ()) (HR.out ())]; rfl
          · have := HX.out.2.1
            show n + 1 < f + (s1.hd + 1); omega
          · exact (HBW2.out.drew.trans HB6.out).setCell HE6.out.hb _
    · have hle : s1.tr.length ≤ s1.hd := by omega
      have hltz : ¬ (s1.hd : Int) < (s1.tr.length : Int) := by omega
      obtain ⟨AT, ct, hTR, _⟩ := HV.out.2.2.2.1.core.tr.rd
      rw [hTR] at k3
      have hrun : V.propF (n + 2) s = (s1, true) := HV.out.1.trans (prop_stop hle)
      have HRUN : Hid (∀ _ : Unit, V.propF (n + 2) s = (s1, true)) := fun _ => hrun
      clear hTR hrun hle
      go_upto_region 1 with fail
      go_quiet (fail)
      go_wp2
      go_ret
      rw [HRUN.out ()]
      exact ⟨rfl, G1, HV.out.2.2.2.1.drewN nq, below_drewN HV.out.2.2.2.2.2.1 nq, HV.out.2.2.2.2.2.2⟩
end Go.Proofs.Ytbomfekfebamkaa
