/-
  refute's engine: the method add, walked.
-/
import Derived.Test.YtbomfekfebamkaaVC10
import Derived.Test.YtbomfekfebamkaaVC12
namespace Go.Proofs.Ytbomfekfebamkaa
open Go.RowKit Go.Maps
set_option linter.unusedSimpArgs false
set_option linter.unusedVariables false
/-- A unit is put behind the units. -/
theorem EngR.addUnit {w w' : World} {B b : Nat} {s : V.En} {X : Int → Prop} {us : List Int} {em : Bool} {G : EG} {US v' : Value} {x : Int} (h : EngR w B b s X us em G US)
    (hown : w'.ownsRow B 3 1 v' (us.length + 1) (ints us ++ [.int .i64 x])) (hg : w.grownBy w' US.ownBlock) (hat : v'.ownBlock = US.ownBlock ∨ v'.ownBlock = some w.heap.size) :
    EngR (w'.setCell ⟨b, 2, none⟩ v') B b s X (us ++ [x]) em { G with O := newO G.O w.heap.size .units } v' ∧ Row w' b 46 [G.CL, .map (some G.mb), US, .bool em, G.VA, G.TR, .int .i64 (s.hd : Int)] ∧ Below B w (w'.setCell ⟨b, 2, none⟩ v') := by
  have hlt := h.row.lt
  have hne : ∀ k, US.ownBlock = some k → G.O k = .units := h.us.2
  have hc := (h.core.reNew .units).grow hg (fun k e => by
    show foreign (newO G.O w.heap.size .units k)
    rw [newO_old (own_lt h.us.1 k e), hne k e]; trivial)
  have hr : Row w' b 46 [G.CL, .map (some G.mb), US, .bool em, G.VA, G.TR, .int .i64 (s.hd : Int)] := h.row.grown hg (fun e => by
    have := hne b e.symm; rw [h.ob] at this; cases this)
  have hob : newO G.O w.heap.size .units b = .box := (newO_old hlt).trans h.ob
  refine ⟨⟨hc.set (p := ⟨b, 2, none⟩) (by show foreign (newO G.O _ .units b); rw [hob]; trivial) _, hr.set 2 _, h.hb, hob, ?_⟩, hr, ?_⟩
  · refine Hd.far ?_ (by show newO G.O _ .units b ≠ _; rw [hob]; nofun) _
    have := h.us.app hown hat
    rw [← ints_snoc] at this
    simpa using this
  · refine Below.setCell ?_ h.hb _
    have hB : B ≤ w.heap.size := Nat.le_trans h.hb (Nat.le_of_lt hlt)
    exact (Below.refl B w).grown hg hB (fun k e => (h.us.1.lt k e).1)
theorem add_two {s : V.En} {us : List Int} {em : Bool} {a b' : Int} {tl : List Int} (ht : V.tautC (a :: b' :: tl) = false) : V.addR ⟨s, us, em⟩ (a :: b' :: tl) = ⟨{ s with cl := s.cl ++ [a :: b' :: tl], wa := waJ s.wa s.cl.length [a, b'] }, us, em⟩ := by
  unfold V.addR
  rw [if_neg (by rw [ht]; decide)]
  rfl
set_option maxRecDepth 100000 in
set_option maxHeartbeats 4000000 in
theorem pAdd_any (B b n : Nat) (F : List (List Int)) (s : V.En) (us : List Int) (em : Bool) (G : EG) (US : Value) (A : Option Addr) (m c : Nat) (cc : List Int) (w : World) (h : EngR w B b s (fun _ => False) us em G US) (hW : V.WF n F s) (hn : n ≤ 1000000) (hF : F.length ≤ 1000000) (hus : us.length ≤ 1000000) (hr : Rd w w.heap.size 1 A m (ints cc)) (hm : m ≤ 1000000) (hl : ∀ x ∈ cc, V.lit n x) :
    Calls Try.prog 30 #[.pointer (some ⟨b, 0, none⟩), .slice A m c] w fun e w' => e = .returned (.tuple #[]) ∧ ∃ G' US', EngR w' B b (V.addR ⟨s, us, em⟩ (nrmI cc)).s (fun _ => False) (V.addR ⟨s, us, em⟩ (nrmI cc)).units (V.addR ⟨s, us, em⟩ (nrmI cc)).empty G' US' ∧ Below B w w' := by
  have H := Lib.hid h
  have HWF := Lib.hid hW
  have HRD := Lib.hid hr
  have HCX := Lib.hid hl
  have hbB0 : B ≤ w.heap.size := by have := h.row.lt; have := h.hb; omega
  have hbl : b < w.heap.size := h.row.lt
  have hcl1 : s.cl.length ≤ 1000000 := by have := hW.clen; omega
  have hnl0 : (nrmI cc).length ≤ 1000000 := by
    have h1 := nrm_len cc
    have h2 : cc.length = m := by have := hr.1; simpa using this
    omega
  have hlo0 := nrm_ok hl
  obtain ⟨nc, hnc⟩ : ∃ nc, nc = nrmI cc := ⟨_, rfl⟩
  rw [← hnc] at hnl0 hlo0 ⊢
  have HLO := Lib.hid hlo0
  have HNC : Hid (∀ _ : Unit, nc = nrmI cc) := fun _ => hnc
  obtain ⟨N, hN⟩ : ∃ N, nc.length = N := ⟨_, rfl⟩
  rw [hN] at hnl0
  have HN : Hid (∀ _ : Unit, nc.length = N) := fun _ => hN
  clear h hW hr hl hnc hN hlo0
  go_enter Try.func30, Try.ntmps30
  go_wp2_with fail
  with_reducible refine (clone_ints A m c cc _ HRD.out hm).mono ?_
  rintro e w5 ⟨A5, c5, rfl, hown5, hb5⟩
  have HO5 := Lib.hid hown5
  have HB5 := Lib.hid hb5
  clear hown5 hb5
  go_wp2_with fail
  with_reducible refine (sSort_own A5 m c5 w.heap.size cc _ HO5.out hm).mono ?_
  rintro e w6 ⟨rfl, hown6, hb6⟩
  have HO6 := Lib.hid hown6
  have HB6 := Lib.hid (HB5.out.trans hb6)
  clear hown6 hb6
  go_wp2_with fail
  have HCO : Hid (Calls Try.prog 23 #[.slice A5 m c5] w6 fun e w' => e = .returned (.slice A5 N c5) ∧ w'.ownsRow w.heap.size 3 1 (.slice A5 N c5) N (ints nc) ∧ Below w.heap.size w6 w') := by
    have := sCompact_own A5 m c5 w.heap.size (cc.mergeSort fun x y => decide (x ≤ y)) w6 HO6.out hm
    rw [show Lib.compact (cc.mergeSort fun x y => decide (x ≤ y)) = nc from (HNC.out ()).symm, HN.out ()] at this
    exact this
  refine HCO.out.mono ?_
  rintro e w7 ⟨rfl, hown7, hb7⟩
  have HB7 := Lib.hid (HB6.out.trans hb7)
  have HO7 := Lib.hid hown7
  clear hown7 hb7 HCO
  have HE7 : Hid (EngR w7 B b s (fun _ => False) us em G US) := H.out.below HB7.out
  have HBW : Hid (Below B w w7) := HB7.out.mono hbB0
  have hbB : B ≤ w7.heap.size := Nat.le_trans hbB0 HBW.out.size
  clear HB5 HB6 HO5 HO6 HRD HCX HNC
  go_wp2_with fail
  go_loopg [5, 15] N (fun gg _ s15 wr => ∃ i : Nat, i ≤ N ∧ N - i ≤ gg ∧ s15 = .int .i64 i ∧ w7 = wr ∧ Aside (∀ j, j < i → (decide (0 < nc.getD j 0) && nc.contains (-(nc.getD j 0))) = false))
  case atStart => exact ⟨0, Nat.zero_le _, by omega, rfl, rfl, fun j hj => absurd hj (Nat.not_lt_zero _)⟩
  case round =>
    obtain ⟨i, hi, hgg, rfl, rfl, hbef⟩ := hrel
    have HBEF := Lib.hid (show ∀ j, j < i → (decide (0 < nc.getD j 0) && nc.contains (-(nc.getD j 0))) = false from hbef)
    clear hbef
    by_cases hlt : i < N
    · have hltz : (i : Int) < (N : Int) := by omega
      obtain ⟨A6, c6, e6, hrd⟩ := Rd.own HO7.out
      cases e6
      obtain ⟨ad, rfl, hb, hcell⟩ := hrd.int hlt
      obtain ⟨x, hx⟩ : ∃ x, nc.getD i 0 = x := ⟨_, rfl⟩
      have HX : Hid (∀ _ : Unit, nc.getD i 0 = x) := fun _ => hx
      have hxm : x ∈ nc := by rw [← hx, List.getD_eq_getElem?_getD, List.getElem?_eq_getElem (by have := HN.out (); omega)]; exact List.getElem_mem _
      have hxl := HLO.out.2 x hxm
      have HXM : Hid (x ∈ nc) := hxm
      have x1 := hxl.2.1
      have x2 := hxl.2.2
      have hwx : IntKind.i64.wrap (-x) = -x := IntWalk.i64_in _ (by omega)
      rw [hx] at hcell
      have HCN := Lib.hid (contains_ints (some ad) N c5 nc (-x) w7 hrd (by omega))
      clear hx hxm hxl hrd x1 x2
      by_cases hp : 0 < x
      · have hpd : decide (0 < x) = true := decide_eq_true hp
        cases hq : nc.contains (-x) with
        | true =>
          rw [hq] at HCN
          have HT : Hid (V.tautC nc = true) := by
            show _ = _
            unfold V.tautC
            exact List.any_eq_true.2 ⟨x, HXM.out, by rw [hpd, hq]; rfl⟩
          clear hq
          go_wp2_with fail
          refine HCN.out.mono ?_
          rintro e w8 ⟨rfl, hw8⟩
          rw [hw8]
          clear hw8 w8
          go_wp2
          refine bodyPost_ret (v := .tuple #[]) (results_none rfl _ _ _) rfl ?_
          have he : V.addR ⟨s, us, em⟩ nc = ⟨s, us, em⟩ := by unfold V.addR; rw [if_pos HT.out]
          rw [he]
          first | exact ⟨rfl, G, US, HE7.out, HBW.out⟩ | exact ⟨rfl, ⟨G, US, HE7.out⟩, HBW.out⟩
        | false =>
          rw [hq] at HCN
          have HQ : Hid (∀ _ : Unit, nc.contains (-x) = false) := fun _ => hq
          clear hq
          go_wp2_with fail
          refine HCN.out.mono ?_
          rintro e w8 ⟨rfl, hw8⟩
          rw [hw8]
          clear hw8 w8
          go_wp2
          go_roundg (N - (i + 1))
          case measure => omega
          case rel =>
            refine ⟨i + 1, by omega, by omega, by go_num, rfl, fun j hj => ?_⟩
            by_cases e : j = i
            · subst e; rw [HX.out (), HQ.out ()]; simp
            · exact HBEF.out j (by omega)
      · have hpd : decide (0 < x) = false := decide_eq_false hp
        clear HCN
        go_wp2
        go_roundg (N - (i + 1))
        case measure => omega
        case rel =>
          refine ⟨i + 1, by omega, by omega, by go_num, rfl, fun j hj => ?_⟩
          by_cases e : j = i
          · subst e; rw [HX.out (), hpd]; rfl
          · exact HBEF.out j (by omega)
    · have hltz : ¬ (i : Int) < (N : Int) := by omega
      have HT : Hid (V.tautC nc = false) := by
        show _ = _
        unfold V.tautC
        rw [List.any_eq_false]
        intro x hx
        obtain ⟨j, hj, e⟩ := List.getElem_of_mem hx
        have := HBEF.out j (by have := HN.out (); omega)
        rw [List.getD_eq_getElem?_getD, List.getElem?_eq_getElem hj] at this
        simp only [Option.getD_some, e] at this
        rw [this]; decide
      have R7 : Hid (Row w7 b 46 [G.CL, .map (some G.mb), US, .bool em, G.VA, G.TR, .int .i64 (s.hd : Int)]) := HE7.out.row
      have hiN : N = i := by omega
      subst hiN
      clear HBEF
      cases nc with
      | nil =>
        obtain rfl : N = 0 := by have := HN.out (); simpa using this.symm
        have k0 := R7.out.cell 0
        have k1 := R7.out.cell 1
        have k2 := R7.out.cell 2
        have k3 := R7.out.cell 3
        have k4 := R7.out.cell 4
        have k5 := R7.out.cell 5
        have k6 := R7.out.cell 6
        have kl := R7.out.lt
        simp only [List.getElem?_cons_zero, List.getElem?_cons_succ] at k0 k1 k2 k3 k4 k5 k6
        have kf0 := R7.out.frozen 0
        have kf1 := R7.out.frozen 1
        have kf2 := R7.out.frozen 2
        have kf3 := R7.out.frozen 3
        have kf4 := R7.out.frozen 4
        have kf5 := R7.out.frozen 5
        have kf6 := R7.out.frozen 6
        have HR := Lib.hid HE7.out.raise
        clear HE7
        go_wp2
        refine bodyPost_end (results_none rfl _ _ _) rfl ?_
        have he : V.addR ⟨s, us, em⟩ [] = ⟨s, us, true⟩ := rfl
        rw [he]
        first | exact ⟨rfl, G, US, HR.out.1, HBW.out.trans HR.out.2⟩ | exact ⟨rfl, ⟨G, US, HR.out.1⟩, HBW.out.trans HR.out.2⟩
      | cons a nc =>
        cases nc with
        | nil =>
          obtain rfl : N = 1 := by have := HN.out (); simpa using this.symm
          have hv5 : Value.slice A5 1 c5 ≠ .slice none 0 0 := by simp
          obtain ⟨g5, c6, e5, hg5, hlt5, hc5, _, _, hH⟩ := Lib.holds_of_ownsRow (enc := Value.int .i64) HO7.out hv5
          cases e5
          have z0 : w7.cell? ⟨g5, 0, none⟩ = some (.int .i64 a) := by have := (hH 0 (by simp)).1; simpa using this
          obtain ⟨AU, cu, hUS, _⟩ := HE7.out.us.rd
          have hU5 : US.ownBlock ≠ some g5 := fun e => by have := own_lt H.out.us.1 _ e; omega
          subst hUS
          have k0 := R7.out.cell 0
          have k1 := R7.out.cell 1
          have k2 := R7.out.cell 2
          have k3 := R7.out.cell 3
          have k4 := R7.out.cell 4
          have k5 := R7.out.cell 5
          have k6 := R7.out.cell 6
          have kl := R7.out.lt
          simp only [List.getElem?_cons_zero, List.getElem?_cons_succ] at k0 k1 k2 k3 k4 k5 k6
          clear hv5 hH
          go_upto_region 16 with fail
          refine wp_region_L (fun w' => w'.cell? ⟨b, 2, none⟩ = some (.slice AU us.length cu) ∧ w'.cell? ⟨g5, 0, none⟩ = some (.int .i64 a)) [12] (by kernel_rfl) (by exact ⟨k2, z0⟩) (fun hHeld => ?_)
          refine restL_pure (i := 0) (v := ?vu1) rfl (by kernel_rfl) (by kernel_rfl) (by kernel_rfl) (fun _ _ _ h => h) (Or.inl ⟨by rfl, ?yu1⟩) ?ru1
          case yu1 => intro w' hSw; clear hSw; go_simp; try (with_reducible rfl)
          go_simp
          refine restL_pure (i := 1) (v := ?vu2) rfl (by kernel_rfl) (by kernel_rfl) (by kernel_rfl) (fun _ _ _ h => h) (Or.inl ⟨by rfl, ?yu2⟩) ?ru2
          case yu2 => intro w' hSw; clear hSw; go_simp; try (with_reducible rfl)
          go_simp
          refine restL_pure (i := 2) (v := ?vu3) rfl (by kernel_rfl) (by kernel_rfl) (by kernel_rfl) (fun _ _ _ h => h) (Or.inl ⟨by rfl, ?yu3⟩) ?ru3
          case yu3 => intro w' hSw; clear hSw; go_simp; try (with_reducible rfl)
          go_simp
          refine restL_pure (i := 3) (v := ?vu4) rfl (by kernel_rfl) (by kernel_rfl) (by kernel_rfl) (fun _ _ _ h => h) (Or.inl ⟨by rfl, ?yu4⟩) ?ru4
          case yu4 => intro w' hSw; clear hSw; go_simp; try (with_reducible rfl)
          go_simp
          refine restL_pure (i := 5) (v := ?vu5) rfl (by kernel_rfl) (by kernel_rfl) (by kernel_rfl) (fun _ _ _ h => h) (Or.inl ⟨by rfl, ?yu5⟩) ?ru5
          case yu5 => intro w' hSw; clear hSw; go_simp; try (with_reducible rfl)
          go_simp
          refine restL_take (i := 4) (v := ?vu6) [[12]] rfl (by kernel_rfl) (by kernel_rfl) (by kernel_rfl) (by kernel_rfl) (fun _ _ _ h => h) (Or.inl ⟨by rfl, ?yu6⟩) hHeld ?ru6
          case yu6 =>
            intro w' hSw
            obtain ⟨q1, q2⟩ := hSw
            go_simp
            try (with_reducible rfl)
          go_simp
          refine restL_take (i := 6) (v := ?vu7) [[12]] rfl (by kernel_rfl) (by kernel_rfl) (by kernel_rfl) (by kernel_rfl) (fun _ _ _ h => h) (Or.inl ⟨by rfl, ?yu7⟩) hHeld ?ru7
          case yu7 =>
            intro w' hSw
            obtain ⟨q1, q2⟩ := hSw
            go_simp
            try (with_reducible rfl)
          go_simp
          refine restL_take (i := 7) (v := ?vu8) [[12]] rfl (by kernel_rfl) (by kernel_rfl) (by kernel_rfl) (by kernel_rfl) (fun _ _ _ h => h) (Or.inl ⟨by rfl, ?yu8⟩) hHeld ?ru8
          case yu8 =>
            intro w' hSw
            obtain ⟨q1, q2⟩ := hSw
            go_simp
            try (with_reducible rfl)
          go_simp
          refine restL_one (i := 8) (by kernel_rfl) rfl (fun K hK => ?_)
          go_simp
          have S7 : Hid ((World.drew (World.alloc w7 (.cells #[.int .i64 a] 3))).cell? ⟨b, 2, none⟩ = some (.slice AU us.length cu) ∧ (World.drew (World.alloc w7 (.cells #[.int .i64 a] 3))).cell? ⟨g5, 0, none⟩ = some (.int .i64 a)) := And.intro ((World.cell?_alloc_lt _ _ _ kl).trans k2) ((World.cell?_alloc_lt _ _ _ hlt5).trans z0)
          have HL7 : Hid (Rd (World.drew (World.alloc w7 (.cells #[.int .i64 a] 3))) (w7.heap.size + 1) 1 (some ⟨w7.heap.size, 0, none⟩) 1 [.int .i64 a]) := Rd.lit w7 #[.int .i64 a] 3 (sz := 1) (m := 1) rfl
          have E8 : Hid (EngR (World.drew (World.alloc w7 (.cells #[.int .i64 a] 3))) B b s (fun _ => False) us em G (.slice AU us.length cu)) := (HE7.out.alloc _).drew
          have BE8 : Hid (Below B w (World.drew (World.alloc w7 (.cells #[.int .i64 a] 3)))) := (HBW.out.alloc hbB _).drew
          have hsz7 : (World.drew (World.alloc w7 (.cells #[.int .i64 a] 3))).heap.size = w7.heap.size + 1 := by simp
          revert S7 HL7 E8 BE8 hsz7
          generalize (World.drew (World.alloc w7 (.cells #[.int .i64 a] 3))) = w8
          intro S7 HL7 E8 BE8 hsz7
          have HSZ7 := Lib.hid hsz7
          clear hsz7
          refine hK.out _ _ (fun _ => ?keep) (fun hHeld => ?_)
          case keep => exact S7.out
          have hHeld := hHeld rfl
          clear hK K
          try go_simp
          refine restL_one (i := 9) (by kernel_rfl) rfl (fun K hK => ?_)
          refine step_app rfl (.tmp 92) (.tmp 96) 26 rfl B 3 (.int .i64 0) 1 8 Try.underlying26 int_infoV rfl (by decide) (by decide) (.slice AU us.length cu) us.length (ints us) rfl E8.out.us.1 (w7.heap.size + 1) (some ⟨w7.heap.size, 0, none⟩) 1 1 [.int .i64 a] rfl HL7.out (by intro u hu; simp at hu; subst hu; rfl) (by omega) (by rw [HSZ7.out]; omega) ?_
          intro v' w9 hown' hgrow' hat'
          obtain ⟨AV, cv, rfl, _⟩ := Rd.own hown'
          obtain ⟨hE9, hR9, hB9⟩ := E8.out.addUnit hown' hgrow' hat'
          have HE9 := Lib.hid hE9
          have HB9 := Lib.hid (BE8.out.trans hB9)
          have R9 := Lib.hid hR9
          have S9 : Hid (w9.cell? ⟨b, 2, none⟩ = some (.slice AU us.length cu) ∧ w9.cell? ⟨g5, 0, none⟩ = some (.int .i64 a)) := And.intro (hR9.cell 2) (hgrow'.cell S7.out.2 (fun e => hU5 e.symm))
          have k29 := hR9.cell 2
          have kf2 := hR9.frozen 2
          simp only [List.getElem?_cons_zero, List.getElem?_cons_succ] at k29
          clear hE9 hR9 hB9 hown' hgrow' hat'
          refine hK.out _ _ (fun _ => ?keep) (fun hHeld => ?_)
          case keep => exact S9.out
          have hHeld := hHeld rfl
          clear hK K
          try go_simp
          refine restL_pure (i := 10) (v := ?vu9) rfl (by kernel_rfl) (by kernel_rfl) (by kernel_rfl) (fun _ _ _ h => h) (Or.inl ⟨by rfl, ?yu9⟩) ?ru9
          case yu9 => intro w' hSw; clear hSw; go_simp; try (with_reducible rfl)
          go_simp
          refine restL_pure (i := 11) (v := ?vu10) rfl (by kernel_rfl) (by kernel_rfl) (by kernel_rfl) (fun _ _ _ h => h) (Or.inl ⟨by rfl, ?yu10⟩) ?ru10
          case yu10 => intro w' hSw; clear hSw; go_simp; try (with_reducible rfl)
          go_simp
          refine restL_one (i := 12) (by kernel_rfl) rfl (fun K hK => ?_)
          go_simp
          refine hK.out _ _ (fun h => absurd h (by decide)) (fun _ => ?_)
          clear hK K
          try go_simp
          refine restL_done (by kernel_rfl) ?_ _
          go_wp2
          refine bodyPost_end (results_none rfl _ _ _) rfl ?_
          have he : V.addR ⟨s, us, em⟩ [a] = ⟨s, us ++ [a], em⟩ := by unfold V.addR; rw [if_neg (by rw [HT.out]; decide)]
          rw [he]
          first | exact ⟨rfl, _, _, HE9.out, HB9.out⟩ | exact ⟨rfl, ⟨_, _, HE9.out⟩, HB9.out⟩
        | cons b' tl =>
          have hm5 := HN.out ()
          have hm50 : ¬ (N : Int) = 0 := by simp at hm5; omega
          have hm51 : ¬ (N : Int) = 1 := by simp at hm5; omega
          have hv5 : Value.slice A5 N c5 ≠ .slice none 0 0 := by
            intro e; injection e with _ e _; omega
          obtain ⟨g5, c6, e5, hg5, hlt5, hc5, hcm5, _, hH⟩ := Lib.holds_of_ownsRow (enc := Value.int .i64) HO7.out hv5
          injection e5 with e5a _ e5c
          subst e5a
          subst e5c
          have hHL : EngR w7 B b s (fun _ => False) us em { G with O := newO G.O w.heap.size (.clause s.cl.length) } US := H.out.tag (.clause s.cl.length) HB7.out
          have hL : Hd w7 (newO G.O w.heap.size (.clause s.cl.length)) B (.clause s.cl.length) 3 1 (.slice (some ⟨g5, 0, none⟩) N c5) N (ints (a :: b' :: tl)) := Hd.new0 HO7.out hbB0
          obtain ⟨AC, cc', hCL, _⟩ := HE7.out.core.cl.rd
          have hhl := HE7.out.core.hl
          have HHL := Lib.hid hHL
          have HHD := Lib.hid hL
          have HHL2 := Lib.hid hhl
          have HCL : Hid (∀ _ : Unit, G.CL = .slice AC G.hs.length cc') := fun _ => hCL
          have k0 := R7.out.cell 0
          have k1 := R7.out.cell 1
          have k2 := R7.out.cell 2
          have k3 := R7.out.cell 3
          have k4 := R7.out.cell 4
          have k5 := R7.out.cell 5
          have k6 := R7.out.cell 6
          have kl := R7.out.lt
          simp only [List.getElem?_cons_zero, List.getElem?_cons_succ] at k0 k1 k2 k3 k4 k5 k6
          rw [hCL] at k0
          clear hHL hL hv5 hH hCL hhl
          have HM5 : Hid (∀ _ : Unit, (a :: b' :: tl).length = N) := HN.out
          clear hm5
          have hhs : G.hs.length ≤ 1000000 := by rw [HHL2.out]; exact hcl1
          go_upto_region 9 with fail
          go_wp2_with (at_builtin; refine wpList_app rfl (.tmp 39) (.tmp 41) 22 rfl B 26 (.slice none 0 0) 1 24 Try.underlying22 row_infoV rfl (by decide) (by decide) (.slice AC G.hs.length cc') (G.hs.length) (G.hs) rfl ?own (w7.heap.size + 1) (some ⟨w7.heap.size, 0, none⟩) 1 1 [.slice (some ⟨g5, 0, none⟩) N c5] rfl ?rd ?one ?hb ?hbase ?_)
          case own => exact (by have := HE7.out.core.cl.1; rw [HCL.out ()] at this; exact this.alloc _)
          case rd => exact Rd.lit w7 #[.slice (some ⟨g5, 0, none⟩) N c5] 26 (sz := 1) (m := 1) rfl
          case one => first | (intro u hu; simp at hu; subst hu; rfl) | rfl
          case hb => omega
          case hbase => first | (simp; omega) | omega
          intro v' w8 hown' hgrow' hat'
          obtain ⟨A8, c8, rfl, _⟩ := Rd.own hown'
          have hgr : (World.alloc w7 (.cells #[.slice (some ⟨g5, 0, none⟩) N c5] 26)).grownBy w8 G.CL.ownBlock := by rw [HCL.out ()]; exact hgrow'
          have hat : (Value.slice A8 (G.hs.length + 1) c8).ownBlock = G.CL.ownBlock ∨ (Value.slice A8 (G.hs.length + 1) c8).ownBlock = some (World.alloc w7 (.cells #[.slice (some ⟨g5, 0, none⟩) N c5] 26)).heap.size := by rw [HCL.out (), World.size_alloc]; exact hat'
          have HA := EngR.addCl (HHL.out.alloc (.cells #[.slice (some ⟨g5, 0, none⟩) N c5] 26)) (l := a :: b' :: tl) (lv := .slice (some ⟨g5, 0, none⟩) N c5) (by rw [HM5.out ()]; exact HHD.out.alloc _) hown' hgr hat
          have HA := Lib.hid HA
          have R8 : Hid (Row w8 b 46 [G.CL, .map (some G.mb), US, .bool em, G.VA, G.TR, .int .i64 (s.hd : Int)]) := HA.out.2.1
          clear hgr hat hown' hgrow' hat' k0 k1 k2 k3 k4 k5 k6 kl
          have k0 := R8.out.cell 0
          have k1 := R8.out.cell 1
          have k2 := R8.out.cell 2
          have k3 := R8.out.cell 3
          have k4 := R8.out.cell 4
          have k5 := R8.out.cell 5
          have k6 := R8.out.cell 6
          have kl := R8.out.lt
          simp only [List.getElem?_cons_zero, List.getElem?_cons_succ] at k0 k1 k2 k3 k4 k5 k6
          have kf0 := R8.out.frozen 0
          have kf1 := R8.out.frozen 1
          have kf2 := R8.out.frozen 2
          have kf3 := R8.out.frozen 3
          have kf4 := R8.out.frozen 4
          have kf5 := R8.out.frozen 5
          have kf6 := R8.out.frozen 6
          have HB8 : Hid (Below B w (w8.setCell ⟨b, 0, none⟩ (.slice A8 (G.hs.length + 1) c8))) := (HBW.out.alloc hbB _).trans HA.out.2.2
          have HE8 : Hid (∃ G2, EngR (w8.setCell ⟨b, 0, none⟩ (.slice A8 (G.hs.length + 1) c8)) B b { s with cl := s.cl ++ [a :: b' :: tl], wa := waJ s.wa s.cl.length [] } (fun _ => False) us em G2 US ∧ G2.hs.getD s.cl.length undef = .slice (some ⟨g5, 0, none⟩) N c5) :=
            ⟨_, HA.out.1, by show (G.hs ++ [_]).getD s.cl.length undef = _; rw [← HHL2.out]; simp [List.getD_eq_getElem?_getD]⟩
          clear HA
          have e1 : ¬ N < 2 := by have := HM5.out (); simp at this; omega
          have hm1 : 1 < N := by omega
          have hm0 : 0 < N := by omega
          have hm1z : (1 : Int) < (N : Int) := by omega
          have hm0z : (0 : Int) < (N : Int) := by omega
          go_upto_region 11 with fail
          have hkn : (G.hs.length : Int) = (s.cl.length : Int) := by rw [HHL2.out]
          rw [hkn]
          clear k0 k1 k2 k3 k4 k5 k6 kl kf0 kf1 kf2 kf3 kf4 kf5 kf6 R8 R7 HE7 HO7 HHL HHD HHL2 HCL hhs hkn
          revert HB8 HE8
          generalize World.setCell w8 ⟨b, 0, none⟩ (.slice A8 (G.hs.length + 1) c8) = wq
          intro HB8 HE8
          obtain ⟨G2, hEq, hhs2⟩ := HE8.out
          have HEq := Lib.hid hEq
          have HHS := Lib.hid hhs2
          clear HE8 hEq hhs2
          have hcs : Hd wq G2.O B (.clause s.cl.length) 3 1 (.slice (some ⟨g5, 0, none⟩) N c5) N (ints (a :: b' :: tl)) := by
            have h9 := HEq.out.core.cs s.cl.length (by simp)
            have hgl : (s.cl ++ [a :: b' :: tl]).getD s.cl.length [] = a :: b' :: tl := by simp [List.getD_eq_getElem?_getD]
            have h9 : Hd wq G2.O B (.clause s.cl.length) 3 1 (G2.hs.getD s.cl.length undef) ((s.cl ++ [a :: b' :: tl]).getD s.cl.length []).length (ints ((s.cl ++ [a :: b' :: tl]).getD s.cl.length [])) := h9
            rwa [HHS.out, hgl, HM5.out ()] at h9
          obtain ⟨g6, c7, e6, hO6, _, hg5l, _, hcell, _⟩ := hcs.at_ (i := 0) (by omega)
          cases e6
          have HOC : Hid (G2.O g5 = .clause s.cl.length) := hO6
          have z0 : wq.cell? ⟨g5, 0, none⟩ = some (.int .i64 a) := hcell 0 _ (by simp [ints])
          have RQ : Hid (Row wq b 46 [G2.CL, .map (some G2.mb), US, .bool em, G2.VA, G2.TR, .int .i64 (s.hd : Int)]) := HEq.out.row
          have HXL := Lib.hid (HLO.out.2 a (by simp))
          have HMI := Lib.hid HEq.out.core.mp
          have hbq : B ≤ wq.heap.size := Nat.le_trans HEq.out.hb (Nat.le_of_lt RQ.out.lt)
          have HwN : Hid ((waJ s.wa s.cl.length [] a).length ≤ 1000002) := by
            have h1 := waJ_len s.wa s.cl.length a []
            have h2 := HWF.out.wle a
            simp only [List.length_nil, List.length_cons] at h1
            show _ ≤ _
            omega
          clear hcs hcell hO6
          have k0 := RQ.out.cell 0
          have k1 := RQ.out.cell 1
          have k2 := RQ.out.cell 2
          have k3 := RQ.out.cell 3
          have k4 := RQ.out.cell 4
          have k5 := RQ.out.cell 5
          have k6 := RQ.out.cell 6
          have kl := RQ.out.lt
          simp only [List.getElem?_cons_zero, List.getElem?_cons_succ] at k0 k1 k2 k3 k4 k5 k6
          refine wp_region_L (fun w' => w'.cell? ⟨b, 1, none⟩ = some (.map (some G2.mb)) ∧ w'.cell? ⟨g5, 0, none⟩ = some (.int .i64 a) ∧ MI w' Try.prog 3 G2.mb G2.fn (.slice none 0 0)) [18] (by kernel_rfl) (by exact ⟨k1, z0, HMI.out⟩) (fun hHeld => ?_)
          refine restL_pure (i := 0) (v := ?vp1) rfl (by kernel_rfl) (by kernel_rfl) (by kernel_rfl) (fun _ _ _ h => h) (Or.inl ⟨by rfl, ?yp1⟩) ?rp1
          case yp1 => intro w' hSw; clear hSw; go_simp; try (with_reducible rfl)
          go_simp
          refine restL_pure (i := 1) (v := ?vp2) rfl (by kernel_rfl) (by kernel_rfl) (by kernel_rfl) (fun _ _ _ h => h) (Or.inl ⟨by rfl, ?yp2⟩) ?rp2
          case yp2 => intro w' hSw; clear hSw; go_simp; try (with_reducible rfl)
          go_simp
          refine restL_pure (i := 2) (v := ?vp3) rfl (by kernel_rfl) (by kernel_rfl) (by kernel_rfl) (fun _ _ _ h => h) (Or.inl ⟨by rfl, ?yp3⟩) ?rp3
          case yp3 => intro w' hSw; clear hSw; go_simp; try (with_reducible rfl)
          go_simp
          refine restL_pure (i := 4) (v := ?vp4) rfl (by kernel_rfl) (by kernel_rfl) (by kernel_rfl) (fun _ _ _ h => h) (Or.inl ⟨by rfl, ?yp4⟩) ?rp4
          case yp4 => intro w' hSw; clear hSw; go_simp; try (with_reducible rfl)
          go_simp
          refine restL_pure (i := 7) (v := ?vp5) rfl (by kernel_rfl) (by kernel_rfl) (by kernel_rfl) (fun _ _ _ h => h) (Or.inl ⟨by rfl, ?yp5⟩) ?rp5
          case yp5 => intro w' hSw; clear hSw; go_simp; try (with_reducible rfl)
          go_simp
          refine restL_pure (i := 8) (v := ?vp6) rfl (by kernel_rfl) (by kernel_rfl) (by kernel_rfl) (fun _ _ _ h => h) (Or.inl ⟨by rfl, ?yp6⟩) ?rp6
          case yp6 => intro w' hSw; clear hSw; go_simp; try (with_reducible rfl)
          go_simp
          refine restL_pure (i := 9) (v := ?vp7) rfl (by kernel_rfl) (by kernel_rfl) (by kernel_rfl) (fun _ _ _ h => h) (Or.inl ⟨by rfl, ?yp7⟩) ?rp7
          case yp7 => intro w' hSw; clear hSw; go_simp; try (with_reducible rfl)
          go_simp
          refine restL_pure (i := 11) (v := ?vp8) rfl (by kernel_rfl) (by kernel_rfl) (by kernel_rfl) (fun _ _ _ h => h) (Or.inl ⟨by rfl, ?yp8⟩) ?rp8
          case yp8 => intro w' hSw; clear hSw; go_simp; try (with_reducible rfl)
          go_simp
          refine restL_pure (i := 15) (v := ?vp9) rfl (by kernel_rfl) (by kernel_rfl) (by kernel_rfl) (fun _ _ _ h => h) (Or.inl ⟨by rfl, ?yp9⟩) ?rp9
          case yp9 => intro w' hSw; clear hSw; go_simp; try (with_reducible rfl)
          go_simp
          refine restL_take (i := 3) (v := ?vp10) [[18]] rfl (by kernel_rfl) (by kernel_rfl) (by kernel_rfl) (by kernel_rfl) (fun _ _ _ h => h) (Or.inl ⟨by rfl, ?yp10⟩) hHeld ?rp10
          case yp10 =>
            intro w' hSw
            obtain ⟨q1, q2, q3⟩ := hSw
            have q4 := q3.lookup int_keyedV Try.underlying43 (Try.zeroValue26 w') (keyV a (lit_wf hn HXL.out))
            go_simp
            try (with_reducible rfl)
          go_simp
          refine restL_take (i := 5) (v := ?vp11) [[18]] rfl (by kernel_rfl) (by kernel_rfl) (by kernel_rfl) (by kernel_rfl) (fun _ _ _ h => h) (Or.inl ⟨by rfl, ?yp11⟩) hHeld ?rp11
          case yp11 =>
            intro w' hSw
            obtain ⟨q1, q2, q3⟩ := hSw
            have q4 := q3.lookup int_keyedV Try.underlying43 (Try.zeroValue26 w') (keyV a (lit_wf hn HXL.out))
            go_simp
            try (with_reducible rfl)
          go_simp
          refine restL_take (i := 6) (v := ?vp12) [[18]] rfl (by kernel_rfl) (by kernel_rfl) (by kernel_rfl) (by kernel_rfl) (fun _ _ _ h => h) (Or.inl ⟨by rfl, ?yp12⟩) hHeld ?rp12
          case yp12 =>
            intro w' hSw
            obtain ⟨q1, q2, q3⟩ := hSw
            have q4 := q3.lookup int_keyedV Try.underlying43 (Try.zeroValue26 w') (keyV a (lit_wf hn HXL.out))
            go_simp
            try (with_reducible rfl)
          go_simp
          refine restL_take (i := 10) (v := ?vp13) [[18]] rfl (by kernel_rfl) (by kernel_rfl) (by kernel_rfl) (by kernel_rfl) (fun _ _ _ h => h) (Or.inl ⟨by rfl, ?yp13⟩) hHeld ?rp13
          case yp13 =>
            intro w' hSw
            obtain ⟨q1, q2, q3⟩ := hSw
            have q4 := q3.lookup int_keyedV Try.underlying43 (Try.zeroValue26 w') (keyV a (lit_wf hn HXL.out))
            go_simp
            try (with_reducible rfl)
          go_simp
          refine restL_take (i := 12) (v := ?vp14) [[18]] rfl (by kernel_rfl) (by kernel_rfl) (by kernel_rfl) (by kernel_rfl) (fun _ _ _ h => h) (Or.inl ⟨by rfl, ?yp14⟩) hHeld ?rp14
          case yp14 =>
            intro w' hSw
            obtain ⟨q1, q2, q3⟩ := hSw
            have q4 := q3.lookup int_keyedV Try.underlying43 (Try.zeroValue26 w') (keyV a (lit_wf hn HXL.out))
            go_simp
            try (with_reducible rfl)
          go_simp
          refine restL_take (i := 13) (v := ?vp15) [[18]] rfl (by kernel_rfl) (by kernel_rfl) (by kernel_rfl) (by kernel_rfl) (fun _ _ _ h => h) (Or.inl ⟨by rfl, ?yp15⟩) hHeld ?rp15
          case yp15 =>
            intro w' hSw
            obtain ⟨q1, q2, q3⟩ := hSw
            have q4 := q3.lookup int_keyedV Try.underlying43 (Try.zeroValue26 w') (keyV a (lit_wf hn HXL.out))
            go_simp
            try (with_reducible rfl)
          go_simp
          refine restL_take (i := 14) (v := ?vp16) [[18]] rfl (by kernel_rfl) (by kernel_rfl) (by kernel_rfl) (by kernel_rfl) (fun _ _ _ h => h) (Or.inl ⟨by rfl, ?yp16⟩) hHeld ?rp16
          case yp16 =>
            intro w' hSw
            obtain ⟨q1, q2, q3⟩ := hSw
            have q4 := q3.lookup int_keyedV Try.underlying43 (Try.zeroValue26 w') (keyV a (lit_wf hn HXL.out))
            go_simp
            try (with_reducible rfl)
          go_simp
          refine restL_one (i := 16) (by kernel_rfl) rfl (fun K hK => ?_)
          go_simp
          have S7 : Hid ((World.drew (World.alloc wq (.cells #[.int .i64 (s.cl.length : Int)] 3))).cell? ⟨b, 1, none⟩ = some (.map (some G2.mb)) ∧ (World.drew (World.alloc wq (.cells #[.int .i64 (s.cl.length : Int)] 3))).cell? ⟨g5, 0, none⟩ = some (.int .i64 a) ∧ MI (World.drew (World.alloc wq (.cells #[.int .i64 (s.cl.length : Int)] 3))) Try.prog 3 G2.mb G2.fn (.slice none 0 0)) := And.intro ((World.cell?_alloc_lt _ _ _ kl).trans k1) (And.intro ((World.cell?_alloc_lt _ _ _ hg5l).trans z0) ((HMI.out.alloc _).drew))
          have HL7 : Hid (Rd (World.drew (World.alloc wq (.cells #[.int .i64 (s.cl.length : Int)] 3))) (wq.heap.size + 1) 1 (some ⟨wq.heap.size, 0, none⟩) 1 [.int .i64 (s.cl.length : Int)]) := Rd.lit wq #[.int .i64 (s.cl.length : Int)] 3 (sz := 1) (m := 1) rfl
          have E7 : Hid (EngR (World.drew (World.alloc wq (.cells #[.int .i64 (s.cl.length : Int)] 3))) B b { s with cl := s.cl ++ [a :: b' :: tl], wa := waJ s.wa s.cl.length [] } (fun _ => False) us em G2 US) := (HEq.out.alloc _).drew
          have BE7 : Hid (Below B w (World.drew (World.alloc wq (.cells #[.int .i64 (s.cl.length : Int)] 3)))) := (HB8.out.alloc hbq _).drew
          have hsz7 : (World.drew (World.alloc wq (.cells #[.int .i64 (s.cl.length : Int)] 3))).heap.size = wq.heap.size + 1 := by simp
          revert S7 HL7 E7 BE7 hsz7
          generalize (World.drew (World.alloc wq (.cells #[.int .i64 (s.cl.length : Int)] 3))) = wa7
          intro S7 HL7 E7 BE7 hsz7
          have HSZ7 := Lib.hid hsz7
          clear hsz7
          refine hK.out _ _ (fun _ => ?keep) (fun hHeld => ?_)
          case keep => exact S7.out
          have hHeld := hHeld rfl
          clear hK K
          try go_simp
          refine restL_one (i := 17) (by kernel_rfl) rfl (fun K hK => ?_)
          refine step_app rfl (.tmp 59) (.tmp 61) 26 rfl B 3 (.int .i64 0) 1 8 Try.underlying26 int_infoV rfl (by decide) (by decide) (G2.fn a) (waJ s.wa s.cl.length [] a).length (nats (waJ s.wa s.cl.length [] a)) rfl (E7.out.core.wt a id).1 (wq.heap.size + 1) (some ⟨wq.heap.size, 0, none⟩) 1 1 [.int .i64 (s.cl.length : Int)] rfl HL7.out (by intro u hu; simp at hu; subst hu; rfl) (by have := HwN.out; omega) (by rw [HSZ7.out]; omega) ?_
          intro v' wa8 hown' hgrow' hat'
          obtain ⟨hE8, hH8⟩ := E7.out.watchApp (y := a) id hown' hgrow' hat'
          have HE8 := Lib.hid hE8
          have HH8 := Lib.hid hH8
          have hfy : ∀ q, (G2.fn a).ownBlock = some q → G2.O q = .watch a := (E7.out.core.wt a id).2
          have hS8 : Hid (wa8.cell? ⟨b, 1, none⟩ = some (.map (some G2.mb)) ∧ wa8.cell? ⟨g5, 0, none⟩ = some (.int .i64 a) ∧ MI wa8 Try.prog 3 G2.mb G2.fn (.slice none 0 0)) := And.intro (hgrow'.cell S7.out.1 (fun e => by have := hfy _ e.symm; rw [E7.out.ob] at this; cases this)) (And.intro (hgrow'.cell S7.out.2.1 (fun e => by have := hfy _ e.symm; rw [HOC.out] at this; cases this)) (S7.out.2.2.kept hgrow' (fun e => by have := hfy _ e; rw [E7.out.core.om] at this; cases this)))
          have BE8 : Hid (Below B w wa8) := BE7.out.grown hgrow' (by rw [HSZ7.out]; omega) (fun q e => ((E7.out.core.wt a id).1.lt q e).1)
          have hsz8 : wa7.heap.size ≤ wa8.heap.size := hgrow'.size
          clear hE8 hH8 hown' hgrow' hat' hfy
          refine hK.out _ _ (fun _ => ?keep) (fun hHeld => ?_)
          case keep => exact hS8.out
          have hHeld := hHeld rfl
          clear hK K
          try go_simp
          refine restL_one (i := 18) (by kernel_rfl) rfl (fun K hK => ?_)
          refine step_mapUpd rfl (.tmp 48) (.tmp 51) (.tmp 62) rfl hS8.out.2.2 int_keyedV Try.underlying43 rfl (keyV a (lit_wf hn HXL.out)) rfl v' rfl ?_
          intro wb hm9 hg9
          have HE9 := Lib.hid ((HE8.out.mapUpd HH8.out hm9 hg9).weak (X' := fun _ => False) (fun z q => q.2 (q.1.resolve_left id)))
          have BE9 : Hid (Below B w wb) := map_below hg9 E7.out.core.hmb (by rw [HSZ7.out] at hsz8; omega) BE8.out
          clear hm9 hg9
          refine hK.out _ _ (fun h => absurd h (by decide)) (fun _ => ?_)
          clear hK K
          try go_simp
          refine restL_done (by kernel_rfl) ?_ _
          have HEr : Hid (EngR wb B b { s with cl := s.cl ++ [a :: b' :: tl], wa := waJ s.wa s.cl.length [a] } (fun _ => False) us em { G2 with O := newO G2.O wa7.heap.size (.watch a), fn := updV G2.fn a v' } US) := HE9.out
          have HBr : Hid (Below B w wb) := BE9.out
          have HHSr : Hid (({ G2 with O := newO G2.O wa7.heap.size (.watch a), fn := updV G2.fn a v' } : EG).hs.getD s.cl.length undef = .slice (some ⟨g5, 0, none⟩) N c5) := HHS.out
          clear HE9 BE9 HHS HEq HB8 k0 k1 k2 k3 k4 k5 k6 kl z0 RQ HXL HMI HwN HOC hg5l hbq S7 HL7 E7 BE7 HSZ7 HE8 HH8 hS8 BE8 hsz8
          revert HEr HHSr
          generalize ({ G2 with O := newO G2.O wa7.heap.size (.watch a), fn := updV G2.fn a v' } : EG) = G2
          intro HEr HHS
          go_upto_region 12 with fail
          have hcs : Hd wb G2.O B (.clause s.cl.length) 3 1 (.slice (some ⟨g5, 0, none⟩) N c5) N (ints (a :: b' :: tl)) := by
            have h9 := HEr.out.core.cs s.cl.length (by simp)
            have hgl : (s.cl ++ [a :: b' :: tl]).getD s.cl.length [] = a :: b' :: tl := by simp [List.getD_eq_getElem?_getD]
            have h9 : Hd wb G2.O B (.clause s.cl.length) 3 1 (G2.hs.getD s.cl.length undef) ((s.cl ++ [a :: b' :: tl]).getD s.cl.length []).length (ints ((s.cl ++ [a :: b' :: tl]).getD s.cl.length [])) := h9
            rwa [HHS.out, hgl, HM5.out ()] at h9
          obtain ⟨g6, c7, e6, hO6, _, hg5l, _, hcell, _⟩ := hcs.at_ (i := 0) (by omega)
          cases e6
          have HOC : Hid (G2.O g5 = .clause s.cl.length) := hO6
          have z0 : wb.cell? ⟨g5, 1, none⟩ = some (.int .i64 b') := hcell 1 _ (by simp [ints])
          have RQ : Hid (Row wb b 46 [G2.CL, .map (some G2.mb), US, .bool em, G2.VA, G2.TR, .int .i64 (s.hd : Int)]) := HEr.out.row
          have HXL := Lib.hid (HLO.out.2 b' (by simp))
          have HMI := Lib.hid HEr.out.core.mp
          have hbq : B ≤ wb.heap.size := Nat.le_trans HEr.out.hb (Nat.le_of_lt RQ.out.lt)
          have HwN : Hid ((waJ s.wa s.cl.length [a] b').length ≤ 1000002) := by
            have h1 := waJ_len s.wa s.cl.length b' [a]
            have h2 := HWF.out.wle b'
            simp only [List.length_nil, List.length_cons] at h1
            show _ ≤ _
            omega
          clear hcs hcell hO6
          have k0 := RQ.out.cell 0
          have k1 := RQ.out.cell 1
          have k2 := RQ.out.cell 2
          have k3 := RQ.out.cell 3
          have k4 := RQ.out.cell 4
          have k5 := RQ.out.cell 5
          have k6 := RQ.out.cell 6
          have kl := RQ.out.lt
          simp only [List.getElem?_cons_zero, List.getElem?_cons_succ] at k0 k1 k2 k3 k4 k5 k6
          refine wp_region_L (fun w' => w'.cell? ⟨b, 1, none⟩ = some (.map (some G2.mb)) ∧ w'.cell? ⟨g5, 1, none⟩ = some (.int .i64 b') ∧ MI w' Try.prog 3 G2.mb G2.fn (.slice none 0 0)) [18] (by kernel_rfl) (by exact ⟨k1, z0, HMI.out⟩) (fun hHeld => ?_)
          refine restL_pure (i := 0) (v := ?vq1) rfl (by kernel_rfl) (by kernel_rfl) (by kernel_rfl) (fun _ _ _ h => h) (Or.inl ⟨by rfl, ?yq1⟩) ?rq1
          case yq1 => intro w' hSw; clear hSw; go_simp; try (with_reducible rfl)
          go_simp
          refine restL_pure (i := 1) (v := ?vq2) rfl (by kernel_rfl) (by kernel_rfl) (by kernel_rfl) (fun _ _ _ h => h) (Or.inl ⟨by rfl, ?yq2⟩) ?rq2
          case yq2 => intro w' hSw; clear hSw; go_simp; try (with_reducible rfl)
          go_simp
          refine restL_pure (i := 2) (v := ?vq3) rfl (by kernel_rfl) (by kernel_rfl) (by kernel_rfl) (fun _ _ _ h => h) (Or.inl ⟨by rfl, ?yq3⟩) ?rq3
          case yq3 => intro w' hSw; clear hSw; go_simp; try (with_reducible rfl)
          go_simp
          refine restL_pure (i := 4) (v := ?vq4) rfl (by kernel_rfl) (by kernel_rfl) (by kernel_rfl) (fun _ _ _ h => h) (Or.inl ⟨by rfl, ?yq4⟩) ?rq4
          case yq4 => intro w' hSw; clear hSw; go_simp; try (with_reducible rfl)
          go_simp
          refine restL_pure (i := 7) (v := ?vq5) rfl (by kernel_rfl) (by kernel_rfl) (by kernel_rfl) (fun _ _ _ h => h) (Or.inl ⟨by rfl, ?yq5⟩) ?rq5
          case yq5 => intro w' hSw; clear hSw; go_simp; try (with_reducible rfl)
          go_simp
          refine restL_pure (i := 8) (v := ?vq6) rfl (by kernel_rfl) (by kernel_rfl) (by kernel_rfl) (fun _ _ _ h => h) (Or.inl ⟨by rfl, ?yq6⟩) ?rq6
          case yq6 => intro w' hSw; clear hSw; go_simp; try (with_reducible rfl)
          go_simp
          refine restL_pure (i := 9) (v := ?vq7) rfl (by kernel_rfl) (by kernel_rfl) (by kernel_rfl) (fun _ _ _ h => h) (Or.inl ⟨by rfl, ?yq7⟩) ?rq7
          case yq7 => intro w' hSw; clear hSw; go_simp; try (with_reducible rfl)
          go_simp
          refine restL_pure (i := 11) (v := ?vq8) rfl (by kernel_rfl) (by kernel_rfl) (by kernel_rfl) (fun _ _ _ h => h) (Or.inl ⟨by rfl, ?yq8⟩) ?rq8
          case yq8 => intro w' hSw; clear hSw; go_simp; try (with_reducible rfl)
          go_simp
          refine restL_pure (i := 15) (v := ?vq9) rfl (by kernel_rfl) (by kernel_rfl) (by kernel_rfl) (fun _ _ _ h => h) (Or.inl ⟨by rfl, ?yq9⟩) ?rq9
          case yq9 => intro w' hSw; clear hSw; go_simp; try (with_reducible rfl)
          go_simp
          refine restL_take (i := 3) (v := ?vq10) [[18]] rfl (by kernel_rfl) (by kernel_rfl) (by kernel_rfl) (by kernel_rfl) (fun _ _ _ h => h) (Or.inl ⟨by rfl, ?yq10⟩) hHeld ?rq10
          case yq10 =>
            intro w' hSw
            obtain ⟨q1, q2, q3⟩ := hSw
            have q4 := q3.lookup int_keyedV Try.underlying43 (Try.zeroValue26 w') (keyV b' (lit_wf hn HXL.out))
            go_simp
            try (with_reducible rfl)
          go_simp
          refine restL_take (i := 5) (v := ?vq11) [[18]] rfl (by kernel_rfl) (by kernel_rfl) (by kernel_rfl) (by kernel_rfl) (fun _ _ _ h => h) (Or.inl ⟨by rfl, ?yq11⟩) hHeld ?rq11
          case yq11 =>
            intro w' hSw
            obtain ⟨q1, q2, q3⟩ := hSw
            have q4 := q3.lookup int_keyedV Try.underlying43 (Try.zeroValue26 w') (keyV b' (lit_wf hn HXL.out))
            go_simp
            try (with_reducible rfl)
          go_simp
          refine restL_take (i := 6) (v := ?vq12) [[18]] rfl (by kernel_rfl) (by kernel_rfl) (by kernel_rfl) (by kernel_rfl) (fun _ _ _ h => h) (Or.inl ⟨by rfl, ?yq12⟩) hHeld ?rq12
          case yq12 =>
            intro w' hSw
            obtain ⟨q1, q2, q3⟩ := hSw
            have q4 := q3.lookup int_keyedV Try.underlying43 (Try.zeroValue26 w') (keyV b' (lit_wf hn HXL.out))
            go_simp
            try (with_reducible rfl)
          go_simp
          refine restL_take (i := 10) (v := ?vq13) [[18]] rfl (by kernel_rfl) (by kernel_rfl) (by kernel_rfl) (by kernel_rfl) (fun _ _ _ h => h) (Or.inl ⟨by rfl, ?yq13⟩) hHeld ?rq13
          case yq13 =>
            intro w' hSw
            obtain ⟨q1, q2, q3⟩ := hSw
            have q4 := q3.lookup int_keyedV Try.underlying43 (Try.zeroValue26 w') (keyV b' (lit_wf hn HXL.out))
            go_simp
            try (with_reducible rfl)
          go_simp
          refine restL_take (i := 12) (v := ?vq14) [[18]] rfl (by kernel_rfl) (by kernel_rfl) (by kernel_rfl) (by kernel_rfl) (fun _ _ _ h => h) (Or.inl ⟨by rfl, ?yq14⟩) hHeld ?rq14
          case yq14 =>
            intro w' hSw
            obtain ⟨q1, q2, q3⟩ := hSw
            have q4 := q3.lookup int_keyedV Try.underlying43 (Try.zeroValue26 w') (keyV b' (lit_wf hn HXL.out))
            go_simp
            try (with_reducible rfl)
          go_simp
          refine restL_take (i := 13) (v := ?vq15) [[18]] rfl (by kernel_rfl) (by kernel_rfl) (by kernel_rfl) (by kernel_rfl) (fun _ _ _ h => h) (Or.inl ⟨by rfl, ?yq15⟩) hHeld ?rq15
          case yq15 =>
            intro w' hSw
            obtain ⟨q1, q2, q3⟩ := hSw
            have q4 := q3.lookup int_keyedV Try.underlying43 (Try.zeroValue26 w') (keyV b' (lit_wf hn HXL.out))
            go_simp
            try (with_reducible rfl)
          go_simp
          refine restL_take (i := 14) (v := ?vq16) [[18]] rfl (by kernel_rfl) (by kernel_rfl) (by kernel_rfl) (by kernel_rfl) (fun _ _ _ h => h) (Or.inl ⟨by rfl, ?yq16⟩) hHeld ?rq16
          case yq16 =>
            intro w' hSw
            obtain ⟨q1, q2, q3⟩ := hSw
            have q4 := q3.lookup int_keyedV Try.underlying43 (Try.zeroValue26 w') (keyV b' (lit_wf hn HXL.out))
            go_simp
            try (with_reducible rfl)
          go_simp
          refine restL_one (i := 16) (by kernel_rfl) rfl (fun K hK => ?_)
          go_simp
          have S7 : Hid ((World.drew (World.alloc wb (.cells #[.int .i64 (s.cl.length : Int)] 3))).cell? ⟨b, 1, none⟩ = some (.map (some G2.mb)) ∧ (World.drew (World.alloc wb (.cells #[.int .i64 (s.cl.length : Int)] 3))).cell? ⟨g5, 1, none⟩ = some (.int .i64 b') ∧ MI (World.drew (World.alloc wb (.cells #[.int .i64 (s.cl.length : Int)] 3))) Try.prog 3 G2.mb G2.fn (.slice none 0 0)) := And.intro ((World.cell?_alloc_lt _ _ _ kl).trans k1) (And.intro ((World.cell?_alloc_lt _ _ _ hg5l).trans z0) ((HMI.out.alloc _).drew))
          have HL7 : Hid (Rd (World.drew (World.alloc wb (.cells #[.int .i64 (s.cl.length : Int)] 3))) (wb.heap.size + 1) 1 (some ⟨wb.heap.size, 0, none⟩) 1 [.int .i64 (s.cl.length : Int)]) := Rd.lit wb #[.int .i64 (s.cl.length : Int)] 3 (sz := 1) (m := 1) rfl
          have E7 : Hid (EngR (World.drew (World.alloc wb (.cells #[.int .i64 (s.cl.length : Int)] 3))) B b { s with cl := s.cl ++ [a :: b' :: tl], wa := waJ s.wa s.cl.length [a] } (fun _ => False) us em G2 US) := (HEr.out.alloc _).drew
          have BE7 : Hid (Below B w (World.drew (World.alloc wb (.cells #[.int .i64 (s.cl.length : Int)] 3)))) := (HBr.out.alloc hbq _).drew
          have hsz7 : (World.drew (World.alloc wb (.cells #[.int .i64 (s.cl.length : Int)] 3))).heap.size = wb.heap.size + 1 := by simp
          revert S7 HL7 E7 BE7 hsz7
          generalize (World.drew (World.alloc wb (.cells #[.int .i64 (s.cl.length : Int)] 3))) = wa7
          intro S7 HL7 E7 BE7 hsz7
          have HSZ7 := Lib.hid hsz7
          clear hsz7
          refine hK.out _ _ (fun _ => ?keep) (fun hHeld => ?_)
          case keep => exact S7.out
          have hHeld := hHeld rfl
          clear hK K
          try go_simp
          refine restL_one (i := 17) (by kernel_rfl) rfl (fun K hK => ?_)
          refine step_app rfl (.tmp 77) (.tmp 79) 26 rfl B 3 (.int .i64 0) 1 8 Try.underlying26 int_infoV rfl (by decide) (by decide) (G2.fn b') (waJ s.wa s.cl.length [a] b').length (nats (waJ s.wa s.cl.length [a] b')) rfl (E7.out.core.wt b' id).1 (wb.heap.size + 1) (some ⟨wb.heap.size, 0, none⟩) 1 1 [.int .i64 (s.cl.length : Int)] rfl HL7.out (by intro u hu; simp at hu; subst hu; rfl) (by have := HwN.out; omega) (by rw [HSZ7.out]; omega) ?_
          intro v' wa8 hown' hgrow' hat'
          obtain ⟨hE8, hH8⟩ := E7.out.watchApp (y := b') id hown' hgrow' hat'
          have HE8 := Lib.hid hE8
          have HH8 := Lib.hid hH8
          have hfy : ∀ q, (G2.fn b').ownBlock = some q → G2.O q = .watch b' := (E7.out.core.wt b' id).2
          have hS8 : Hid (wa8.cell? ⟨b, 1, none⟩ = some (.map (some G2.mb)) ∧ wa8.cell? ⟨g5, 1, none⟩ = some (.int .i64 b') ∧ MI wa8 Try.prog 3 G2.mb G2.fn (.slice none 0 0)) := And.intro (hgrow'.cell S7.out.1 (fun e => by have := hfy _ e.symm; rw [E7.out.ob] at this; cases this)) (And.intro (hgrow'.cell S7.out.2.1 (fun e => by have := hfy _ e.symm; rw [HOC.out] at this; cases this)) (S7.out.2.2.kept hgrow' (fun e => by have := hfy _ e; rw [E7.out.core.om] at this; cases this)))
          have BE8 : Hid (Below B w wa8) := BE7.out.grown hgrow' (by rw [HSZ7.out]; omega) (fun q e => ((E7.out.core.wt b' id).1.lt q e).1)
          have hsz8 : wa7.heap.size ≤ wa8.heap.size := hgrow'.size
          clear hE8 hH8 hown' hgrow' hat' hfy
          refine hK.out _ _ (fun _ => ?keep) (fun hHeld => ?_)
          case keep => exact hS8.out
          have hHeld := hHeld rfl
          clear hK K
          try go_simp
          refine restL_one (i := 18) (by kernel_rfl) rfl (fun K hK => ?_)
          refine step_mapUpd rfl (.tmp 66) (.tmp 69) (.tmp 80) rfl hS8.out.2.2 int_keyedV Try.underlying43 rfl (keyV b' (lit_wf hn HXL.out)) rfl v' rfl ?_
          intro wd hm9 hg9
          have HE9 := Lib.hid ((HE8.out.mapUpd HH8.out hm9 hg9).weak (X' := fun _ => False) (fun z q => q.2 (q.1.resolve_left id)))
          have BE9 : Hid (Below B w wd) := map_below hg9 E7.out.core.hmb (by rw [HSZ7.out] at hsz8; omega) BE8.out
          clear hm9 hg9
          refine hK.out _ _ (fun h => absurd h (by decide)) (fun _ => ?_)
          clear hK K
          try go_simp
          refine restL_done (by kernel_rfl) ?_ _
          go_wp2
          refine bodyPost_end (results_none rfl _ _ _) rfl ?_
          rw [add_two HT.out]
          first | exact ⟨rfl, _, US, HE9.out, BE9.out⟩ | exact ⟨rfl, ⟨_, US, HE9.out⟩, BE9.out⟩
end Go.Proofs.Ytbomfekfebamkaa

