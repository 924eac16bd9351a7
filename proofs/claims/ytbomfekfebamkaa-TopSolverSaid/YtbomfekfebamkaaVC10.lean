/-
  solve's engine: the method back, walked.
-/
import Derived.Test.YtbomfekfebamkaaVC8
import Derived.Test.YtbomfekfebamkaaVC9
import Derived.Lib.MinMax
import Derived.Defers
import Derived.Test.YtbomfekfebamkaaVC6
import Derived.Test.YtbomfekfebamkaaVC4
namespace Go.Proofs.Ytbomfekfebamkaa
open Go.RowKit Go.Maps
set_option linter.unusedSimpArgs false
set_option linter.unusedVariables false
theorem unset_step (va l : List Int) (i : Nat) (x : Int) (h : l[i]? = some x) : V.unsetL va (l.take (i + 1)) = (V.unsetL va (l.take i)).set x.natAbs 0 := by
  rw [List.take_add_one, h]
  simp [V.unsetL, List.foldl_append]
set_option maxRecDepth 100000 in
set_option maxHeartbeats 2000000 in
theorem sBack_any (B b n : Nat) (s : V.En) (X : Int → Prop) (d : V.Dec) (ds : List V.Dec) (bad : Bool) (G : EG) (DE : Value) (w : World) (h : EngS w B b s X (d :: ds) bad G DE) (htk : V.TrOk n s.va s.tr) (hn : n ≤ 1000000) (hdt : d.t < s.tr.length) (hds : ds.length ≤ 2000000) :
    Calls Try.prog 38 #[.pointer (some ⟨b, 0, none⟩)] w fun e w' => e = .returned (.agg #[.int .i64 (d.v : Int), .int .i64 (d.t : Int), .bool d.turned]) ∧ ∃ G' DE', EngS w' B b (s.cut d.t) X ds bad G' DE' ∧ Below B w w' ∧ ∀ g, g < w.heap.size → G'.O g = G.O g := by
  have htl := htk.le
  have HO : Hid (∀ g, g < w.heap.size → ({ G with O := newO G.O w.heap.size .none } : EG).O g = G.O g) := fun g hg => newO_old hg
  have HON : Hid (({ G with O := newO G.O w.heap.size .none } : EG).O w.heap.size = .none) := by show newO _ _ _ _ = _; unfold newO; rw [if_neg (Nat.lt_irrefl _)]
  have h := h.reNew .none
  revert h HO HON
  generalize ({ G with O := newO G.O w.heap.size .none } : EG) = G0
  intro HO HON h
  obtain ⟨GX, hGX⟩ : ∃ GX, GX = G := ⟨_, rfl⟩
  rw [← hGX] at HO ⊢
  clear hGX
  obtain ⟨G, rfl⟩ : ∃ G, G = G0 := ⟨_, rfl⟩
  obtain ⟨gd, cd, hDE, hcd, hOd, hBd, d0, d1, d2⟩ := h.topDec
  obtain ⟨gt, ct, hTR, hOt, hBt, hgt, hct, hcellt, _⟩ := h.core.tr.at_ hdt
  have R0 : Hid (Row w b 56 [G.CL, .map (some G.mb), G.VA, G.TR, .int .i64 (s.hd : Int), DE, .bool bad]) := h.row
  have H := Lib.hid h
  have HTK := Lib.hid htk
  have HTR : Hid (∀ _ : Unit, G.TR = .slice (some ⟨gt, 0, none⟩) s.tr.length ct) := fun _ => hTR
  have HDE : Hid (∀ _ : Unit, DE = .slice (some ⟨gd, 0, none⟩) (ds.length + 1) cd) := fun _ => hDE
  have HCT := Lib.hid hcellt
  have k0 := R0.out.cell 0
  have k1 := R0.out.cell 1
  have k2 := R0.out.cell 2
  have k3 := R0.out.cell 3
  have k4 := R0.out.cell 4
  have k5 := R0.out.cell 5
  have k6 := R0.out.cell 6
  have kl := R0.out.lt
  simp only [List.getElem?_cons_zero, List.getElem?_cons_succ] at k0 k1 k2 k3 k4 k5 k6
  rw [hTR] at k3
  rw [hDE] at k5
  have hgd : gd < w.heap.size := World.block_lt_of_cell? w ⟨gd, ds.length * 3, none⟩ d0
  clear h htk hTR hDE hcellt
  go_enter Try.func38, Try.ntmps38
  go_upto_region 3 with fail
  clear k0 k1 k2 k3 k4 k5 k6 kl d0 d1 d2 hgd
  obtain ⟨w1, hW9, RZ, RD, hgr9⟩ : ∃ W, World.alloc (World.alloc w (.cells #[.int .i64 0, .int .i64 0, .bool false] 74)) (.cells #[.int .i64 (d.v : Int), .int .i64 (d.t : Int), .bool d.turned] 74) = W ∧ Row W w.heap.size 74 [.int .i64 0, .int .i64 0, .bool false] ∧ Row W (w.heap.size + 1) 74 [.int .i64 (d.v : Int), .int .i64 (d.t : Int), .bool d.turned] ∧ Below w.heap.size w W :=
    ⟨_, rfl, (Row.new w 74 [.int .i64 0, .int .i64 0, .bool false]).alloc _, rowNew1 w _ 74 [.int .i64 (d.v : Int), .int .i64 (d.t : Int), .bool d.turned], by go_grown⟩
  rewrite [hW9]
  clear hW9
  have E1 := Lib.hid (H.out.below hgr9)
  have RZ1 := Lib.hid RZ
  have RD1 := Lib.hid RD
  have HB1 : Hid (Below B w w1) := hgr9.mono (by have := H.out.row.lt; have := H.out.hb; omega)
  have hbl : b < w.heap.size := H.out.row.lt
  have hgtl := hgt
  clear RZ RD hgr9 R0
  have R1 : Hid (Row w1 b 56 [G.CL, .map (some G.mb), G.VA, G.TR, .int .i64 (s.hd : Int), DE, .bool bad]) := E1.out.row
  have k0 := R1.out.cell 0
  have k1 := R1.out.cell 1
  have k2 := R1.out.cell 2
  have k3 := R1.out.cell 3
  have k4 := R1.out.cell 4
  have k5 := R1.out.cell 5
  have k6 := R1.out.cell 6
  have kl := R1.out.lt
  simp only [List.getElem?_cons_zero, List.getElem?_cons_succ] at k0 k1 k2 k3 k4 k5 k6
  have kf0 := R1.out.frozen 0
  have kf1 := R1.out.frozen 1
  have kf2 := R1.out.frozen 2
  have kf3 := R1.out.frozen 3
  have kf4 := R1.out.frozen 4
  have kf5 := R1.out.frozen 5
  have kf6 := R1.out.frozen 6
  rw [HTR.out ()] at k3
  rw [HDE.out ()] at k5
  have E2 : Hid (EngS (w1.setCell ⟨b, 5, none⟩ (.slice (some ⟨gd, 0, none⟩) ds.length cd)) B b s X ds bad G (.slice (some ⟨gd, 0, none⟩) ds.length cd)) := E1.out.popDec (HDE.out ())
  have RZ2 : Hid (Row (w1.setCell ⟨b, 5, none⟩ (.slice (some ⟨gd, 0, none⟩) ds.length cd)) w.heap.size 74 [.int .i64 0, .int .i64 0, .bool false]) := RZ1.out.far (p := ⟨b, 5, none⟩) (by show w.heap.size ≠ b; omega) _
  have RD2 : Hid (Row (w1.setCell ⟨b, 5, none⟩ (.slice (some ⟨gd, 0, none⟩) ds.length cd)) (w.heap.size + 1) 74 [.int .i64 (d.v : Int), .int .i64 (d.t : Int), .bool d.turned]) := RD1.out.far (p := ⟨b, 5, none⟩) (by show w.heap.size + 1 ≠ b; omega) _
  have HB2 : Hid (Below B w (w1.setCell ⟨b, 5, none⟩ (.slice (some ⟨gd, 0, none⟩) ds.length cd))) := HB1.out.setCell H.out.hb _
  clear E1 RZ1 RD1 HB1
  go_upto_region 4 with fail
  clear k0 k1 k2 k3 k4 k5 k6 kl kf0 kf1 kf2 kf3 kf4 kf5 kf6 R1
  revert E2 RZ2 RD2 HB2
  generalize w1.setCell ⟨b, 5, none⟩ (.slice (some ⟨gd, 0, none⟩) ds.length cd) = w2
  intro E2 RZ2 RD2 HB2
  have R2 : Hid (Row w2 b 56 [G.CL, .map (some G.mb), G.VA, G.TR, .int .i64 (s.hd : Int), .slice (some ⟨gd, 0, none⟩) ds.length cd, .bool bad]) := E2.out.row
  have k0 := R2.out.cell 0
  have k1 := R2.out.cell 1
  have k2 := R2.out.cell 2
  have k3 := R2.out.cell 3
  have k4 := R2.out.cell 4
  have k5 := R2.out.cell 5
  have k6 := R2.out.cell 6
  have kl := R2.out.lt
  simp only [List.getElem?_cons_zero, List.getElem?_cons_succ] at k0 k1 k2 k3 k4 k5 k6
  rw [HTR.out ()] at k3
  have d0 := RD2.out.cell 0
  have d1 := RD2.out.cell 1
  have d2 := RD2.out.cell 2
  have dl := RD2.out.lt
  simp only [List.getElem?_cons_zero, List.getElem?_cons_succ] at d0 d1 d2
  have hcf : (ct = d.t) = False := by simp; omega
  have hdz : (d.t : Int) ≤ (s.tr.length : Int) := by omega
  have hdz0 : (0 : Int) ≤ (d.t : Int) := by omega
  have hle : d.t ≤ s.tr.length := by omega
  go_quiet (fail)
  have E3 : Hid (EngS (w2.drewN nq) B b s X ds bad G (.slice (some ⟨gd, 0, none⟩) ds.length cd)) := E2.out.drewN nq
  have RZ3 : Hid (Row (w2.drewN nq) w.heap.size 74 [.int .i64 0, .int .i64 0, .bool false]) := RZ2.out
  have RD3 : Hid (Row (w2.drewN nq) (w.heap.size + 1) 74 [.int .i64 (d.v : Int), .int .i64 (d.t : Int), .bool d.turned]) := RD2.out
  have HB3 : Hid (Below B w (w2.drewN nq)) := below_drewN HB2.out nq
  clear k0 k1 k2 k3 k4 k5 k6 kl R2 d0 d1 d2 dl E2 RZ2 RD2 HB2 hcf
  revert E3 RZ3 RD3 HB3
  generalize w2.drewN nq = w3
  intro E3 RZ3 RD3 HB3
  obtain ⟨N, hN⟩ : ∃ N, s.tr.length - d.t = N := ⟨_, rfl⟩
  have HN : Hid (∀ _ : Unit, s.tr.length - d.t = N) := fun _ => hN
  rw [hN]
  clear hN
  have hvlen := HTK.out.len
  obtain ⟨gv, cv, hVA, hOv, hBv, hgvl, _⟩ := H.out.core.va.at_ (i := 0) (by omega)
  have HVA : Hid (∀ _ : Unit, G.VA = .slice (some ⟨gv, 0, none⟩) s.va.length cv) := fun _ => hVA
  have HOV : Hid (G.O gv = .vals) := hOv
  clear hVA hOv
  go_wp2_with fail
  go_loopg [6, 37] N (fun gg _ s37 wr => ∃ i : Nat, i ≤ N ∧ N - i ≤ gg ∧ s37 = .int .i64 i ∧ Aside (EngS wr B b { s with va := V.unsetL s.va ((s.tr.drop d.t).take i) } X ds bad G (.slice (some ⟨gd, 0, none⟩) ds.length cd)) ∧ Aside (Row wr w.heap.size 74 [.int .i64 0, .int .i64 0, .bool false]) ∧ Aside (Row wr (w.heap.size + 1) 74 [.int .i64 (d.v : Int), .int .i64 (d.t : Int), .bool d.turned]) ∧ Aside (Below B w wr))
  case atStart => exact ⟨0, Nat.zero_le _, by omega, rfl, E3.out, RZ3.out, RD3.out, HB3.out⟩
  case round =>
    obtain ⟨i, hin, hgg, rfl, h1, h2, h3, h4⟩ := hrel
    have HE := Lib.hid h1
    have RZ := Lib.hid h2
    have RD := Lib.hid h3
    have HB := Lib.hid h4
    clear h1 h2 h3 h4
    have R1 : Hid (Row wr b 56 [G.CL, .map (some G.mb), G.VA, G.TR, .int .i64 (s.hd : Int), .slice (some ⟨gd, 0, none⟩) ds.length cd, .bool bad]) := HE.out.row
    have k0 := R1.out.cell 0
    have k1 := R1.out.cell 1
    have k2 := R1.out.cell 2
    have k3 := R1.out.cell 3
    have k4 := R1.out.cell 4
    have k5 := R1.out.cell 5
    have k6 := R1.out.cell 6
    have kl := R1.out.lt
    simp only [List.getElem?_cons_zero, List.getElem?_cons_succ] at k0 k1 k2 k3 k4 k5 k6
    rw [HTR.out ()] at k3
    rw [HVA.out ()] at k2
    by_cases hlt : i < N
    · have hltz : (i : Int) < (N : Int) := by omega
      have hidx : d.t + i < s.tr.length := by have := HN.out (); omega
      obtain ⟨gt', ct', hTR', _, _, _, _, hcellr, _⟩ := HE.out.core.tr.at_ (i := d.t + i) hidx
      rw [HTR.out ()] at hTR'
      obtain ⟨rfl, rfl⟩ : gt = gt' ∧ ct = ct' := by cases hTR'; exact ⟨rfl, rfl⟩
      obtain ⟨x, hx⟩ : ∃ x, s.tr[d.t + i]? = some x := ⟨_, List.getElem?_eq_getElem hidx⟩
      have z0 : wr.cell? ⟨gt, d.t + i, none⟩ = some (.int .i64 x) := hcellr _ _ (by simp [ints, hx])
      have hxl := HTK.out.lits x (List.mem_of_getElem? hx)
      have HX : Hid (∀ _ : Unit, (s.tr.drop d.t)[i]? = some x) := fun _ => by rw [List.getElem?_drop]; exact hx
      have x1 := hxl.2.1
      have x2 := hxl.2.2
      obtain ⟨q, hq⟩ : ∃ q, x.natAbs = q := ⟨_, rfl⟩
      have HQ : Hid (∀ _ : Unit, x.natAbs = q) := fun _ => hq
      have hmx : max x (-x) = (q : Int) := by omega
      have hwx : IntKind.i64.wrap (-x) = -x := IntWalk.i64_in _ (by omega)
      have hql : q < s.va.length := by omega
      have hqz : (q : Int) < (s.va.length : Int) := by omega
      obtain ⟨gv', cv', hVA', _, _, _, _, hcellv, hfrv⟩ := HE.out.core.va.at_ (i := q) (by show q < (V.unsetL _ _).length; rw [V.unsetL_length]; exact hql)
      rw [HVA.out ()] at hVA'
      have hgve : gv = gv' := by injection hVA' with h _ _; injection h with h; injection h
      subst hgve
      have v0 : ∃ u, wr.cell? ⟨gv, q, none⟩ = some u := ⟨_, hcellv _ _ (i8s_get _ _ (by rw [V.unsetL_length]; exact hql))⟩
      obtain ⟨u, v0⟩ := v0
      have vf : wr.frozen? ⟨gv, q, none⟩ = false := hfrv q
      have E4 : Hid (EngS (wr.setCell ⟨gv, q, none⟩ (.int .i8 0)) B b { s with va := V.unsetL s.va ((s.tr.drop d.t).take (i + 1)) } X ds bad G (.slice (some ⟨gd, 0, none⟩) ds.length cd)) := by
        have h9 := (HE.out.valued (HVA.out ()) (i := q) (by show q < (V.unsetL _ _).length; rw [V.unsetL_length]; exact hql) 0).1
        rw [unset_step _ _ _ _ (HX.out ()), HQ.out ()]
        exact h9
      clear hcellr hTR' hx hxl hq hVA' hcellv hfrv R1
      go_wp2
      go_roundg (N - (i + 1))
      case measure => omega
      case rel => exact ⟨i + 1, by omega, by omega, by go_num, E4.out, RZ.out.far (p := ⟨gv, q, none⟩) (by show w.heap.size ≠ gv; omega) _, RD.out.far (p := ⟨gv, q, none⟩) (by show w.heap.size + 1 ≠ gv; omega) _, HB.out.setCell hBv _⟩
    · have hie : i = N := by omega
      have hltz : ¬ (i : Int) < (N : Int) := by omega
      subst hie
      have d0 := RD.out.cell 0
      have d1 := RD.out.cell 1
      have d2 := RD.out.cell 2
      have dl := RD.out.lt
      simp only [List.getElem?_cons_zero, List.getElem?_cons_succ] at d0 d1 d2
      have r0 := RZ.out.cell 0
      have r1 := RZ.out.cell 1
      have r2 := RZ.out.cell 2
      have rl := RZ.out.lt
      simp only [List.getElem?_cons_zero, List.getElem?_cons_succ] at r0 r1 r2
      have kf0 := R1.out.frozen 0
      have kf1 := R1.out.frozen 1
      have kf2 := R1.out.frozen 2
      have kf3 := R1.out.frozen 3
      have kf4 := R1.out.frozen 4
      have kf5 := R1.out.frozen 5
      have kf6 := R1.out.frozen 6
      have rf0 := RZ.out.frozen 0
      have rf1 := RZ.out.frozen 1
      have rf2 := RZ.out.frozen 2
      have hcut : ({ s with va := V.unsetL s.va ((s.tr.drop d.t).take i), tr := s.tr.take d.t, hd := d.t } : V.En) = s.cut d.t := by
        unfold V.En.cut
        rw [List.take_of_length_le (by have := HN.out (); simp; omega)]
      have HCUT : Hid (∀ _ : Unit, ({ s with va := V.unsetL s.va ((s.tr.drop d.t).take i), tr := s.tr.take d.t, hd := d.t } : V.En) = s.cut d.t) := fun _ => hcut
      have E5 := HE.out.cutTrail (m := d.t) (HTR.out ()) hle
      have E6 := E5.setHd d.t
      have hdc : d.t ≤ ct := by omega
      have hdcz : (d.t : Int) ≤ (ct : Int) := by omega
      have E7 := ((E6.setNone (p := ⟨w.heap.size, 0, none⟩) HON.out (.int .i64 (d.v : Int))).setNone (p := ⟨w.heap.size, 1, none⟩) HON.out (.int .i64 (d.t : Int))).setNone (p := ⟨w.heap.size, 2, none⟩) HON.out (.bool d.turned)
      have RZ7 : Row _ w.heap.size 74 [.int .i64 (d.v : Int), .int .i64 (d.t : Int), .bool d.turned] := ((((RZ.out.far (p := ⟨b, 3, none⟩) (by show w.heap.size ≠ b; omega) (.slice (some ⟨gt, 0, none⟩) d.t ct)).far (p := ⟨b, 4, none⟩) (by show w.heap.size ≠ b; omega) (.int .i64 (d.t : Int))).set 0 (.int .i64 (d.v : Int))).set 1 (.int .i64 (d.t : Int))).set 2 (.bool d.turned)
      have HB7 := ((((HB.out.setCell (p := ⟨b, 3, none⟩) H.out.hb (.slice (some ⟨gt, 0, none⟩) d.t ct)).setCell (p := ⟨b, 4, none⟩) H.out.hb (.int .i64 (d.t : Int))).setCell (p := ⟨w.heap.size, 0, none⟩) (by show B ≤ w.heap.size; have := H.out.hb; omega) (.int .i64 (d.v : Int))).setCell (p := ⟨w.heap.size, 1, none⟩) (by show B ≤ w.heap.size; have := H.out.hb; omega) (.int .i64 (d.t : Int))).setCell (p := ⟨w.heap.size, 2, none⟩) (by show B ≤ w.heap.size; have := H.out.hb; omega) (.bool d.turned)
      have r7 := RZ7.cell 0
      have r8 := RZ7.cell 1
      have r9 := RZ7.cell 2
      simp only [List.getElem?_cons_zero, List.getElem?_cons_succ] at r7 r8 r9
      have HE7 := Lib.hid E7
      have HB8 := Lib.hid HB7
      clear E5 E6 E7 HB7 RZ7 hcut R1
      go_upto_region 9 with fail
      refine wp_region_L (fun w' => w'.cell? ⟨b, 3, none⟩ = some (.slice (some ⟨gt, 0, none⟩) s.tr.length ct) ∧ w'.cell? ⟨w.heap.size + 1, 1, none⟩ = some (.int .i64 (d.t : Int))) [10] (by kernel_rfl) (by exact ⟨k3, d1⟩) (fun hHeld => ?_)
      refine restL_pure (i := 0) (v := ?vt1) rfl (by kernel_rfl) (by kernel_rfl) (by kernel_rfl) (fun _ _ _ h => h) (Or.inl ⟨by rfl, ?yt1⟩) ?rt1
      case yt1 => intro w' hSw; clear hSw; go_simp; try (with_reducible rfl)
      go_simp
      refine restL_pure (i := 1) (v := ?vt2) rfl (by kernel_rfl) (by kernel_rfl) (by kernel_rfl) (fun _ _ _ h => h) (Or.inl ⟨by rfl, ?yt2⟩) ?rt2
      case yt2 => intro w' hSw; clear hSw; go_simp; try (with_reducible rfl)
      go_simp
      refine restL_pure (i := 2) (v := ?vt3) rfl (by kernel_rfl) (by kernel_rfl) (by kernel_rfl) (fun _ _ _ h => h) (Or.inl ⟨by rfl, ?yt3⟩) ?rt3
      case yt3 => intro w' hSw; clear hSw; go_simp; try (with_reducible rfl)
      go_simp
      refine restL_pure (i := 3) (v := ?vt4) rfl (by kernel_rfl) (by kernel_rfl) (by kernel_rfl) (fun _ _ _ h => h) (Or.inl ⟨by rfl, ?yt4⟩) ?rt4
      case yt4 => intro w' hSw; clear hSw; go_simp; try (with_reducible rfl)
      go_simp
      refine restL_pure (i := 5) (v := ?vt5) rfl (by kernel_rfl) (by kernel_rfl) (by kernel_rfl) (fun _ _ _ h => h) (Or.inl ⟨by rfl, ?yt5⟩) ?rt5
      case yt5 => intro w' hSw; clear hSw; go_simp; try (with_reducible rfl)
      go_simp
      refine restL_take (i := 4) (v := ?vt6) [[10]] rfl (by kernel_rfl) (by kernel_rfl) (by kernel_rfl) (by kernel_rfl) (fun _ _ _ h => h) (Or.inl ⟨by rfl, ?yt6⟩) hHeld ?rt6
      case yt6 =>
        intro w' hSw
        obtain ⟨q0, q1⟩ := hSw
        go_simp
        try (with_reducible rfl)
      go_simp
      refine restL_take (i := 6) (v := ?vt7) [[10]] rfl (by kernel_rfl) (by kernel_rfl) (by kernel_rfl) (by kernel_rfl) (fun _ _ _ h => h) (Or.inl ⟨by rfl, ?yt7⟩) hHeld ?rt7
      case yt7 =>
        intro w' hSw
        obtain ⟨q0, q1⟩ := hSw
        go_simp
        try (with_reducible rfl)
      go_simp
      refine restL_take (i := 7) (v := ?vt8) [[10]] rfl (by kernel_rfl) (by kernel_rfl) (by kernel_rfl) (by kernel_rfl) (fun _ _ _ h => h) (Or.inl ⟨by rfl, ?yt8⟩) hHeld ?rt8
      case yt8 =>
        intro w' hSw
        obtain ⟨q0, q1⟩ := hSw
        go_simp
        try (with_reducible rfl)
      go_simp
      refine restL_pure (i := 8) (v := ?vt9) rfl (by kernel_rfl) (by kernel_rfl) (by kernel_rfl) (fun _ _ _ h => h) (Or.inl ⟨by rfl, ?yt9⟩) ?rt9
      case yt9 => intro w' hSw; clear hSw; go_simp; try (with_reducible rfl)
      go_simp
      refine restL_pure (i := 9) (v := ?vt10) rfl (by kernel_rfl) (by kernel_rfl) (by kernel_rfl) (fun _ _ _ h => h) (Or.inl ⟨by rfl, ?yt10⟩) ?rt10
      case yt10 => intro w' hSw; clear hSw; go_simp; try (with_reducible rfl)
      go_simp
      refine restL_one (i := 10) (by kernel_rfl) rfl (fun K hK => ?_)
      go_simp
      refine hK.out _ _ (fun h => absurd h (by decide)) (fun _ => ?_)
      clear hK K
      try go_simp
      refine restL_done (by kernel_rfl) ?_ _
      go_wp2_with fail
      refine bodyPost_ret (v := .agg #[.int .i64 (d.v : Int), .int .i64 (d.t : Int), .bool d.turned]) (by simp [results, Try.results38, go_sem, r7, r8, r9]) rfl ?_
      exact ⟨rfl, { G with TR := .slice (some ⟨gt, 0, none⟩) d.t ct }, ⟨_, HCUT.out () ▸ HE7.out.drew⟩, HB8.out.drew, HO.out⟩
end Go.Proofs.Ytbomfekfebamkaa

/-
  refute's engine: the method undo, walked.
-/
namespace Go.Proofs.Ytbomfekfebamkaa
open Go.RowKit Go.Maps
set_option linter.unusedSimpArgs false
set_option linter.unusedVariables false
/-- The trail is cut (its values were forgotten). -/
theorem EngR.cutTrail {w : World} {B b : Nat} {s : V.En} {X : Int → Prop} {us : List Int} {em : Bool} {G : EG} {US : Value} (h : EngR w B b s X us em G US) {A : Option Addr} {c m : Nat} (hv : G.TR = .slice A s.tr.length c) (hm : m ≤ s.tr.length) :
    EngR (w.setCell ⟨b, 5, none⟩ (.slice A m c)) B b { s with tr := s.tr.take m } X us em { G with TR := .slice A m c } US := by
  have hf : foreign (G.O (⟨b, 5, none⟩ : Addr).block) := by show foreign (G.O b); rw [h.ob]; trivial
  have hc := h.core.set (p := ⟨b, 5, none⟩) hf (.slice A m c)
  have ht := hc.tr
  rw [hv] at ht
  have ht2 := ht.shrink hm
  rw [ints_take] at ht2
  refine ⟨⟨hc.mp, hc.hmb, hc.om, hc.cl, hc.hl, hc.cs, hc.va, ?_, hc.wt⟩, h.row.set 5 _, h.hb, h.ob, h.us.far (by show G.O b ≠ _; rw [h.ob]; nofun) _⟩
  have hlen : (s.tr.take m).length = m := by simp; omega
  show Hd _ _ _ _ _ _ _ (s.tr.take m).length _
  rw [hlen]; exact ht2
set_option maxRecDepth 100000 in
set_option maxHeartbeats 2000000 in
theorem pUndo_any (B b n m : Nat) (s : V.En) (X : Int → Prop) (us : List Int) (em : Bool) (G : EG) (US : Value) (w : World) (h : EngR w B b s X us em G US) (htk : V.TrOk n s.va s.tr) (hn : n ≤ 1000000) (hm : m ≤ s.tr.length) :
    Calls Try.prog 31 #[.pointer (some ⟨b, 0, none⟩), .int .i64 (m : Int)] w fun e w' => e = .returned (.tuple #[]) ∧ ∃ G', EngR w' B b (s.cut m) X us em G' US ∧ KeepN B w w' G G' := by
  have htl := htk.le
  have H := Lib.hid h
  have HTK := Lib.hid htk
  have hle := hm
  have R1 : Hid (Row w b 46 [G.CL, .map (some G.mb), US, .bool em, G.VA, G.TR, .int .i64 (s.hd : Int)]) := h.row
  have k0 := R1.out.cell 0
  have k1 := R1.out.cell 1
  have k2 := R1.out.cell 2
  have k3 := R1.out.cell 3
  have k4 := R1.out.cell 4
  have k5 := R1.out.cell 5
  have k6 := R1.out.cell 6
  have kl := R1.out.lt
  simp only [List.getElem?_cons_zero, List.getElem?_cons_succ] at k0 k1 k2 k3 k4 k5 k6
  have hbl : b < w.heap.size := R1.out.lt
  by_cases hN : m < s.tr.length
  · obtain ⟨gt, ct, hTR, hOt, hBt, hgt, hct, hcellt, _⟩ := h.core.tr.at_ hN
    have HTR : Hid (∀ _ : Unit, G.TR = .slice (some ⟨gt, 0, none⟩) s.tr.length ct) := fun _ => hTR
    rw [hTR] at k5
    have hcf : (ct = m) = False := by simp; omega
    have hdz : (m : Int) ≤ (s.tr.length : Int) := by omega
    have hdz0 : (0 : Int) ≤ (m : Int) := by omega
    have hdc : m ≤ ct := by omega
    have hdcz : (m : Int) ≤ (ct : Int) := by omega
    obtain ⟨N, hNN⟩ : ∃ N, s.tr.length - m = N := ⟨_, rfl⟩
    have HN : Hid (∀ _ : Unit, s.tr.length - m = N) := fun _ => hNN
    have hvlen := htk.len
    obtain ⟨gv, cv, hVA, hOv, hBv, hgvl, _⟩ := h.core.va.at_ (i := 0) (by omega)
    have HVA : Hid (∀ _ : Unit, G.VA = .slice (some ⟨gv, 0, none⟩) s.va.length cv) := fun _ => hVA
    have HOV : Hid (G.O gv = .vals) := hOv
    clear h htk hTR hcellt hVA hOv
    go_enter Try.func31, Try.ntmps31
    go_wp2_with fail
    clear hNN k0 k1 k2 k3 k4 k5 k6 kl R1 hcf
    go_loopg [5, 13] N (fun gg _ s13 wr => ∃ i : Nat, i ≤ N ∧ N - i ≤ gg ∧ s13 = .int .i64 i ∧ Aside (EngR wr B b { s with va := V.unsetL s.va ((s.tr.drop m).take i) } X us em G US) ∧ Aside (Below B w wr) ∧ Aside (∀ q, q < w.heap.size → fre (G.O q) → wr.heap[q]? = w.heap[q]?))
    case atStart => exact ⟨0, Nat.zero_le _, by omega, rfl, H.out, Below.refl _ _, fun _ _ _ => rfl⟩
    case round =>
      obtain ⟨i, hin, hgg, rfl, h1, h4, h5⟩ := hrel
      have HNO := Lib.hid (show ∀ q, q < w.heap.size → fre (G.O q) → wr.heap[q]? = w.heap[q]? from h5)
      have HE := Lib.hid h1
      have HB := Lib.hid h4
      clear h1 h4 h5
      have R1 : Hid (Row wr b 46 [G.CL, .map (some G.mb), US, .bool em, G.VA, G.TR, .int .i64 (s.hd : Int)]) := HE.out.row
      by_cases hlt : i < N
      · skip
        have k0 := R1.out.cell 0
        have k1 := R1.out.cell 1
        have k2 := R1.out.cell 2
        have k3 := R1.out.cell 3
        have k4 := R1.out.cell 4
        have k5 := R1.out.cell 5
        have k6 := R1.out.cell 6
        have kl := R1.out.lt
        simp only [List.getElem?_cons_zero, List.getElem?_cons_succ] at k0 k1 k2 k3 k4 k5 k6
        rw [HTR.out ()] at k5
        rw [HVA.out ()] at k4
        have hltz : (i : Int) < (N : Int) := by omega
        have hidx : m + i < s.tr.length := by have := HN.out (); omega
        obtain ⟨gt', ct', hTR', _, _, _, _, hcellr, _⟩ := HE.out.core.tr.at_ (i := m + i) hidx
        rw [HTR.out ()] at hTR'
        obtain ⟨rfl, rfl⟩ : gt = gt' ∧ ct = ct' := by cases hTR'; exact ⟨rfl, rfl⟩
        obtain ⟨x, hx⟩ : ∃ x, s.tr[m + i]? = some x := ⟨_, List.getElem?_eq_getElem hidx⟩
        have z0 : wr.cell? ⟨gt, m + i, none⟩ = some (.int .i64 x) := hcellr _ _ (by simp [ints, hx])
        have hxl := HTK.out.lits x (List.mem_of_getElem? hx)
        have HX : Hid (∀ _ : Unit, (s.tr.drop m)[i]? = some x) := fun _ => by rw [List.getElem?_drop]; exact hx
        have x1 := hxl.2.1
        have x2 := hxl.2.2
        obtain ⟨q, hq⟩ : ∃ q, x.natAbs = q := ⟨_, rfl⟩
        have HQ : Hid (∀ _ : Unit, x.natAbs = q) := fun _ => hq
        have hmx : max x (-x) = (q : Int) := by omega
        have hwx : IntKind.i64.wrap (-x) = -x := IntWalk.i64_in _ (by omega)
        have hql : q < s.va.length := by omega
        have hqz : (q : Int) < (s.va.length : Int) := by omega
        obtain ⟨gv', cv', hVA', _, _, _, _, hcellv, hfrv⟩ := HE.out.core.va.at_ (i := q) (by show q < (V.unsetL _ _).length; rw [V.unsetL_length]; exact hql)
        rw [HVA.out ()] at hVA'
        have hgve : gv = gv' := by injection hVA' with h _ _; injection h with h; injection h
        subst hgve
        have v0 : ∃ u, wr.cell? ⟨gv, q, none⟩ = some u := ⟨_, hcellv _ _ (i8s_get _ _ (by rw [V.unsetL_length]; exact hql))⟩
        obtain ⟨u, v0⟩ := v0
        have vf : wr.frozen? ⟨gv, q, none⟩ = false := hfrv q
        have E4 : Hid (EngR (wr.setCell ⟨gv, q, none⟩ (.int .i8 0)) B b { s with va := V.unsetL s.va ((s.tr.drop m).take (i + 1)) } X us em G US) := by
          have h9 := (HE.out.valued (HVA.out ()) (i := q) (by show q < (V.unsetL _ _).length; rw [V.unsetL_length]; exact hql) 0).1
          rw [unset_step _ _ _ _ (HX.out ()), HQ.out ()]
          exact h9
        clear hcellr hTR' hx hxl hq hVA' hcellv hfrv R1
        go_wp2
        go_roundg (N - (i + 1))
        case measure => omega
        case rel => exact ⟨i + 1, by omega, by omega, by go_num, E4.out, HB.out.setCell hBv _, fun q hq h0 => (Below.heap_setCell _ _ _ _ (fun e => by have e : q = gv := e; have := HOV.out; rw [← e] at this; rw [this] at h0; exact h0)).trans (HNO.out q hq h0)⟩
      · have hie : i = N := by omega
        have hltz : ¬ (i : Int) < (N : Int) := by omega
        subst hie
        have k0 := R1.out.cell 0
        have k1 := R1.out.cell 1
        have k2 := R1.out.cell 2
        have k3 := R1.out.cell 3
        have k4 := R1.out.cell 4
        have k5 := R1.out.cell 5
        have k6 := R1.out.cell 6
        have kl := R1.out.lt
        simp only [List.getElem?_cons_zero, List.getElem?_cons_succ] at k0 k1 k2 k3 k4 k5 k6
        rw [HTR.out ()] at k5
        have kf0 := R1.out.frozen 0
        have kf1 := R1.out.frozen 1
        have kf2 := R1.out.frozen 2
        have kf3 := R1.out.frozen 3
        have kf4 := R1.out.frozen 4
        have kf5 := R1.out.frozen 5
        have kf6 := R1.out.frozen 6
        have E5 := (HE.out.cutTrail (m := m) (HTR.out ()) hle).setHd m
        have hcut : ({ s with va := V.unsetL s.va ((s.tr.drop m).take i), tr := s.tr.take m, hd := m } : V.En) = s.cut m := by
          unfold V.En.cut
          rw [List.take_of_length_le (by have := HN.out (); simp; omega)]
          try rfl
        have HCUT : Hid (∀ _ : Unit, ({ s with va := V.unsetL s.va ((s.tr.drop m).take i), tr := s.tr.take m, hd := m } : V.En) = s.cut m) := fun _ => hcut
        have HB5 := Lib.hid ((HB.out.setCell (p := ⟨b, 5, none⟩) H.out.hb (.slice (some ⟨gt, 0, none⟩) m ct)).setCell (p := ⟨b, 6, none⟩) H.out.hb (.int .i64 ((m : Nat) : Int)))
        have HE5 := Lib.hid E5
        clear E5 hcut R1
        go_wp2
        refine bodyPost_end (results_none rfl _ _ _) rfl ?_
        exact ⟨rfl, { G with TR := .slice (some ⟨gt, 0, none⟩) m ct }, HCUT.out () ▸ HE5.out, HB5.out, fun _ _ => rfl, fun q hq h0 => ((Below.heap_setCell _ _ _ _ (fun e => by have e : q = b := e; have := H.out.ob; rw [← e] at this; rw [this] at h0; exact h0)).trans (Below.heap_setCell _ _ _ _ (fun e => by have e : q = b := e; have := H.out.ob; rw [← e] at this; rw [this] at h0; exact h0))).trans (HNO.out q hq h0)⟩
  · obtain rfl : m = s.tr.length := by omega
    have HE := H
    have HB : Hid (Below B w w) := Below.refl _ _
    have HNO : Hid (∀ q, q < w.heap.size → fre (G.O q) → w.heap[q]? = w.heap[q]?) := fun _ _ _ => rfl
    have hdz0 : (0 : Int) ≤ (s.tr.length : Int) := by omega
    obtain ⟨A, ct, hTR, hrd⟩ := h.core.tr.rd
    have hct : s.tr.length ≤ ct := by
      rcases h.core.tr.1.2 with ⟨e, e0⟩ | ⟨g, cap, cur, e, h1, h2, h3, _⟩
      · rw [hTR] at e; injection e with _ e1 e2; omega
      · rw [hTR] at e; injection e with _ e1 e2; omega
    have hcz : (s.tr.length : Int) ≤ (ct : Int) := by omega
    have HTR : Hid (∀ _ : Unit, G.TR = .slice A s.tr.length ct) := fun _ => hTR
    rw [hTR] at k5
    cases A with
    | none =>
      obtain ⟨hl0, hc0⟩ : s.tr.length = 0 ∧ ct = 0 := by
        rcases h.core.tr.1.2 with ⟨e, e0⟩ | ⟨g, cap, cur, e, h1, h2, h3, _⟩
        · rw [hTR] at e; injection e with _ e1 e2; exact ⟨by omega, by omega⟩
        · rw [hTR] at e; injection e with e1 _ _; cases e1
      subst hc0
      rw [hl0] at k5 hdz0 hcz ⊢
      have hle : 0 ≤ s.tr.length := Nat.zero_le _
      clear h htk hTR hrd hN
      go_enter Try.func31, Try.ntmps31
      go_upto_region 0 with fail
      go_wp2_with fail
      clear k0 k1 k2 k3 k4 k5 k6 kl R1
      go_loopg [5, 13] 1 (fun gg _ s13 wr => s13 = .int .i64 0 ∧ w = wr)
      case atStart => exact ⟨rfl, rfl⟩
      case round =>
        obtain ⟨rfl, rfl⟩ := hrel
        have R1 : Hid (Row w b 46 [G.CL, .map (some G.mb), US, .bool em, G.VA, G.TR, .int .i64 (s.hd : Int)]) := H.out.row
        have k0 := R1.out.cell 0
        have k1 := R1.out.cell 1
        have k2 := R1.out.cell 2
        have k3 := R1.out.cell 3
        have k4 := R1.out.cell 4
        have k5 := R1.out.cell 5
        have k6 := R1.out.cell 6
        have kl := R1.out.lt
        simp only [List.getElem?_cons_zero, List.getElem?_cons_succ] at k0 k1 k2 k3 k4 k5 k6
        rw [HTR.out ()] at k5
        have kf0 := R1.out.frozen 0
        have kf1 := R1.out.frozen 1
        have kf2 := R1.out.frozen 2
        have kf3 := R1.out.frozen 3
        have kf4 := R1.out.frozen 4
        have kf5 := R1.out.frozen 5
        have kf6 := R1.out.frozen 6
        have E5 := (HE.out.cutTrail (m := 0) (HTR.out ()) hle).setHd 0
        have hcut : ({ s with va := s.va, tr := s.tr.take 0, hd := 0 } : V.En) = s.cut 0 := by
          unfold V.En.cut
          rw [List.drop_eq_nil_of_le (by omega)]
          try rfl
        have HCUT : Hid (∀ _ : Unit, ({ s with va := s.va, tr := s.tr.take 0, hd := 0 } : V.En) = s.cut 0) := fun _ => hcut
        have HB5 := Lib.hid ((HB.out.setCell (p := ⟨b, 5, none⟩) H.out.hb (.slice none 0 0)).setCell (p := ⟨b, 6, none⟩) H.out.hb (.int .i64 ((0 : Nat) : Int)))
        have HE5 := Lib.hid E5
        clear E5 hcut R1
        go_wp2
        refine bodyPost_end (results_none rfl _ _ _) rfl ?_
        exact ⟨rfl, { G with TR := .slice none 0 0 }, HCUT.out () ▸ HE5.out, HB5.out, fun _ _ => rfl, fun q hq h0 => ((Below.heap_setCell _ _ _ _ (fun e => by have e : q = b := e; have := H.out.ob; rw [← e] at this; rw [this] at h0; exact h0)).trans (Below.heap_setCell _ _ _ _ (fun e => by have e : q = b := e; have := H.out.ob; rw [← e] at this; rw [this] at h0; exact h0))).trans rfl⟩
    | some ad =>
      obtain ⟨gt, had⟩ : ∃ gt, ad = ⟨gt, 0, none⟩ := by
        rcases h.core.tr.1.2 with ⟨e, e0⟩ | ⟨g, cap, cur, e, h1, h2, h3, _⟩
        · rw [hTR] at e; injection e with e1 _ _; cases e1
        · rw [hTR] at e; injection e with e1 _ _; injection e1 with e1; exact ⟨_, e1⟩
      subst had
      by_cases hce : ct = s.tr.length
      · have hcf : (ct = s.tr.length) = True := by simp; omega
        clear h htk hTR hrd hN hce
        go_enter Try.func31, Try.ntmps31
        go_upto_region 0 with fail
        go_wp2_with fail
        clear k0 k1 k2 k3 k4 k5 k6 kl R1
        go_loopg [5, 13] 1 (fun gg _ s13 wr => s13 = .int .i64 0 ∧ w = wr)
        case atStart => exact ⟨rfl, rfl⟩
        case round =>
          obtain ⟨rfl, rfl⟩ := hrel
          have R1 : Hid (Row w b 46 [G.CL, .map (some G.mb), US, .bool em, G.VA, G.TR, .int .i64 (s.hd : Int)]) := H.out.row
          have k0 := R1.out.cell 0
          have k1 := R1.out.cell 1
          have k2 := R1.out.cell 2
          have k3 := R1.out.cell 3
          have k4 := R1.out.cell 4
          have k5 := R1.out.cell 5
          have k6 := R1.out.cell 6
          have kl := R1.out.lt
          simp only [List.getElem?_cons_zero, List.getElem?_cons_succ] at k0 k1 k2 k3 k4 k5 k6
          rw [HTR.out ()] at k5
          have kf0 := R1.out.frozen 0
          have kf1 := R1.out.frozen 1
          have kf2 := R1.out.frozen 2
          have kf3 := R1.out.frozen 3
          have kf4 := R1.out.frozen 4
          have kf5 := R1.out.frozen 5
          have kf6 := R1.out.frozen 6
          have E5 := (HE.out.cutTrail (m := s.tr.length) (HTR.out ()) hle).setHd s.tr.length
          have hcut : ({ s with va := s.va, tr := s.tr.take s.tr.length, hd := s.tr.length } : V.En) = s.cut s.tr.length := by
            unfold V.En.cut
            rw [List.drop_eq_nil_of_le (by omega)]
            try rfl
          have HCUT : Hid (∀ _ : Unit, ({ s with va := s.va, tr := s.tr.take s.tr.length, hd := s.tr.length } : V.En) = s.cut s.tr.length) := fun _ => hcut
          have HB5 := Lib.hid ((HB.out.setCell (p := ⟨b, 5, none⟩) H.out.hb (.slice (some ⟨gt, 0, none⟩) s.tr.length ct)).setCell (p := ⟨b, 6, none⟩) H.out.hb (.int .i64 ((s.tr.length : Nat) : Int)))
          have HE5 := Lib.hid E5
          clear E5 hcut R1
          go_wp2
          refine bodyPost_end (results_none rfl _ _ _) rfl ?_
          exact ⟨rfl, { G with TR := .slice (some ⟨gt, 0, none⟩) s.tr.length ct }, HCUT.out () ▸ HE5.out, HB5.out, fun _ _ => rfl, fun q hq h0 => ((Below.heap_setCell _ _ _ _ (fun e => by have e : q = b := e; have := H.out.ob; rw [← e] at this; rw [this] at h0; exact h0)).trans (Below.heap_setCell _ _ _ _ (fun e => by have e : q = b := e; have := H.out.ob; rw [← e] at this; rw [this] at h0; exact h0))).trans rfl⟩
      · have hcf : (ct = s.tr.length) = False := by simp; omega
        clear h htk hTR hrd hN hce
        go_enter Try.func31, Try.ntmps31
        go_upto_region 0 with fail
        go_wp2_with fail
        clear k0 k1 k2 k3 k4 k5 k6 kl R1
        go_loopg [5, 13] 1 (fun gg _ s13 wr => s13 = .int .i64 0 ∧ w = wr)
        case atStart => exact ⟨rfl, rfl⟩
        case round =>
          obtain ⟨rfl, rfl⟩ := hrel
          have R1 : Hid (Row w b 46 [G.CL, .map (some G.mb), US, .bool em, G.VA, G.TR, .int .i64 (s.hd : Int)]) := H.out.row
          have k0 := R1.out.cell 0
          have k1 := R1.out.cell 1
          have k2 := R1.out.cell 2
          have k3 := R1.out.cell 3
          have k4 := R1.out.cell 4
          have k5 := R1.out.cell 5
          have k6 := R1.out.cell 6
          have kl := R1.out.lt
          simp only [List.getElem?_cons_zero, List.getElem?_cons_succ] at k0 k1 k2 k3 k4 k5 k6
          rw [HTR.out ()] at k5
          have kf0 := R1.out.frozen 0
          have kf1 := R1.out.frozen 1
          have kf2 := R1.out.frozen 2
          have kf3 := R1.out.frozen 3
          have kf4 := R1.out.frozen 4
          have kf5 := R1.out.frozen 5
          have kf6 := R1.out.frozen 6
          have E5 := (HE.out.cutTrail (m := s.tr.length) (HTR.out ()) hle).setHd s.tr.length
          have hcut : ({ s with va := s.va, tr := s.tr.take s.tr.length, hd := s.tr.length } : V.En) = s.cut s.tr.length := by
            unfold V.En.cut
            rw [List.drop_eq_nil_of_le (by omega)]
            try rfl
          have HCUT : Hid (∀ _ : Unit, ({ s with va := s.va, tr := s.tr.take s.tr.length, hd := s.tr.length } : V.En) = s.cut s.tr.length) := fun _ => hcut
          have HB5 := Lib.hid ((HB.out.setCell (p := ⟨b, 5, none⟩) H.out.hb (.slice (some ⟨gt, 0, none⟩) s.tr.length ct)).setCell (p := ⟨b, 6, none⟩) H.out.hb (.int .i64 ((s.tr.length : Nat) : Int)))
          have HE5 := Lib.hid E5
          clear E5 hcut R1
          go_wp2
          refine bodyPost_end (results_none rfl _ _ _) rfl ?_
          exact ⟨rfl, { G with TR := .slice (some ⟨gt, 0, none⟩) s.tr.length ct }, HCUT.out () ▸ HE5.out, HB5.out, fun _ _ => rfl, fun q hq h0 => ((Below.heap_setCell _ _ _ _ (fun e => by have e : q = b := e; have := H.out.ob; rw [← e] at this; rw [this] at h0; exact h0)).trans (Below.heap_setCell _ _ _ _ (fun e => by have e : q = b := e; have := H.out.ob; rw [← e] at this; rw [this] at h0; exact h0))).trans rfl⟩
set_option maxRecDepth 100000 in
set_option maxHeartbeats 2000000 in
/-- The same, deferred. -/
theorem pUndoD_any (u : FrameMode) (B b n m : Nat) (s : V.En) (X : Int → Prop) (us : List Int) (em : Bool) (G : EG) (US : Value) (w : World) (h : EngR w B b s X us em G US) (htk : V.TrOk n s.va s.tr) (hn : n ≤ 1000000) (hm : m ≤ s.tr.length) :
    CallsD Try.prog 31 #[.pointer (some ⟨b, 0, none⟩), .int .i64 (m : Int)] u w fun e u' w' => u' = u ∧ e = .returned (.tuple #[]) ∧ ∃ G', EngR w' B b (s.cut m) X us em G' US ∧ KeepN B w w' G G' := by
  have htl := htk.le
  have H := Lib.hid h
  have HTK := Lib.hid htk
  have hle := hm
  have R1 : Hid (Row w b 46 [G.CL, .map (some G.mb), US, .bool em, G.VA, G.TR, .int .i64 (s.hd : Int)]) := h.row
  have k0 := R1.out.cell 0
  have k1 := R1.out.cell 1
  have k2 := R1.out.cell 2
  have k3 := R1.out.cell 3
  have k4 := R1.out.cell 4
  have k5 := R1.out.cell 5
  have k6 := R1.out.cell 6
  have kl := R1.out.lt
  simp only [List.getElem?_cons_zero, List.getElem?_cons_succ] at k0 k1 k2 k3 k4 k5 k6
  have hbl : b < w.heap.size := R1.out.lt
  by_cases hN : m < s.tr.length
  · obtain ⟨gt, ct, hTR, hOt, hBt, hgt, hct, hcellt, _⟩ := h.core.tr.at_ hN
    have HTR : Hid (∀ _ : Unit, G.TR = .slice (some ⟨gt, 0, none⟩) s.tr.length ct) := fun _ => hTR
    rw [hTR] at k5
    have hcf : (ct = m) = False := by simp; omega
    have hdz : (m : Int) ≤ (s.tr.length : Int) := by omega
    have hdz0 : (0 : Int) ≤ (m : Int) := by omega
    have hdc : m ≤ ct := by omega
    have hdcz : (m : Int) ≤ (ct : Int) := by omega
    obtain ⟨N, hNN⟩ : ∃ N, s.tr.length - m = N := ⟨_, rfl⟩
    have HN : Hid (∀ _ : Unit, s.tr.length - m = N) := fun _ => hNN
    have hvlen := htk.len
    obtain ⟨gv, cv, hVA, hOv, hBv, hgvl, _⟩ := h.core.va.at_ (i := 0) (by omega)
    have HVA : Hid (∀ _ : Unit, G.VA = .slice (some ⟨gv, 0, none⟩) s.va.length cv) := fun _ => hVA
    have HOV : Hid (G.O gv = .vals) := hOv
    clear h htk hTR hcellt hVA hOv
    go_enter_d Try.func31, Try.ntmps31
    go_wp2_with fail
    clear hNN k0 k1 k2 k3 k4 k5 k6 kl R1 hcf
    go_loopg [5, 13] N (fun gg _ s13 wr => ∃ i : Nat, i ≤ N ∧ N - i ≤ gg ∧ s13 = .int .i64 i ∧ Aside (EngR wr B b { s with va := V.unsetL s.va ((s.tr.drop m).take i) } X us em G US) ∧ Aside (Below B w wr) ∧ Aside (∀ q, q < w.heap.size → fre (G.O q) → wr.heap[q]? = w.heap[q]?))
    case atStart => exact ⟨0, Nat.zero_le _, by omega, rfl, H.out, Below.refl _ _, fun _ _ _ => rfl⟩
    case round =>
      obtain ⟨i, hin, hgg, rfl, h1, h4, h5⟩ := hrel
      have HNO := Lib.hid (show ∀ q, q < w.heap.size → fre (G.O q) → wr.heap[q]? = w.heap[q]? from h5)
      have HE := Lib.hid h1
      have HB := Lib.hid h4
      clear h1 h4 h5
      have R1 : Hid (Row wr b 46 [G.CL, .map (some G.mb), US, .bool em, G.VA, G.TR, .int .i64 (s.hd : Int)]) := HE.out.row
      by_cases hlt : i < N
      · skip
        have k0 := R1.out.cell 0
        have k1 := R1.out.cell 1
        have k2 := R1.out.cell 2
        have k3 := R1.out.cell 3
        have k4 := R1.out.cell 4
        have k5 := R1.out.cell 5
        have k6 := R1.out.cell 6
        have kl := R1.out.lt
        simp only [List.getElem?_cons_zero, List.getElem?_cons_succ] at k0 k1 k2 k3 k4 k5 k6
        rw [HTR.out ()] at k5
        rw [HVA.out ()] at k4
        have hltz : (i : Int) < (N : Int) := by omega
        have hidx : m + i < s.tr.length := by have := HN.out (); omega
        obtain ⟨gt', ct', hTR', _, _, _, _, hcellr, _⟩ := HE.out.core.tr.at_ (i := m + i) hidx
        rw [HTR.out ()] at hTR'
        obtain ⟨rfl, rfl⟩ : gt = gt' ∧ ct = ct' := by cases hTR'; exact ⟨rfl, rfl⟩
        obtain ⟨x, hx⟩ : ∃ x, s.tr[m + i]? = some x := ⟨_, List.getElem?_eq_getElem hidx⟩
        have z0 : wr.cell? ⟨gt, m + i, none⟩ = some (.int .i64 x) := hcellr _ _ (by simp [ints, hx])
        have hxl := HTK.out.lits x (List.mem_of_getElem? hx)
        have HX : Hid (∀ _ : Unit, (s.tr.drop m)[i]? = some x) := fun _ => by rw [List.getElem?_drop]; exact hx
        have x1 := hxl.2.1
        have x2 := hxl.2.2
        obtain ⟨q, hq⟩ : ∃ q, x.natAbs = q := ⟨_, rfl⟩
        have HQ : Hid (∀ _ : Unit, x.natAbs = q) := fun _ => hq
        have hmx : max x (-x) = (q : Int) := by omega
        have hwx : IntKind.i64.wrap (-x) = -x := IntWalk.i64_in _ (by omega)
        have hql : q < s.va.length := by omega
        have hqz : (q : Int) < (s.va.length : Int) := by omega
        obtain ⟨gv', cv', hVA', _, _, _, _, hcellv, hfrv⟩ := HE.out.core.va.at_ (i := q) (by show q < (V.unsetL _ _).length; rw [V.unsetL_length]; exact hql)
        rw [HVA.out ()] at hVA'
        have hgve : gv = gv' := by injection hVA' with h _ _; injection h with h; injection h
        subst hgve
        have v0 : ∃ u, wr.cell? ⟨gv, q, none⟩ = some u := ⟨_, hcellv _ _ (i8s_get _ _ (by rw [V.unsetL_length]; exact hql))⟩
        obtain ⟨u, v0⟩ := v0
        have vf : wr.frozen? ⟨gv, q, none⟩ = false := hfrv q
        have E4 : Hid (EngR (wr.setCell ⟨gv, q, none⟩ (.int .i8 0)) B b { s with va := V.unsetL s.va ((s.tr.drop m).take (i + 1)) } X us em G US) := by
          have h9 := (HE.out.valued (HVA.out ()) (i := q) (by show q < (V.unsetL _ _).length; rw [V.unsetL_length]; exact hql) 0).1
          rw [unset_step _ _ _ _ (HX.out ()), HQ.out ()]
          exact h9
        clear hcellr hTR' hx hxl hq hVA' hcellv hfrv R1
        go_wp2
        go_roundg (N - (i + 1))
        case measure => omega
        case rel => exact ⟨i + 1, by omega, by omega, by go_num, E4.out, HB.out.setCell hBv _, fun q hq h0 => (Below.heap_setCell _ _ _ _ (fun e => by have e : q = gv := e; have := HOV.out; rw [← e] at this; rw [this] at h0; exact h0)).trans (HNO.out q hq h0)⟩
      · have hie : i = N := by omega
        have hltz : ¬ (i : Int) < (N : Int) := by omega
        subst hie
        have k0 := R1.out.cell 0
        have k1 := R1.out.cell 1
        have k2 := R1.out.cell 2
        have k3 := R1.out.cell 3
        have k4 := R1.out.cell 4
        have k5 := R1.out.cell 5
        have k6 := R1.out.cell 6
        have kl := R1.out.lt
        simp only [List.getElem?_cons_zero, List.getElem?_cons_succ] at k0 k1 k2 k3 k4 k5 k6
        rw [HTR.out ()] at k5
        have kf0 := R1.out.frozen 0
        have kf1 := R1.out.frozen 1
        have kf2 := R1.out.frozen 2
        have kf3 := R1.out.frozen 3
        have kf4 := R1.out.frozen 4
        have kf5 := R1.out.frozen 5
        have kf6 := R1.out.frozen 6
        have E5 := (HE.out.cutTrail (m := m) (HTR.out ()) hle).setHd m
        have hcut : ({ s with va := V.unsetL s.va ((s.tr.drop m).take i), tr := s.tr.take m, hd := m } : V.En) = s.cut m := by
          unfold V.En.cut
          rw [List.take_of_length_le (by have := HN.out (); simp; omega)]
          try rfl
        have HCUT : Hid (∀ _ : Unit, ({ s with va := V.unsetL s.va ((s.tr.drop m).take i), tr := s.tr.take m, hd := m } : V.En) = s.cut m) := fun _ => hcut
        have HB5 := Lib.hid ((HB.out.setCell (p := ⟨b, 5, none⟩) H.out.hb (.slice (some ⟨gt, 0, none⟩) m ct)).setCell (p := ⟨b, 6, none⟩) H.out.hb (.int .i64 ((m : Nat) : Int)))
        have HE5 := Lib.hid E5
        clear E5 hcut R1
        go_wp2
        refine bodyPost_end (results_none rfl _ _ _) rfl ?_
        exact ⟨rfl, { G with TR := .slice (some ⟨gt, 0, none⟩) m ct }, HCUT.out () ▸ HE5.out, HB5.out, fun _ _ => rfl, fun q hq h0 => ((Below.heap_setCell _ _ _ _ (fun e => by have e : q = b := e; have := H.out.ob; rw [← e] at this; rw [this] at h0; exact h0)).trans (Below.heap_setCell _ _ _ _ (fun e => by have e : q = b := e; have := H.out.ob; rw [← e] at this; rw [this] at h0; exact h0))).trans (HNO.out q hq h0)⟩
  · obtain rfl : m = s.tr.length := by omega
    have HE := H
    have HB : Hid (Below B w w) := Below.refl _ _
    have HNO : Hid (∀ q, q < w.heap.size → fre (G.O q) → w.heap[q]? = w.heap[q]?) := fun _ _ _ => rfl
    have hdz0 : (0 : Int) ≤ (s.tr.length : Int) := by omega
    obtain ⟨A, ct, hTR, hrd⟩ := h.core.tr.rd
    have hct : s.tr.length ≤ ct := by
      rcases h.core.tr.1.2 with ⟨e, e0⟩ | ⟨g, cap, cur, e, h1, h2, h3, _⟩
      · rw [hTR] at e; injection e with _ e1 e2; omega
      · rw [hTR] at e; injection e with _ e1 e2; omega
    have hcz : (s.tr.length : Int) ≤ (ct : Int) := by omega
    have HTR : Hid (∀ _ : Unit, G.TR = .slice A s.tr.length ct) := fun _ => hTR
    rw [hTR] at k5
    cases A with
    | none =>
      obtain ⟨hl0, hc0⟩ : s.tr.length = 0 ∧ ct = 0 := by
        rcases h.core.tr.1.2 with ⟨e, e0⟩ | ⟨g, cap, cur, e, h1, h2, h3, _⟩
        · rw [hTR] at e; injection e with _ e1 e2; exact ⟨by omega, by omega⟩
        · rw [hTR] at e; injection e with e1 _ _; cases e1
      subst hc0
      rw [hl0] at k5 hdz0 hcz ⊢
      have hle : 0 ≤ s.tr.length := Nat.zero_le _
      clear h htk hTR hrd hN
      go_enter_d Try.func31, Try.ntmps31
      go_upto_region 0 with fail
      go_wp2_with fail
      clear k0 k1 k2 k3 k4 k5 k6 kl R1
      go_loopg [5, 13] 1 (fun gg _ s13 wr => s13 = .int .i64 0 ∧ w = wr)
      case atStart => exact ⟨rfl, rfl⟩
      case round =>
        obtain ⟨rfl, rfl⟩ := hrel
        have R1 : Hid (Row w b 46 [G.CL, .map (some G.mb), US, .bool em, G.VA, G.TR, .int .i64 (s.hd : Int)]) := H.out.row
        have k0 := R1.out.cell 0
        have k1 := R1.out.cell 1
        have k2 := R1.out.cell 2
        have k3 := R1.out.cell 3
        have k4 := R1.out.cell 4
        have k5 := R1.out.cell 5
        have k6 := R1.out.cell 6
        have kl := R1.out.lt
        simp only [List.getElem?_cons_zero, List.getElem?_cons_succ] at k0 k1 k2 k3 k4 k5 k6
        rw [HTR.out ()] at k5
        have kf0 := R1.out.frozen 0
        have kf1 := R1.out.frozen 1
        have kf2 := R1.out.frozen 2
        have kf3 := R1.out.frozen 3
        have kf4 := R1.out.frozen 4
        have kf5 := R1.out.frozen 5
        have kf6 := R1.out.frozen 6
        have E5 := (HE.out.cutTrail (m := 0) (HTR.out ()) hle).setHd 0
        have hcut : ({ s with va := s.va, tr := s.tr.take 0, hd := 0 } : V.En) = s.cut 0 := by
          unfold V.En.cut
          rw [List.drop_eq_nil_of_le (by omega)]
          try rfl
        have HCUT : Hid (∀ _ : Unit, ({ s with va := s.va, tr := s.tr.take 0, hd := 0 } : V.En) = s.cut 0) := fun _ => hcut
        have HB5 := Lib.hid ((HB.out.setCell (p := ⟨b, 5, none⟩) H.out.hb (.slice none 0 0)).setCell (p := ⟨b, 6, none⟩) H.out.hb (.int .i64 ((0 : Nat) : Int)))
        have HE5 := Lib.hid E5
        clear E5 hcut R1
        go_wp2
        refine bodyPost_end (results_none rfl _ _ _) rfl ?_
        exact ⟨rfl, { G with TR := .slice none 0 0 }, HCUT.out () ▸ HE5.out, HB5.out, fun _ _ => rfl, fun q hq h0 => ((Below.heap_setCell _ _ _ _ (fun e => by have e : q = b := e; have := H.out.ob; rw [← e] at this; rw [this] at h0; exact h0)).trans (Below.heap_setCell _ _ _ _ (fun e => by have e : q = b := e; have := H.out.ob; rw [← e] at this; rw [this] at h0; exact h0))).trans rfl⟩
    | some ad =>
      obtain ⟨gt, had⟩ : ∃ gt, ad = ⟨gt, 0, none⟩ := by
        rcases h.core.tr.1.2 with ⟨e, e0⟩ | ⟨g, cap, cur, e, h1, h2, h3, _⟩
        · rw [hTR] at e; injection e with e1 _ _; cases e1
        · rw [hTR] at e; injection e with e1 _ _; injection e1 with e1; exact ⟨_, e1⟩
      subst had
      by_cases hce : ct = s.tr.length
      · have hcf : (ct = s.tr.length) = True := by simp; omega
        clear h htk hTR hrd hN hce
        go_enter_d Try.func31, Try.ntmps31
        go_upto_region 0 with fail
        go_wp2_with fail
        clear k0 k1 k2 k3 k4 k5 k6 kl R1
        go_loopg [5, 13] 1 (fun gg _ s13 wr => s13 = .int .i64 0 ∧ w = wr)
        case atStart => exact ⟨rfl, rfl⟩
        case round =>
          obtain ⟨rfl, rfl⟩ := hrel
          have R1 : Hid (Row w b 46 [G.CL, .map (some G.mb), US, .bool em, G.VA, G.TR, .int .i64 (s.hd : Int)]) := H.out.row
          have k0 := R1.out.cell 0
          have k1 := R1.out.cell 1
          have k2 := R1.out.cell 2
          have k3 := R1.out.cell 3
          have k4 := R1.out.cell 4
          have k5 := R1.out.cell 5
          have k6 := R1.out.cell 6
          have kl := R1.out.lt
          simp only [List.getElem?_cons_zero, List.getElem?_cons_succ] at k0 k1 k2 k3 k4 k5 k6
          rw [HTR.out ()] at k5
          have kf0 := R1.out.frozen 0
          have kf1 := R1.out.frozen 1
          have kf2 := R1.out.frozen 2
          have kf3 := R1.out.frozen 3
          have kf4 := R1.out.frozen 4
          have kf5 := R1.out.frozen 5
          have kf6 := R1.out.frozen 6
          have E5 := (HE.out.cutTrail (m := s.tr.length) (HTR.out ()) hle).setHd s.tr.length
          have hcut : ({ s with va := s.va, tr := s.tr.take s.tr.length, hd := s.tr.length } : V.En) = s.cut s.tr.length := by
            unfold V.En.cut
            rw [List.drop_eq_nil_of_le (by omega)]
            try rfl
          have HCUT : Hid (∀ _ : Unit, ({ s with va := s.va, tr := s.tr.take s.tr.length, hd := s.tr.length } : V.En) = s.cut s.tr.length) := fun _ => hcut
          have HB5 := Lib.hid ((HB.out.setCell (p := ⟨b, 5, none⟩) H.out.hb (.slice (some ⟨gt, 0, none⟩) s.tr.length ct)).setCell (p := ⟨b, 6, none⟩) H.out.hb (.int .i64 ((s.tr.length : Nat) : Int)))
          have HE5 := Lib.hid E5
          clear E5 hcut R1
          go_wp2
          refine bodyPost_end (results_none rfl _ _ _) rfl ?_
          exact ⟨rfl, { G with TR := .slice (some ⟨gt, 0, none⟩) s.tr.length ct }, HCUT.out () ▸ HE5.out, HB5.out, fun _ _ => rfl, fun q hq h0 => ((Below.heap_setCell _ _ _ _ (fun e => by have e : q = b := e; have := H.out.ob; rw [← e] at this; rw [this] at h0; exact h0)).trans (Below.heap_setCell _ _ _ _ (fun e => by have e : q = b := e; have := H.out.ob; rw [← e] at this; rw [this] at h0; exact h0))).trans rfl⟩
      · have hcf : (ct = s.tr.length) = False := by simp; omega
        clear h htk hTR hrd hN hce
        go_enter_d Try.func31, Try.ntmps31
        go_upto_region 0 with fail
        go_wp2_with fail
        clear k0 k1 k2 k3 k4 k5 k6 kl R1
        go_loopg [5, 13] 1 (fun gg _ s13 wr => s13 = .int .i64 0 ∧ w = wr)
        case atStart => exact ⟨rfl, rfl⟩
        case round =>
          obtain ⟨rfl, rfl⟩ := hrel
          have R1 : Hid (Row w b 46 [G.CL, .map (some G.mb), US, .bool em, G.VA, G.TR, .int .i64 (s.hd : Int)]) := H.out.row
          have k0 := R1.out.cell 0
          have k1 := R1.out.cell 1
          have k2 := R1.out.cell 2
          have k3 := R1.out.cell 3
          have k4 := R1.out.cell 4
          have k5 := R1.out.cell 5
          have k6 := R1.out.cell 6
          have kl := R1.out.lt
          simp only [List.getElem?_cons_zero, List.getElem?_cons_succ] at k0 k1 k2 k3 k4 k5 k6
          rw [HTR.out ()] at k5
          have kf0 := R1.out.frozen 0
          have kf1 := R1.out.frozen 1
          have kf2 := R1.out.frozen 2
          have kf3 := R1.out.frozen 3
          have kf4 := R1.out.frozen 4
          have kf5 := R1.out.frozen 5
          have kf6 := R1.out.frozen 6
          have E5 := (HE.out.cutTrail (m := s.tr.length) (HTR.out ()) hle).setHd s.tr.length
          have hcut : ({ s with va := s.va, tr := s.tr.take s.tr.length, hd := s.tr.length } : V.En) = s.cut s.tr.length := by
            unfold V.En.cut
            rw [List.drop_eq_nil_of_le (by omega)]
            try rfl
          have HCUT : Hid (∀ _ : Unit, ({ s with va := s.va, tr := s.tr.take s.tr.length, hd := s.tr.length } : V.En) = s.cut s.tr.length) := fun _ => hcut
          have HB5 := Lib.hid ((HB.out.setCell (p := ⟨b, 5, none⟩) H.out.hb (.slice (some ⟨gt, 0, none⟩) s.tr.length ct)).setCell (p := ⟨b, 6, none⟩) H.out.hb (.int .i64 ((s.tr.length : Nat) : Int)))
          have HE5 := Lib.hid E5
          clear E5 hcut R1
          go_wp2
          refine bodyPost_end (results_none rfl _ _ _) rfl ?_
          exact ⟨rfl, { G with TR := .slice (some ⟨gt, 0, none⟩) s.tr.length ct }, HCUT.out () ▸ HE5.out, HB5.out, fun _ _ => rfl, fun q hq h0 => ((Below.heap_setCell _ _ _ _ (fun e => by have e : q = b := e; have := H.out.ob; rw [← e] at this; rw [this] at h0; exact h0)).trans (Below.heap_setCell _ _ _ _ (fun e => by have e : q = b := e; have := H.out.ob; rw [← e] at this; rw [this] at h0; exact h0))).trans rfl⟩
end Go.Proofs.Ytbomfekfebamkaa

/-
  slices.Index and slices.Contains at slices of ints.
-/
namespace Go.Proofs.Ytbomfekfebamkaa
open Go.RowKit
set_option linter.unusedSimpArgs false
set_option linter.unusedVariables false
set_option maxHeartbeats 400000 in
theorem index_ints (A : Option Addr) (n c : Nat) (zs : List Int) (x : Int) (w : World) (hr : Rd w w.heap.size 1 A n (ints zs)) (hbig : n ≤ 9223372036854775807) :
    Calls Try.prog 53 #[.slice A n c, .int .i64 x] w fun e w' => e = .returned (.int .i64 (findI (fun y => x == y) zs)) ∧ w' = w := by
  have hl : zs.length = n := by have := hr.1; simpa using this
  have HL : Hid (zs.length = n) := hl
  have HR : Hid (Rd w w.heap.size 1 A n (ints zs)) := hr
  clear hl hr
  go_enter Try.func53, Try.ntmps53
  go_wp2
  go_loopg [5, 8] n (fun gg _ s8 wr => ∃ kk : Nat, kk ≤ n ∧ n - kk ≤ gg ∧ s8 = .int .i64 kk ∧ w = wr ∧ Aside (∀ j, j < kk → (x == zs.getD j 0) = false))
  case atStart => exact ⟨0, Nat.zero_le _, by omega, rfl, rfl, fun j hj => absurd hj (Nat.not_lt_zero _)⟩
  case round =>
    obtain ⟨kk, hkk, hg, rfl, rfl, AA⟩ := hrel
    by_cases hlt : kk < n
    · have hltz : (kk : Int) < (n : Int) := by omega
      obtain ⟨ad, rfl, hb, hcell⟩ := HR.out.int hlt
      generalize hy : zs.getD kk 0 = y at hcell
      have HY : Aside (zs.getD kk 0 = y) := hy
      clear hy
      cases hq : (x == y) with
      | true =>
        have HQ : Hid (∀ _ : Unit, (x == y) = true) := fun _ => hq
        have hd : decide (x = y) = true := by simpa using hq
        go_wp2
        go_ret
        refine ⟨?_, rfl⟩
        rw [findI_hit _ zs kk (by rw [HL.out]; exact hlt) (by simp only [HY.out]; exact HQ.out ()) AA.out]
        rfl
      | false =>
        have HQ : Hid (∀ _ : Unit, (x == y) = false) := fun _ => hq
        have hd : decide (x = y) = false := by simpa using hq
        go_wp2
        go_roundg (n - (kk + 1))
        case measure => omega
        case rel =>
          refine ⟨kk + 1, by omega, by omega, by go_num, rfl, (show Aside _ from fun j hj => ?_)⟩
          by_cases e : j = kk
          · subst e
            rw [HY.out]; exact HQ.out ()
          · exact AA.out j (by omega)
    · have hltz : ¬ (kk : Int) < (n : Int) := by omega
      have : kk = n := by omega
      subst this
      go_wp2
      go_ret
      refine ⟨?_, rfl⟩
      rw [findI_miss _ zs (fun j hj => AA.out j (by rw [HL.out] at hj; exact hj))]
      rfl
set_option maxHeartbeats 400000 in
theorem contains_ints (A : Option Addr) (n c : Nat) (zs : List Int) (x : Int) (w : World) (hr : Rd w w.heap.size 1 A n (ints zs)) (hbig : n ≤ 9223372036854775807) :
    Calls Try.prog 39 #[.slice A n c, .int .i64 x] w fun e w' => e = .returned (.bool (zs.contains x)) ∧ w' = w := by
  have HC := Lib.hid (index_ints A n c zs x w hr hbig)
  have HE : Hid (decide (0 ≤ findI (fun y => x == y) zs) = zs.contains x) := by
    show _ = _
    rw [findI_nonneg, List.contains_eq_any_beq]
  clear hr
  revert HC HE
  generalize findI (fun y => x == y) zs = v
  intro HC HE
  go_enter Try.func39, Try.ntmps39
  go_wp2_with fail
  refine HC.out.mono ?_
  rintro e w' ⟨rfl, rfl⟩
  go_wp2
  go_ret
  rw [← HE.out]
  exact ⟨rfl, rfl⟩
end Go.Proofs.Ytbomfekfebamkaa
