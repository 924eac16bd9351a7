/-
  solve's engine: the method decide, walked.
-/
import Derived.Test.YtbomfekfebamkaaVC10
import Derived.WalkMore
import Derived.ScopeJumps
import Derived.Ground.NamesProg
import Derived.Ground.Names2Prog
import Derived.Shelf.Sort.Plain
import Derived.Shelf.Slices.CompactI
import Derived.Shelf.Slices.In.SortNone
import Derived.Lib.OwnBridge
import Derived.Sort.OwnSortedInts
import Derived.Test.YtbomfekfebamkaaVC4
import Derived.Lib.SliceRun
namespace Go.Proofs.Ytbomfekfebamkaa
open Go.RowKit Go.Maps
set_option linter.unusedSimpArgs false
set_option linter.unusedVariables false
theorem dec_infoV : (Try.prog.info? 74).map (fun i => (i.zero, i.size, i.bytes)) = some (some (.agg #[.int .i64 0, .int .i64 0, .bool false]), 3, 24) := by kernel_rfl
set_option maxRecDepth 100000 in
set_option maxHeartbeats 2000000 in
theorem sDecide_any (B b n : Nat) (s : V.En) (X : Int → Prop) (de : List V.Dec) (bad : Bool) (G : EG) (DE : Value) (x : Int) (tu : Bool) (w : World) (h : EngS w B b s X de bad G DE) (htk : V.TrOk n s.va s.tr) (hn : n ≤ 1000000) (hx : V.lit n x) (hds : de.length ≤ 2000000) :
    Calls Try.prog 28 #[.pointer (some ⟨b, 0, none⟩), .int .i64 x, .bool tu] w fun e w' => e = .returned (.tuple #[]) ∧ ∃ G' DE', EngS w' B b (s.put x) X (⟨x.natAbs, s.tr.length, tu⟩ :: de) bad G' DE' ∧ Below B w w' ∧ ∀ g, g < w.heap.size → G'.O g = G.O g := by
  have htl := htk.le
  have hvl := htk.len
  obtain ⟨AT, ct, hTR, _⟩ := h.core.tr.rd
  have R0 : Hid (Row w b 56 [G.CL, .map (some G.mb), G.VA, G.TR, .int .i64 (s.hd : Int), DE, .bool bad]) := h.row
  have H := Lib.hid h
  have HX := Lib.hid hx
  have x1 := hx.2.1
  have x2 := hx.2.2
  obtain ⟨q, hq⟩ : ∃ q, x.natAbs = q := ⟨_, rfl⟩
  have HQ : Hid (∀ _ : Unit, x.natAbs = q) := fun _ => hq
  rw [hq]
  have hmx : max x (-x) = (q : Int) := by omega
  have hwx : IntKind.i64.wrap (-x) = -x := IntWalk.i64_in _ (by omega)
  have k0 := R0.out.cell 0
  have k1 := R0.out.cell 1
  have k2 := R0.out.cell 2
  have k3 := R0.out.cell 3
  have k4 := R0.out.cell 4
  have k5 := R0.out.cell 5
  have k6 := R0.out.cell 6
  have kl := R0.out.lt
  simp only [List.getElem?_cons_zero, List.getElem?_cons_succ] at k0 k1 k2 k3 k4 k5 k6
  rw [hTR] at k3
  have hbB : B ≤ w.heap.size := by have := h.hb; omega
  clear h htk hTR hx hq
  go_enter Try.func28, Try.ntmps28
  go_upto_region 0 with fail
  refine wp_region_L (fun w' => w'.cell? ⟨b, 5, none⟩ = some DE ∧ w'.cell? ⟨b, 3, none⟩ = some (.slice AT s.tr.length ct)) [17, 18, 19, 20] (by kernel_rfl) (by exact ⟨k5, k3⟩) (fun hHeld => ?_)
  refine restL_pure (i := 0) (v := ?vt1) rfl (by kernel_rfl) (by kernel_rfl) (by kernel_rfl) (fun _ _ _ h => h) (Or.inl ⟨by rfl, ?yt1⟩) ?rt1
  case yt1 => intro w' hSw; clear hSw; go_simp; try (with_reducible rfl)
  go_simp
  refine restL_pure (i := 1) (v := ?vt2) rfl (by kernel_rfl) (by kernel_rfl) (by kernel_rfl) (fun _ _ _ h => h) (Or.inl ⟨by rfl, ?yt2⟩) ?rt2
  case yt2 => intro w' hSw; clear hSw; go_simp; try (with_reducible rfl)
  go_simp
  refine restL_pure (i := 2) (v := ?vt3) rfl (by kernel_rfl) (by kernel_rfl) (by kernel_rfl) (fun _ _ _ h => h) (Or.inl ⟨by rfl, ?yt3⟩) ?rt3
  case yt3 => intro w' hSw; clear hSw; go_simp; try (with_reducible rfl)
  go_simp
  refine restL_pure (i := 3) (v := ?vt4) rfl (by kernel_rfl) (by kernel_rfl) (by kernel_rfl) (fun _ _ _ h => h) (Or.inl ⟨by rfl, ?yt4⟩) ?rt4
  case yt4 => intro w' hSw; clear hSw; go_simp; try (with_reducible rfl)
  go_simp
  refine restL_pure (i := 5) (v := ?vt5) rfl (by kernel_rfl) (by kernel_rfl) (by kernel_rfl) (fun _ _ _ h => h) (Or.inl ⟨by rfl, ?yt5⟩) ?rt5
  case yt5 => intro w' hSw; clear hSw; go_simp; try (with_reducible rfl)
  go_simp
  refine restL_pure (i := 6) (v := ?vt6) rfl (by kernel_rfl) (by kernel_rfl) (by kernel_rfl) (fun _ _ _ h => h) (Or.inl ⟨by rfl, ?yt6⟩) ?rt6
  case yt6 => intro w' hSw; clear hSw; go_simp; try (with_reducible rfl)
  go_simp
  refine restL_pure (i := 7) (v := ?vt7) rfl (by kernel_rfl) (by kernel_rfl) (by kernel_rfl) (fun _ _ _ h => h) (Or.inl ⟨by rfl, ?yt7⟩) ?rt7
  case yt7 => intro w' hSw; clear hSw; go_simp; try (with_reducible rfl)
  go_simp
  refine restL_pure (i := 9) (v := ?vt8) rfl (by kernel_rfl) (by kernel_rfl) (by kernel_rfl) (fun _ _ _ h => h) (Or.inl ⟨by rfl, ?yt8⟩) ?rt8
  case yt8 => intro w' hSw; clear hSw; go_simp; try (with_reducible rfl)
  go_simp
  refine restL_pure (i := 10) (v := ?vt9) rfl (by kernel_rfl) (by kernel_rfl) (by kernel_rfl) (fun _ _ _ h => h) (Or.inl ⟨by rfl, ?yt9⟩) ?rt9
  case yt9 => intro w' hSw; clear hSw; go_simp; try (with_reducible rfl)
  go_simp
  refine restL_pure (i := 11) (v := ?vt10) rfl (by kernel_rfl) (by kernel_rfl) (by kernel_rfl) (fun _ _ _ h => h) (Or.inl ⟨by rfl, ?yt10⟩) ?rt10
  case yt10 => intro w' hSw; clear hSw; go_simp; try (with_reducible rfl)
  go_simp
  refine restL_pure (i := 14) (v := ?vt11) rfl (by kernel_rfl) (by kernel_rfl) (by kernel_rfl) (fun _ _ _ h => h) (Or.inl ⟨by rfl, ?yt11⟩) ?rt11
  case yt11 => intro w' hSw; clear hSw; go_simp; try (with_reducible rfl)
  go_simp
  refine restL_take (i := 4) (v := ?vt12) [[17], [18], [19], [20]] rfl (by kernel_rfl) (by kernel_rfl) (by kernel_rfl) (by kernel_rfl) (fun _ _ _ h => h) (Or.inl ⟨by rfl, ?yt12⟩) hHeld ?rt12
  case yt12 =>
    intro w' hSw
    obtain ⟨q0, q1⟩ := hSw
    go_simp
    try (with_reducible rfl)
  go_simp
  refine restL_take (i := 8) (v := ?vt13) [[17, 16, 15], [18], [19], [20]] rfl (by kernel_rfl) (by kernel_rfl) (by kernel_rfl) (by kernel_rfl) (fun _ _ _ h => h) (Or.inl ⟨by rfl, ?yt13⟩) hHeld ?rt13
  case yt13 =>
    intro w' hSw
    obtain ⟨q0, q1⟩ := hSw
    go_simp
    try (with_reducible rfl)
  go_simp
  refine restL_take (i := 12) (v := ?vt14) [[17, 16, 15, 13], [18], [19], [20]] rfl (by kernel_rfl) (by kernel_rfl) (by kernel_rfl) (by kernel_rfl) (fun _ _ _ h => h) (Or.inl ⟨by rfl, ?yt14⟩) hHeld ?rt14
  case yt14 =>
    intro w' hSw
    obtain ⟨q0, q1⟩ := hSw
    go_simp
    try (with_reducible rfl)
  go_simp
  refine restL_take (i := 13) (v := ?vt15) [[17, 16, 15], [18], [19], [20]] rfl (by kernel_rfl) (by kernel_rfl) (by kernel_rfl) (by kernel_rfl) (fun _ _ _ h => h) (Or.inl ⟨by rfl, ?yt15⟩) hHeld ?rt15
  case yt15 =>
    intro w' hSw
    obtain ⟨q0, q1⟩ := hSw
    go_simp
    try (with_reducible rfl)
  go_simp
  refine restL_pure (i := 15) (v := ?vt16) rfl (by kernel_rfl) (by kernel_rfl) (by kernel_rfl) (fun _ _ _ h => h) (Or.inl ⟨by rfl, ?yt16⟩) ?rt16
  case yt16 => intro w' hSw; clear hSw; go_simp; try (with_reducible rfl)
  go_simp
  refine restL_one (i := 16) (by kernel_rfl) rfl (fun K hK => ?_)
  go_simp
  refine hK.out _ _ (fun _ => ?keep) (fun hHeld => ?_)
  case keep => exact ⟨(World.cell?_alloc_lt _ _ _ kl).trans k5, (World.cell?_alloc_lt _ _ _ kl).trans k3⟩
  have hHeld := hHeld rfl
  clear hK K
  try go_simp
  refine restL_one (i := 17) (by kernel_rfl) rfl (fun K hK => ?_)
  refine step_app rfl (.tmp 10) (.tmp 22) 54 rfl B 74 (.agg #[.int .i64 0, .int .i64 0, .bool false]) 3 24 Try.underlying54 dec_infoV rfl (by decide) (by decide) DE de.length (decCells de.reverse) rfl (H.out.de.1.alloc _) (w.heap.size + 1) (some ⟨w.heap.size, 0, none⟩) 1 1 [.int .i64 (q : Int), .int .i64 (s.tr.length : Int), .bool tu] rfl (Rd.lit w #[.int .i64 (q : Int), .int .i64 (s.tr.length : Int), .bool tu] 74 (sz := 3) (m := 1) rfl) (by intro u hu; simp at hu; rcases hu with rfl | rfl | rfl <;> rfl) (by omega) (by show B ≤ (w.alloc _).heap.size; simp; omega) ?_
  intro v' w8 hown' hgrow' hat'
  obtain ⟨VA', vc', rfl, -⟩ := Rd.own hown'
  obtain ⟨E8, R8, B8, O8⟩ := H.out.pushDec (d := ⟨q, s.tr.length, tu⟩) hown' ⟨hgrow'.os, hgrow'.tape, hgrow'.output, hgrow'.size, hgrow'.block⟩ hat'
  have HE8 := Lib.hid E8
  have HB8 := Lib.hid B8
  have HO8 := Lib.hid O8
  have c5 := R8.cell 5
  have f5 := R8.frozen 5
  simp only [List.getElem?_cons_zero, List.getElem?_cons_succ] at c5
  clear E8 B8 O8 hown' hgrow' hat'
  refine hK.out _ _ (fun h => absurd h (by decide)) (fun _ => ?_)
  clear hK K
  try go_simp
  refine restL_pure (i := 18) (v := ?vt17) rfl (by kernel_rfl) (by kernel_rfl) (by kernel_rfl) (fun _ _ _ h => h) (Or.inl ⟨by rfl, ?yt17⟩) ?rt17
  case yt17 => intro w' hSw; clear hSw; go_simp; try (with_reducible rfl)
  go_simp
  refine restL_pure (i := 19) (v := ?vt18) rfl (by kernel_rfl) (by kernel_rfl) (by kernel_rfl) (fun _ _ _ h => h) (Or.inl ⟨by rfl, ?yt18⟩) ?rt18
  case yt18 => intro w' hSw; clear hSw; go_simp; try (with_reducible rfl)
  go_simp
  refine restL_one (i := 20) (by kernel_rfl) rfl (fun K hK => ?_)
  go_simp
  refine hK.out _ _ (fun h => absurd h (by decide)) (fun _ => ?_)
  clear hK K
  try go_simp
  refine restL_done (by kernel_rfl) ?_ _
  go_wp2_with fail
  refine (sSet_any B b n s X _ bad _ _ x _ HE8.out hn HX.out hvl (by omega)).mono ?_
  rintro e w9 ⟨rfl, G9, hE9, hK9⟩
  have HE9 := Lib.hid hE9
  have HK9 := Lib.hid hK9
  clear hE9 hK9
  go_wp2
  refine bodyPost_end (results_none rfl _ _ _) rfl ?_
  exact ⟨rfl, G9, _, HE9.out, HB8.out.trans HK9.out.below, fun g hg => (HK9.out.own g (Nat.lt_of_lt_of_le hg HB8.out.size)).trans (HO8.out g hg)⟩
end Go.Proofs.Ytbomfekfebamkaa

/-
  solve's engine: the method turn, walked.
-/
namespace Go.Proofs.Ytbomfekfebamkaa
open Go.RowKit Go.Maps
set_option linter.unusedSimpArgs false
set_option linter.unusedVariables false
/-- What turn asks of the decisions. -/
structure DecsOk (n : Nat) (s : V.En) (de : List V.Dec) : Prop where
  tk : V.TrOk n s.va s.tr
  at_ : ∀ d ∈ de, d.t < s.tr.length ∧ 1 ≤ d.v ∧ d.v ≤ n
  srt : de.Pairwise (fun d d' => d'.t < d.t)
theorem DecsOk.cut {n : Nat} {s : V.En} {d : V.Dec} {ds : List V.Dec} (h : DecsOk n s (d :: ds)) : DecsOk n (s.cut d.t) ds := by
  have h1 := h.at_ d (by simp)
  obtain ⟨p1, p2⟩ := List.pairwise_cons.1 h.srt
  refine ⟨h.tk.cut d.t, fun e he => ⟨?_, (h.at_ e (by simp [he])).2⟩, p2⟩
  have := p1 e he
  show e.t < (s.tr.take d.t).length
  simp; omega
def turnB (q : Option (V.En × List V.Dec)) : Bool := q.isSome
set_option maxRecDepth 100000 in
set_option maxHeartbeats 2000000 in
theorem sTurn_any (B b n : Nat) (s : V.En) (X : Int → Prop) (de : List V.Dec) (bad : Bool) (G : EG) (DE : Value) (w : World) (h : EngS w B b s X de bad G DE) (hd : DecsOk n s de) (hn : n ≤ 1000000) (hds : de.length ≤ 2000000) :
    Calls Try.prog 27 #[.pointer (some ⟨b, 0, none⟩), .int .i64 (n : Int)] w fun e w' => e = .returned (.bool (V.turnS de s).isSome) ∧ Below B w w' ∧ ∀ q, V.turnS de s = some q → ∃ G' DE', EngS w' B b q.1 X q.2 bad G' DE' ∧ ∀ g, g < w.heap.size → G'.O g = G.O g := by
  have H := Lib.hid h
  have HD := Lib.hid hd
  clear h hd
  go_enter Try.func27, Try.ntmps27
  go_wp2
  go_loopg [5] de.length (fun gg _ wr => ∃ (de1 : List V.Dec) (s1 : V.En) (G1 : EG) (DE1 : Value), de1.length ≤ gg ∧ de1.length ≤ 2000000 ∧ Aside (V.turnS de s = V.turnS de1 s1 ∧ DecsOk n s1 de1 ∧ EngS wr B b s1 X de1 bad G1 DE1 ∧ Below B w wr ∧ ∀ g, g < w.heap.size → G1.O g = G.O g))
  case atStart => exact ⟨de, s, G, DE, Nat.le_refl _, hds, rfl, HD.out, H.out, Below.refl _ _, fun _ _ => rfl⟩
  case round =>
    obtain ⟨de1, s1, G1, DE1, hgg, hl1, hv⟩ := hrel
    have HV : Hid (V.turnS de s = V.turnS de1 s1 ∧ DecsOk n s1 de1 ∧ EngS wr B b s1 X de1 bad G1 DE1 ∧ Below B w wr ∧ ∀ g, g < w.heap.size → G1.O g = G.O g) := hv
    clear hv
    have R1 : Hid (Row wr b 56 [G1.CL, .map (some G1.mb), G1.VA, G1.TR, .int .i64 (s1.hd : Int), DE1, .bool bad]) := HV.out.2.2.1.row
    have hbB : B ≤ wr.heap.size := Nat.le_trans HV.out.2.2.1.hb (Nat.le_of_lt R1.out.lt)
    have k0 := R1.out.cell 0
    have k1 := R1.out.cell 1
    have k2 := R1.out.cell 2
    have k3 := R1.out.cell 3
    have k4 := R1.out.cell 4
    have k5 := R1.out.cell 5
    have k6 := R1.out.cell 6
    have kl := R1.out.lt
    simp only [List.getElem?_cons_zero, List.getElem?_cons_succ] at k0 k1 k2 k3 k4 k5 k6
    cases de1 with
    | nil =>
      obtain ⟨AD, cd, hDE, _⟩ := HV.out.2.2.1.de.rd
      simp only [List.length_nil] at hDE
      rw [hDE] at k5
      clear hDE hgg hl1
      go_wp2
      go_ret
      rw [HV.out.1]
      exact ⟨rfl, HV.out.2.2.2.1, fun q hq => by simp [V.turnS] at hq⟩
    | cons d ds =>
      obtain ⟨gd, cd, hDE, hcd, _, _, _⟩ := HV.out.2.2.1.topDec
      rw [hDE] at k5
      have hdl : ds.length ≤ 2000000 := by simp at hl1; omega
      simp only [List.length_cons] at hgg
      have hds0 := HV.out.2.1.at_ d (by simp)
      have HC := Lib.hid (sBack_any B b n s1 X d ds bad G1 DE1 wr HV.out.2.2.1 HV.out.2.1.tk hn hds0.1 hdl)
      have hv1 := hds0.2.1
      have hv2 := hds0.2.2
      clear hDE hl1 hds0
      go_wp2_with fail
      refine HC.out.mono ?_
      rintro e w2 ⟨rfl, G2, DE2, hE2, hB2, hO2⟩
      have HE2 := Lib.hid hE2
      have HB2 : Hid (Below B w w2) := HV.out.2.2.2.1.trans hB2
      have HO2 : Hid (∀ g, g < w.heap.size → G2.O g = G.O g) := fun g hg => (hO2 g (Nat.lt_of_lt_of_le hg HV.out.2.2.2.1.size)).trans (HV.out.2.2.2.2 g hg)
      have HRT : Hid (V.turnS de s = V.turnS (d :: ds) s1) := HV.out.1
      have HDO : Hid (DecsOk n (s1.cut d.t) ds) := HV.out.2.1.cut
      have hbB2 : B ≤ w2.heap.size := Nat.le_trans HE2.out.hb (Nat.le_of_lt HE2.out.row.lt)
      clear hE2 hB2 hO2 HC k0 k1 k2 k3 k4 k5 k6 kl R1 HV hbB
      have HE3 : Hid (EngS (w2.alloc (.cells #[.int .i64 (d.v : Int), .int .i64 (d.t : Int), .bool d.turned] 74)) B b (s1.cut d.t) X ds bad G2 DE2) := HE2.out.alloc _
      have HB3 : Hid (Below B w (w2.alloc (.cells #[.int .i64 (d.v : Int), .int .i64 (d.t : Int), .bool d.turned] 74))) := HB2.out.alloc hbB2 _
      cases htu : d.turned with
      | true =>
        have HTU : Hid (d.turned = true) := htu
        rw [htu] at HE3 HB3
        clear htu
        go_wp2
        go_roundg ds.length
        case measure => omega
        case rel =>
          refine ⟨ds, s1.cut d.t, G2, DE2, Nat.le_refl _, hdl, ?_, HDO.out, HE3.out, HB3.out, HO2.out⟩
          rw [HRT.out]
          show (if d.turned then _ else _) = _
          rw [HTU.out]; rfl
      | false =>
        have HTU : Hid (d.turned = false) := htu
        rw [htu] at HE3 HB3
        clear htu
        have hvz : (d.v : Int) ≤ (n : Int) := by omega
        go_wp2_with fail
        have HC := Lib.hid (sDecide_any B b n (s1.cut d.t) X ds bad G2 DE2 (d.v : Int) true _ HE3.out HDO.out.tk hn ⟨by omega, by omega, by omega⟩ hdl)
        refine HC.out.mono ?_
        rintro e w4 ⟨rfl, G4, DE4, hE4, hB4, hO4⟩
        have HE4 := Lib.hid hE4
        have HB4 := Lib.hid (HB3.out.trans hB4)
        have HO4 := Lib.hid hO4
        clear hE4 hB4 hO4 HC
        go_wp2
        go_ret
        have hrun : V.turnS de s = some ((s1.cut d.t).put d.v, ⟨d.v, (s1.cut d.t).tr.length, true⟩ :: ds) := by
          rw [HRT.out]
          show (if d.turned then _ else _) = _
          rw [HTU.out]; rfl
        rw [hrun]
        refine ⟨rfl, HB4.out, fun q hq => ?_⟩
        cases hq
        exact ⟨G4, DE4, HE4.out, fun g hg => (HO4.out g (by have := HB2.out.size; simp; omega)).trans (HO2.out g hg)⟩
end Go.Proofs.Ytbomfekfebamkaa

/-
  solve's engine: the method search, walked (its label and its goto).
-/
namespace Go.Proofs.Ytbomfekfebamkaa
open Go.RowKit Go.Maps
set_option linter.unusedSimpArgs false
set_option linter.unusedVariables false
theorem least_nat {p : Nat → Prop} : (∃ m, p m) → ∃ m, p m ∧ ∀ k, p k → m ≤ k := by
  rintro ⟨m, hm⟩
  induction m using Nat.strongRecOn with
  | ind m ih =>
    rcases Classical.em (∃ k, k < m ∧ p k) with ⟨k, h1, h2⟩ | h
    · exact ih k h1 h2
    · exact ⟨m, hm, fun k hk => Nat.le_of_not_lt (fun hlt => h ⟨k, hlt, hk⟩)⟩
/-- A scope with one label, a ghost number lowered by every pass. -/
theorem wp_scope_ghost {P : Program} {a : Act} {w : World} {Q : Exit → Act → World → Prop} {c rest : Code} (l : Nat) (J : Nat → Act → World → Prop) (hf : findLabel c l = some (Code.skip.seq rest))
    (pass : ∀ m a w, J m a w → rest.wp P (Exit.jump l (fun a' w' => ∃ m', m' < m ∧ J m' a' w') Q) a w)
    (first : (∀ m a w, J m a w → rest.wp P (Exit.jump l (fun a' w' => ∃ m, J m a' w') Q) a w) → c.wp P (Exit.jump l (fun a' w' => ∃ m, J m a' w') Q) a w) : (Code.scope c).wp P Q a w := by
  refine wp_scope_jumps l (fun a w => ∃ m, J m a w) (fun a w => @dite _ (∃ m, J m a w) (Classical.propDecidable _) (fun h => Classical.choose (least_nat h)) (fun _ => 0)) hf (first ?_) ?_
  · intro m a w h
    refine Code.wp_mono ?_ (pass m a w h)
    intro e a' w' q
    cases e with
    | goto l' => obtain ⟨q1, m', _, q3⟩ := q; exact ⟨q1, m', q3⟩
    | _ => exact q
  · intro a w h
    have hm := Classical.choose_spec (least_nat h)
    refine Code.wp_mono ?_ (wp_seq (wp_skip (show Exit.then _ _ _ _ _ from pass _ a w hm.1)))
    intro e a' w' q
    cases e with
    | goto l' =>
      obtain ⟨q1, m', q2, q3⟩ := q
      refine ⟨q1, ⟨m', q3⟩, ?_⟩
      have h' : ∃ m, J m a' w' := ⟨m', q3⟩
      rw [dif_pos h, dif_pos h']
      exact Nat.lt_of_le_of_lt ((Classical.choose_spec (least_nat h')).2 m' q3) q2
    | _ => exact q
theorem least_hit {va : List Int} {n v : Nat} (h1 : 1 ≤ v) (h2 : v ≤ n) (h0 : va.getD v 0 = 0) (hno : ∀ u, 1 ≤ u → u < v → va.getD u 0 ≠ 0) : V.leastU va n = some v := by
  cases hq : V.leastU va n with
  | none => have := V.find_none_range hq v h1 h2; rw [h0] at this; simp at this
  | some u =>
    obtain ⟨u1, u2, u3, u4⟩ := V.find_range hq
    simp only [decide_eq_true_eq] at u3
    rcases Nat.lt_trichotomy u v with h | h | h
    · exact absurd u3 (hno u u1 h)
    · rw [h]
    · have := u4 v h1 h; rw [h0] at this; simp at this
theorem least_miss {va : List Int} {n : Nat} (hno : ∀ u, 1 ≤ u → u ≤ n → va.getD u 0 ≠ 0) : V.leastU va n = none := by
  cases hq : V.leastU va n with
  | none => rfl
  | some u =>
    obtain ⟨u1, u2, u3, _⟩ := V.find_range hq
    simp only [decide_eq_true_eq] at u3
    exact absurd u3 (hno u u1 u2)
theorem decs_le {n : Nat} {F : List (List Int)} {U : List Int} {s : V.En} {de : List V.Dec} (h : V.SInv n F U s de) : de.length ≤ n + 1 := by
  have h1 : (de.map fun d => d.t).Nodup := by
    unfold List.Nodup
    rw [List.pairwise_map]
    exact h.srt.imp fun q e => by omega
  have := V.nodup_le s.tr.length _ h1 (fun x hx => by
    obtain ⟨d, hd, rfl⟩ := List.mem_map.1 hx
    exact (h.dec d hd).lt)
  have h2 := h.wf.tk.le
  simp at this; omega
theorem decsOk_of {n : Nat} {F : List (List Int)} {U : List Int} {s : V.En} {de : List V.Dec} (h : V.SInv n F U s de) {r : V.En × Bool} (hr : V.PropOut n F s r) : DecsOk n r.1 de := by
  obtain ⟨p1, _, _⟩ := h.prop hr
  exact ⟨hr.wf.tk, fun d hd => by obtain ⟨_, q2, q3, q4, _⟩ := p1 d hd; exact ⟨q2, q3, q4⟩, h.srt.imp fun q => q.1⟩
theorem search_run {n f : Nat} {s : V.En} {de : List V.Dec} {r : V.En × Bool} (hr : V.propF (n + 2) s = r) : V.searchF n (f + 1) s de = if r.2 then (match V.leastU r.1.va n with
      | some v => V.searchF n f (r.1.put (-(v : Int))) (⟨v, r.1.tr.length, false⟩ :: de)
      | none => some (r.1, de))
    else match V.turnS de r.1 with
      | none => none
      | some q => V.searchF n f q.1 q.2 := by
  conv => lhs; unfold V.searchF
  rw [hr]
  rfl
theorem search_fuel {n m : Nat} {F : List (List Int)} {U : List Int} {s : V.En} {de : List V.Dec} (h : V.SInv n F U s de) (hf : 3 ^ n ≤ V.PW n de + m) : 1 ≤ m := by
  have := V.PW_bound n de (fun d hd => ⟨(h.dec d hd).v1, (h.dec d hd).vn⟩) h.srt
  have : 0 < 3 ^ (n - V.topV de) := Nat.pow_pos (by decide)
  omega
set_option maxRecDepth 100000 in
set_option maxHeartbeats 4000000 in
theorem sSearch_any (B b n : Nat) (F : List (List Int)) (U : List Int) (s : V.En) (de : List V.Dec) (bad : Bool) (G : EG) (DE : Value) (f0 : Nat) (w : World) (h : EngS w B b s (fun _ => False) de bad G DE) (hS : bad = false → V.SInv n F U s de) (hf0 : 3 ^ n ≤ V.PW n de + f0) (hn : n ≤ 1000000) (hF : F.length ≤ 1000000) (hvl : s.va.length = n + 1) :
    Calls Try.prog 11 #[.pointer (some ⟨b, 0, none⟩)] w fun e w' => e = .returned (.bool (!bad && (V.searchF n f0 s de).isSome)) ∧ Below B w w' ∧ ∀ q, bad = false → V.searchF n f0 s de = some q → ∃ G' DE', EngS w' B b q.1 (fun _ => False) q.2 false G' DE' ∧ ∀ g, g < w.heap.size → G'.O g = G.O g := by
  have R0 : Hid (Row w b 56 [G.CL, .map (some G.mb), G.VA, G.TR, .int .i64 (s.hd : Int), DE, .bool bad]) := h.row
  have H := Lib.hid h
  have HS := Lib.hid hS
  have HF0 := Lib.hid hf0
  obtain ⟨gv, cv, hVA, _⟩ := h.core.va.at_ (i := 0) (by omega)
  have k0 := R0.out.cell 0
  have k1 := R0.out.cell 1
  have k2 := R0.out.cell 2
  have k3 := R0.out.cell 3
  have k4 := R0.out.cell 4
  have k5 := R0.out.cell 5
  have k6 := R0.out.cell 6
  have kl := R0.out.lt
  simp only [List.getElem?_cons_zero, List.getElem?_cons_succ] at k0 k1 k2 k3 k4 k5 k6
  rw [hVA, hvl] at k2
  clear h hS hf0 hVA hvl
  cases bad with
  | true =>
    go_enter Try.func11, Try.ntmps11
    go_wp2
    go_step3
    go_wp2
    simp only [Exit.noGoto]
    go_ret
    exact ⟨rfl, Below.refl _ _, fun q h => by first | cases h | exact absurd h id⟩
  | false =>
    go_enter Try.func11, Try.ntmps11
    go_wp2
    refine wp_scope_ghost 0 (fun m a' wr => ∃ (u4 u5 u6 u7 u8 u9 u10 u11 u12 u13 u14 u15 u16 u17 u18 u19 u20 u21 u22 u23 u24 u25 u26 u27 u28 u29 u30 u31 u32 u33 u34 u35 u36 u37 u38 : Value) (s1 : V.En) (de1 : List V.Dec) (G1 : EG) (DE1 : Value), a' = { tmps := #[.pointer (some ⟨b, 0, none⟩), undef, .bool false, .int .i64 (n : Int), u4, u5, u6, u7, u8, u9, u10, u11, u12, u13, u14, u15, u16, u17, u18, u19, u20, u21, u22, u23, u24, u25, u26, u27, u28, u29, u30, u31, u32, u33, u34, u35, u36, u37, u38], defers := [] } ∧ V.searchF n f0 s de = V.searchF n m s1 de1 ∧ V.SInv n F U s1 de1 ∧ 3 ^ n ≤ V.PW n de1 + m ∧ EngS wr B b s1 (fun _ => False) de1 false G1 DE1 ∧ Below B w wr ∧ ∀ g, g < w.heap.size → G1.O g = G.O g) rfl ?_ ?_
    · rintro m a' wr ⟨u4, u5, u6, u7, u8, u9, u10, u11, u12, u13, u14, u15, u16, u17, u18, u19, u20, u21, u22, u23, u24, u25, u26, u27, u28, u29, u30, u31, u32, u33, u34, u35, u36, u37, u38, s1, de1, G1, DE1, rfl, hv⟩
      have HV : Hid (V.searchF n f0 s de = V.searchF n m s1 de1 ∧ V.SInv n F U s1 de1 ∧ 3 ^ n ≤ V.PW n de1 + m ∧ EngS wr B b s1 (fun _ => False) de1 false G1 DE1 ∧ Below B w wr ∧ ∀ g, g < w.heap.size → G1.O g = G.O g) := hv
      clear hv H HS HF0 k0 k1 k2 k3 k4 k5 k6 kl R0
      have hds := decs_le HV.out.2.1
      have hm1 := search_fuel HV.out.2.1 HV.out.2.2.1
      obtain ⟨m, rfl⟩ : ∃ m', m = m' + 1 := ⟨m - 1, by omega⟩
      go_wp2_with fail
      with_reducible refine (sProp_any B b n F s1 de1 false G1 DE1 _ HV.out.2.2.2.1 HV.out.2.1.wf HV.out.2.1.two hn hF).mono ?_
      rintro e w2 ⟨rfl, G2, hE2, hB2, hO2⟩
      have hP2 := V.prop_spec (n := n) (F := F) (n + 2) s1 HV.out.2.1.wf HV.out.2.1.two (by omega)
      have hR2 : ∀ _ : Unit, V.searchF n (m + 1) s1 de1 = _ := fun _ => search_run rfl
      have HP2 := Lib.hid hP2
      have HE2 := Lib.hid hE2
      have HB2 := Lib.hid hB2
      have HO2 := Lib.hid hO2
      have HR2 := Lib.hid hR2
      clear hE2 hB2 hO2 hP2 hR2
      revert HP2 HE2 HR2
      generalize V.propF (n + 2) s1 = r
      intro HP2 HE2 HR2
      obtain ⟨r1, r2⟩ := r
      have hrok : DecsOk n r1 de1 := decsOk_of HV.out.2.1 HP2.out
      have HRO := Lib.hid hrok
      have hE2' : EngS w2 B b r1 (fun _ => False) de1 false G2 DE1 := HE2.out
      clear hrok HE2
      have HE2 := Lib.hid hE2'
      clear hE2'
      cases r2 with
      | false =>
        have HT := Lib.hid (HV.out.2.1.turn HP2.out rfl)
        have HR3 : Hid (∀ _ : Unit, V.searchF n (m + 1) s1 de1 = match V.turnS de1 r1 with | none => none | some q => V.searchF n m q.1 q.2) := fun _ => (HR2.out ()).trans rfl
        clear HR2
        go_wp2_with fail
        with_reducible refine (sTurn_any B b n r1 (fun _ => False) de1 false G2 DE1 _ HE2.out HRO.out hn (by omega)).mono ?_
        rintro e w3 ⟨rfl, hB3, hq3⟩
        have HB3 := Lib.hid ((HV.out.2.2.2.2.1.trans HB2.out).trans hB3)
        have HQ3 := Lib.hid hq3
        clear hB3 hq3
        revert HT HR3 HQ3
        generalize V.turnS de1 r1 = q
        intro HT HR3 HQ3
        cases q with
        | none =>
          go_wp2
          simp only [Exit.noGoto, Exit.jump]
          go_ret
          have hrun : V.searchF n f0 s de = none := HV.out.1.trans (HR3.out ())
          rw [hrun]
          exact ⟨rfl, HB3.out, fun q _ h => by cases h⟩
        | some q =>
          go_wp2
          go_step3
          obtain ⟨G3, DE3, hE3, hO3⟩ := HQ3.out q rfl
          refine ⟨rfl, m, by omega, _,_,_,_,_,_,_,_,_,_,_,_,_,_,_,_,_,_,_,_,_,_,_,_,_,_,_,_,_,_,_,_,_,_,_, q.1, q.2, G3, DE3, rfl, HV.out.1.trans (HR3.out ()), HT.out.1, ?_, hE3, HB3.out, fun g hg => ?_⟩
          · have := HT.out.2; have := HV.out.2.2.1; omega
          · exact ((hO3 g (by have := HB2.out.size; have := HV.out.2.2.2.2.1.size; omega)).trans (HO2.out g (by have := HV.out.2.2.2.2.1.size; omega))).trans (HV.out.2.2.2.2.2 g hg)
      | true =>
        have HR3 : Hid (∀ _ : Unit, V.searchF n (m + 1) s1 de1 = match V.leastU r1.va n with | some v => V.searchF n m (r1.put (-(v : Int))) (⟨v, r1.tr.length, false⟩ :: de1) | none => some (r1, de1)) := fun _ => (HR2.out ()).trans rfl
        clear HR2
        have R2 : Hid (Row w2 b 56 [G2.CL, .map (some G2.mb), G2.VA, G2.TR, .int .i64 (r1.hd : Int), DE1, .bool false]) := HE2.out.row
        have k0 := R2.out.cell 0
        have k1 := R2.out.cell 1
        have k2 := R2.out.cell 2
        have k3 := R2.out.cell 3
        have k4 := R2.out.cell 4
        have k5 := R2.out.cell 5
        have k6 := R2.out.cell 6
        have kl := R2.out.lt
        simp only [List.getElem?_cons_zero, List.getElem?_cons_succ] at k0 k1 k2 k3 k4 k5 k6
        obtain ⟨gv, cv, hVA, _, _, _, hcv, hcell, _⟩ := HE2.out.core.va.at_ (i := 0) (by have := HRO.out.tk.len; omega)
        have hvl := HRO.out.tk.len
        have HCE : Hid (∀ u : Nat, u ≤ n → w2.cell? ⟨gv, u, none⟩ = some (.int .i8 (r1.va.getD u 0))) := fun u hu => hcell _ _ (i8s_get _ _ (by omega))
        rw [hVA, hvl] at k2
        clear hcell hVA k0 k1 k3 k4 k5 k6 kl R2
        go_wp2
        go_loopg [4] (n + 1) (fun gg s4 wr => ∃ v : Nat, 1 ≤ v ∧ v ≤ n + 1 ∧ n + 1 - v ≤ gg ∧ s4 = .int .i64 (v : Int) ∧ wr = w2 ∧ Aside (∀ u, 1 ≤ u → u < v → r1.va.getD u 0 ≠ 0))
        case atStart => exact ⟨1, Nat.le_refl _, by omega, by omega, rfl, rfl, fun u h1 h2 => by omega⟩
        case round =>
          obtain ⟨v, hv1, hv2, hgg, rfl, rfl, hno⟩ := hrel
          have HNO : Hid (∀ u, 1 ≤ u → u < v → r1.va.getD u 0 ≠ 0) := hno
          clear hno
          by_cases hvn : v ≤ n
          · have hvz : (v : Int) ≤ (n : Int) := by omega
            have hvl' : (v : Int).toNat = v := by omega
            have z0 := HCE.out v hvn
            generalize hu : r1.va.getD v 0 = uu at z0
            have HU := Lib.hid hu
            clear hu
            by_cases h0 : uu = 0
            · subst h0
              have HL : Hid (V.leastU r1.va n = some v) := least_hit hv1 hvn HU.out HNO.out
              have HDE := Lib.hid (HV.out.2.1.decide HP2.out rfl HL.out)
              have hlv : V.lit n (-(v : Int)) := ⟨by omega, by omega, by omega⟩
              have HLV := Lib.hid hlv
              clear hlv
              have hnw : IntKind.i64.wrap (-(v : Int)) = -(v : Int) := IntWalk.i64_in _ (by omega)
              have HC := Lib.hid (sDecide_any B b n r1 (fun _ => False) de1 false G2 DE1 (-(v : Int)) false _ HE2.out HRO.out.tk hn HLV.out (by omega))
              have HB02 := Lib.hid (HV.out.2.2.2.2.1.trans HB2.out)
              go_wp2_with fail
              refine HC.out.mono ?_
              rintro e w3 ⟨rfl, G3, DE3, hE3, hB3, hO3⟩
              have HE3 := Lib.hid hE3
              have HB3 := Lib.hid (HB02.out.trans hB3)
              have HO3 := Lib.hid hO3
              clear hE3 hB3 hO3
              go_wp2
              go_step3
              refine ⟨rfl, m, by omega, _,_,_,_,_,_,_,_,_,_,_,_,_,_,_,_,_,_,_,_,_,_,_,_,_,_,_,_,_,_,_,_,_,_,_, _, _, G3, DE3, rfl, HV.out.1.trans ((HR3.out ()).trans (by rw [HL.out])), HDE.out.1, ?_, ?_, HB3.out, fun g hg => ?_⟩
              · have := HDE.out.2; have := HV.out.2.2.1; omega
              · have h9 := HE3.out; rwa [show (-(v : Int)).natAbs = v by omega] at h9
              · exact ((HO3.out g (by have := HB2.out.size; have := HV.out.2.2.2.2.1.size; omega)).trans (HO2.out g (by have := HV.out.2.2.2.2.1.size; omega))).trans (HV.out.2.2.2.2.2 g hg)
            · go_wp2
              go_roundg (n - v)
              case measure => omega
              case rel =>
                refine ⟨v + 1, by omega, by omega, by omega, by simp, rfl, fun u h1 h2 => ?_⟩
                rcases Nat.lt_or_ge u v with h | h
                · exact HNO.out u h1 h
                · have : u = v := by omega
                  rw [this, HU.out]; exact h0
          · have hvz : ¬ (v : Int) ≤ (n : Int) := by omega
            go_wp2
            simp only [Exit.noGoto, Exit.jump]
            go_ret
            have hrun : V.searchF n f0 s de = some (r1, de1) := HV.out.1.trans ((HR3.out ()).trans (by rw [least_miss (fun u h1 h2 => HNO.out u h1 (by omega))]))
            rw [hrun]
            refine ⟨rfl, HV.out.2.2.2.2.1.trans HB2.out, fun q _ h => ?_⟩
            cases h
            exact ⟨G2, DE1, HE2.out, fun g hg => (HO2.out g (by have := HV.out.2.2.2.2.1.size; omega)).trans (HV.out.2.2.2.2.2 g hg)⟩
    · intro hpass
      have HP := Lib.hid hpass
      clear hpass
      go_wp2
      go_step3
      simp only [Exit.then]
      rename_i K hK
      exact hK _ _ (HP.out f0 _ _ ⟨_,_,_,_,_,_,_,_,_,_,_,_,_,_,_,_,_,_,_,_,_,_,_,_,_,_,_,_,_,_,_,_,_,_,_, s, de, G, DE, rfl, rfl, HS.out (by first | exact rfl | trivial), HF0.out, H.out, Below.refl _ _, fun _ _ => rfl⟩)
end Go.Proofs.Ytbomfekfebamkaa

/-
  The library's Sort and Compact at a slice of ints: the shelf's contracts at this program (plain text).
-/
namespace Go.Proofs.Ytbomfekfebamkaa
open Go.RowKit Go.Maps Go.Shelf Go.Sort
set_option linter.unusedSimpArgs false
set_option linter.unusedVariables false
def laysS_ren : Go.Shelf.Ren := ⟨fun | 189 => 22 | 125 => 36 | 257 => 35 | 128 => 49 | 129 => 50 | 294 => 40 | 295 => 41 | 296 => 42 | 297 => 43 | 298 => 44 | 299 => 45 | 216 => 46 | 300 => 47 | 301 => 48 | 328 => 54 | 329 => 55 | 330 => 56 | 331 => 57 | 332 => 58 | 215 => 59 | 343 => 60 | n => n, fun | 28 => 26 | 3 => 3 | 46 => 72 | 0 => 0 | 51 => 87 | 53 => 89 | 4 => 4 | 183 => 79 | 182 => 78 | 131 => 84 | 5 => 5 | 9 => 9 | 218 => 92 | 222 => 96 | 228 => 98 | 229 => 99 | n => n, fun | n => n⟩
theorem laysS : Lays.n189 Try.prog laysS_ren := {
  mixed := by kernel_rfl,
  f125 := Try.func36.trans (congrArg some (by kernel_rfl)),
  f128 := Try.func49.trans (congrArg some (by kernel_rfl)),
  f129 := Try.func50.trans (congrArg some (by kernel_rfl)),
  f189 := Try.func22.trans (congrArg some (by kernel_rfl)),
  f215 := Try.func59.trans (congrArg some (by kernel_rfl)),
  f216 := Try.func46.trans (congrArg some (by kernel_rfl)),
  f257 := Try.func35.trans (congrArg some (by kernel_rfl)),
  f294 := Try.func40.trans (congrArg some (by kernel_rfl)),
  f295 := Try.func41.trans (congrArg some (by kernel_rfl)),
  f296 := Try.func42.trans (congrArg some (by kernel_rfl)),
  f297 := Try.func43.trans (congrArg some (by kernel_rfl)),
  f298 := Try.func44.trans (congrArg some (by kernel_rfl)),
  f299 := Try.func45.trans (congrArg some (by kernel_rfl)),
  f300 := Try.func47.trans (congrArg some (by kernel_rfl)),
  f301 := Try.func48.trans (congrArg some (by kernel_rfl)),
  f328 := Try.func54.trans (congrArg some (by kernel_rfl)),
  f329 := Try.func55.trans (congrArg some (by kernel_rfl)),
  f330 := Try.func56.trans (congrArg some (by kernel_rfl)),
  f331 := Try.func57.trans (congrArg some (by kernel_rfl)),
  f332 := Try.func58.trans (congrArg some (by kernel_rfl)),
  f343 := Try.func60.trans (congrArg some (by kernel_rfl)),
  t0 := Try.underlying0,
  a0 := Try.isAgg0,
  z0 := Try.sizeOf0,
  v0 := Try.zeroValue0,
  t3 := Try.underlying3,
  a3 := Try.isAgg3,
  z3 := Try.sizeOf3,
  v3 := Try.zeroValue3,
  t4 := Try.underlying4,
  a4 := Try.isAgg4,
  z4 := Try.sizeOf4,
  v4 := Try.zeroValue4,
  t5 := Try.underlying5,
  a5 := Try.isAgg5,
  z5 := Try.sizeOf5,
  v5 := Try.zeroValue5,
  t9 := Try.underlying9,
  a9 := Try.isAgg9,
  z9 := Try.sizeOf9,
  v9 := Try.zeroValue9,
  t28 := Try.underlying26,
  a28 := Try.isAgg26,
  z28 := Try.sizeOf26,
  v28 := Try.zeroValue26,
  t46 := Try.underlying72,
  a46 := Try.isAgg72,
  z46 := Try.sizeOf72,
  v46 := Try.zeroValue72,
  t51 := Try.underlying87,
  a51 := Try.isAgg87,
  z51 := Try.sizeOf87,
  v51 := Try.zeroValue87,
  t53 := Try.underlying89,
  a53 := Try.isAgg89,
  z53 := Try.sizeOf89,
  v53 := Try.zeroValue89,
  t131 := Try.underlying84,
  a131 := Try.isAgg84,
  z131 := Try.sizeOf84,
  v131 := Try.zeroValue84,
  t182 := Try.underlying78,
  a182 := Try.isAgg78,
  z182 := Try.sizeOf78,
  v182 := Try.zeroValue78,
  t183 := Try.underlying79,
  a183 := Try.isAgg79,
  z183 := Try.sizeOf79,
  v183 := Try.zeroValue79,
  t218 := Try.underlying92,
  a218 := Try.isAgg92,
  z218 := Try.sizeOf92,
  v218 := Try.zeroValue92,
  t222 := Try.underlying96,
  a222 := Try.isAgg96,
  z222 := Try.sizeOf96,
  v222 := Try.zeroValue96,
  t228 := Try.underlying98,
  a228 := Try.isAgg98,
  z228 := Try.sizeOf98,
  v228 := Try.zeroValue98,
  t229 := Try.underlying99,
  a229 := Try.isAgg99,
  z229 := Try.sizeOf99,
  v229 := Try.zeroValue99 }
def laysK_ren : Go.Shelf.Ren := ⟨fun | 20 => 23 | n => n, fun | 22 => 26 | 3 => 3 | 4 => 4 | 0 => 0 | n => n, fun | n => n⟩
theorem laysK : Lays2.n20 Try.prog laysK_ren := {
  mixed := by kernel_rfl,
  f20 := Try.func23.trans (congrArg some (by kernel_rfl)),
  t0 := Try.underlying0,
  a0 := Try.isAgg0,
  z0 := Try.sizeOf0,
  v0 := Try.zeroValue0,
  t3 := Try.underlying3,
  a3 := Try.isAgg3,
  z3 := Try.sizeOf3,
  v3 := Try.zeroValue3,
  t4 := Try.underlying4,
  a4 := Try.isAgg4,
  z4 := Try.sizeOf4,
  v4 := Try.zeroValue4,
  t22 := Try.underlying26,
  a22 := Try.isAgg26,
  z22 := Try.sizeOf26,
  v22 := Try.zeroValue26,
  i3 := by kernel_rfl }
theorem sSort_any (blk cap : Nat) (zs : List Int) (w : World) (hH : Holds (Value.int .i64) w blk 0 zs.toArray) (hblk : blk < w.heap.size) (hsz : zs.length < 4611686018427387904) :
    Calls Try.prog 22 #[.slice (some ⟨blk, 0, none⟩) zs.length cap] w fun e w' =>
      e = .returned (.tuple #[]) ∧ ∃ n os, w' = grow (putRow (Value.int .i64) (Sort.ahead w n) blk 0 (zs.mergeSort fun x y => decide (x ≤ y)).toArray) os := by
  have h := Any.slices_Sort_int laysS blk 0 cap zs w hH hblk hsz
  exact h
theorem sCompact_any (blk cap : Nat) (zs : List Int) (w : World) (hH : Holds (Value.int .i64) w blk 0 zs.toArray) (hsz : zs.length ≤ 9223372036854775807) (hcap : zs.length ≤ cap) :
    Calls Try.prog 23 #[.slice (some ⟨blk, 0, none⟩) zs.length cap] w fun e w' => e = .returned (.slice (some ⟨blk, 0, none⟩) (Lib.compact zs).length cap) ∧ ∃ q, w' = putRow (Value.int .i64) (Sort.ahead w q) blk 0 (Lib.compact zs ++ List.replicate (zs.length - (Lib.compact zs).length) 0).toArray := by
  have h := Any.slices_Compact_int laysK blk 0 cap zs w hH hsz hcap
  exact h
theorem sCompact_nil (a : Option Addr) (cap : Nat) (w : World) :
    Calls Try.prog 23 #[.slice a 0 cap] w fun e w' => e = .returned (.slice a 0 cap) ∧ w' = w := by
  have h := Any.slices_Compact_int_empty laysK a cap w
  exact h
end Go.Proofs.Ytbomfekfebamkaa

/-
  The normal form of a clause (Sort, then Compact): the same members, no two alike. No program in sight.
-/
namespace Go.Proofs.Ytbomfekfebamkaa
set_option linter.unusedSimpArgs false
set_option linter.unusedVariables false
/-- The literals of a clause in ascending order, each once. -/
def nrmI (c : List Int) : List Int := Lib.compact (c.mergeSort fun x y => decide (x ≤ y))
theorem nrm_aux (d : Array Int) (hs : ∀ i j, i < j → j < d.size → d[i]! ≤ d[j]!) : ∀ m, m ≤ d.size → (Lib.compactUpTo d m).Pairwise (· < ·) ∧ ∀ x, x ∈ Lib.compactUpTo d m ↔ ∃ j, j < m ∧ d[j]! = x
  | 0, _ => ⟨by simp [Lib.compactUpTo], fun x => by simp [Lib.compactUpTo]⟩
  | m + 1, hm => by
    obtain ⟨h1, h2⟩ := nrm_aux d hs m (by omega)
    rw [Lib.compactUpTo_succ]
    by_cases h : m = 0 ∨ d[m]! ≠ d[m - 1]!
    · have hk : Lib.keeps d m = true := by simp only [Lib.keeps, decide_eq_true_eq]; exact h
      rw [hk, if_pos rfl]
      refine ⟨List.pairwise_append.2 ⟨h1, by simp, fun y hy z hz => ?_⟩, fun x => ?_⟩
      · rw [List.mem_singleton] at hz
        subst hz
        obtain ⟨j, hj, rfl⟩ := (h2 y).1 hy
        rcases h with h | h
        · omega
        · have h3 := hs (m - 1) m (by omega) (by omega)
          by_cases hjm : j = m - 1
          · subst hjm; omega
          · have := hs j (m - 1) (by omega) (by omega); omega
      · rw [List.mem_append, h2, List.mem_singleton]
        constructor
        · rintro (⟨j, hj, e⟩ | e)
          · exact ⟨j, by omega, e⟩
          · exact ⟨m, by omega, e.symm⟩
        · rintro ⟨j, hj, e⟩
          by_cases hjm : j = m
          · subst hjm; exact .inr e.symm
          · exact .inl ⟨j, by omega, e⟩
    · have hk : Lib.keeps d m = false := by simp only [Lib.keeps, decide_eq_false_iff_not]; exact h
      rw [hk]
      simp only [Bool.false_eq_true, if_false, List.append_nil]
      have h3 : m ≠ 0 ∧ d[m]! = d[m - 1]! := by
        constructor
        · intro q; exact h (.inl q)
        · exact Classical.byContradiction fun q => h (.inr q)
      refine ⟨h1, fun x => ?_⟩
      rw [h2]
      constructor
      · rintro ⟨j, hj, e⟩; exact ⟨j, by omega, e⟩
      · rintro ⟨j, hj, e⟩
        by_cases hjm : j = m
        · subst hjm; exact ⟨j - 1, by omega, by rw [← h3.2]; exact e⟩
        · exact ⟨j, by omega, e⟩
theorem nrm_both (c : List Int) : (nrmI c).Pairwise (· < ·) ∧ ∀ x, x ∈ nrmI c ↔ x ∈ c := by
  have hp := List.mergeSort_perm c fun x y => decide (x ≤ y)
  have hs := List.pairwise_mergeSort (le := fun x y : Int => decide (x ≤ y)) (fun a b c h1 h2 => by simp only [decide_eq_true_eq] at *; omega) (fun a b => by simp only [Bool.or_eq_true, decide_eq_true_eq]; omega) c
  unfold nrmI Lib.compact
  generalize (c.mergeSort fun x y => decide (x ≤ y)) = s at *
  rw [List.pairwise_iff_getElem] at hs
  obtain ⟨h1, h2⟩ := nrm_aux s.toArray (fun i j hij hj => by
    have hj' : j < s.length := by simpa using hj
    have := hs i j (by omega) hj' hij
    simp only [decide_eq_true_eq] at this
    rw [getElem!_pos s.toArray i (by simp; omega), getElem!_pos s.toArray j hj]
    simpa using this) s.length (by simp)
  refine ⟨h1, fun x => ?_⟩
  rw [h2, ← hp.mem_iff, List.mem_iff_getElem]
  constructor
  · rintro ⟨j, hj, e⟩; exact ⟨j, hj, by rw [getElem!_pos s.toArray j (by simpa using hj)] at e; simpa using e⟩
  · rintro ⟨j, hj, e⟩; exact ⟨j, hj, by rw [getElem!_pos s.toArray j (by simpa using hj)]; simpa using e⟩
theorem nrm_mem (c : List Int) (x : Int) : x ∈ nrmI c ↔ x ∈ c := (nrm_both c).2 x
theorem nrm_nodup (c : List Int) : (nrmI c).Nodup := by
  unfold List.Nodup
  exact (nrm_both c).1.imp fun h => by omega
theorem nrm_len (c : List Int) : (nrmI c).length ≤ c.length := by
  have h : (Lib.compact (c.mergeSort fun x y => decide (x ≤ y))).length ≤ (c.mergeSort fun x y => decide (x ≤ y)).length := by
    unfold Lib.compact Lib.compactUpTo
    rw [List.length_map]
    exact Nat.le_trans (List.length_filter_le _ _) (by simp)
  rwa [List.length_mergeSort] at h
end Go.Proofs.Ytbomfekfebamkaa

/-
  Sort and Compact at a slice of the call's own.
-/
namespace Go.Proofs.Ytbomfekfebamkaa
open Go.RowKit Go.Maps Go.Shelf Go.Sort
set_option linter.unusedSimpArgs false
set_option linter.unusedVariables false
theorem sSort_own (A : Option Addr) (n c B : Nat) (zs : List Int) (w : World) (h : w.ownsRow B 3 1 (.slice A n c) n (ints zs)) (hn : n ≤ 1000000) :
    Calls Try.prog 22 #[.slice A n c] w fun e w' => e = .returned (.tuple #[]) ∧ w'.ownsRow B 3 1 (.slice A n c) n (ints (zs.mergeSort fun x y => decide (x ≤ y))) ∧ Below B w w' := by
  have hl : zs.length = n := by simpa [ints] using h.1
  rcases h.2 with ⟨e, e0⟩ | ⟨g, cap, cur, e, hb, hg, h1, h2, h3, h4⟩
  · cases e
    have hz : zs = [] := List.eq_nil_of_length_eq_zero hl
    subst hz
    have hc : Calls Try.prog 22 #[.slice none 0 0] w fun e w' => e = .returned (.tuple #[]) ∧ w' = w := Any.slices_Sort_int_none laysS none 0 w
    refine hc.mono ?_
    rintro e w' ⟨rfl, rfl⟩
    exact ⟨rfl, by simpa using h, Below.refl _ _⟩
  · cases e
    obtain ⟨g', cap', e', _, hlt, _, _, _, hH⟩ := Lib.holds_of_ownsRow (enc := Value.int .i64) h nofun
    cases e'
    subst hl
    refine (sSort_any g c zs w hH hlt (by omega)).mono ?_
    rintro e w' ⟨rfl, k, os, rfl⟩
    refine ⟨rfl, ownsRow_sortedI (by simp) hb hg h1 h2 h3, ?_⟩
    have hk := grownBy_sortedI (w := w) (g := g) (n := k) (os := os) (zs.mergeSort fun x y => decide (x ≤ y)).toArray
    exact ⟨hk.os, hk.tape, hk.output, hk.size, fun j hj => hk.block j (by omega) (fun e => by injection e with e; omega)⟩
theorem sCompact_own (A : Option Addr) (n c B : Nat) (zs : List Int) (w : World) (h : w.ownsRow B 3 1 (.slice A n c) n (ints zs)) (hn : n ≤ 1000000) :
    Calls Try.prog 23 #[.slice A n c] w fun e w' => e = .returned (.slice A (Lib.compact zs).length c) ∧ w'.ownsRow B 3 1 (.slice A (Lib.compact zs).length c) (Lib.compact zs).length (ints (Lib.compact zs)) ∧ Below B w w' := by
  have hl : zs.length = n := by simpa [ints] using h.1
  rcases h.2 with ⟨e, e0⟩ | ⟨g, cap, cur, e, hb, hg, h1, h2, h3, h4⟩
  · cases e
    have hz : zs = [] := List.eq_nil_of_length_eq_zero hl
    subst hz
    refine (sCompact_nil none 0 w).mono ?_
    rintro e w' ⟨rfl, rfl⟩
    exact ⟨rfl, h, Below.refl _ _⟩
  · cases e
    obtain ⟨g', cap', e', _, hlt, _, _, _, hH⟩ := Lib.holds_of_ownsRow (enc := Value.int .i64) h nofun
    cases e'
    subst hl
    refine (sCompact_any g c zs w hH (by omega) h1).mono ?_
    rintro e w' ⟨rfl, q, rfl⟩
    have hle : (Lib.compact zs).length ≤ zs.length := by
      unfold Lib.compact Lib.compactUpTo
      rw [List.length_map]
      exact Nat.le_trans (List.length_filter_le _ _) (by simp)
    have ho := Lib.ownsRow_putRow (q := q) (k := (Lib.compact zs).length) (ys := Lib.compact zs ++ List.replicate (zs.length - (Lib.compact zs).length) 0) h (by simp; omega) hle
    refine ⟨rfl, ?_, Lib.below_putRow (Below.refl _ _) hb⟩
    rw [List.take_left] at ho
    exact ho
end Go.Proofs.Ytbomfekfebamkaa

/-
  slices.Clone at a slice of ints (the text of XGSet, alone).
-/
namespace Go.Proofs.Ytbomfekfebamkaa
open Go.RowKit
set_option linter.unusedSimpArgs false
set_option linter.unusedVariables false
set_option maxHeartbeats 400000 in
theorem clone_ints (A : Option Addr) (n c : Nat) (zs : List Int) (w : World) (hr : Rd w w.heap.size 1 A n (ints zs)) (hn : n ≤ 1000000) :
    Calls Try.prog 21 #[.slice A n c] w fun e w' => ∃ A' c', e = .returned (.slice A' n c') ∧ w'.ownsRow w.heap.size 3 1 (.slice A' n c') n (ints zs) ∧ Below w.heap.size w w' := by
  have HR : Hid (Rd w w.heap.size 1 A n (ints zs)) := hr
  clear hr
  cases A with
  | none =>
    have h0 : n = 0 := by
      rcases Nat.eq_zero_or_pos n with h | h
      · exact h
      · obtain ⟨ad, e, _⟩ := HR.out.ex h; cases e
    subst h0
    have hc : ints zs = [] := List.eq_nil_of_length_eq_zero (by have := HR.out.1; simpa using this)
    have HC : Hid (ints zs = []) := hc
    clear hc
    have e1 := fun W => Lib.run_eql_slice_nil (P := Try.prog) W 26 3 none 0 c 0 0 Try.underlying26
    go_enter Try.func21, Try.ntmps21
    go_wp2
    go_ret
    refine ⟨none, 0, rfl, ?_, Below.refl _ _⟩
    rw [HC.out]
    exact World.ownsRow_nil _ _ _ _
  | some ad =>
    have e1 := fun W => Lib.run_eql_slice_nil (P := Try.prog) W 26 3 (some ad) n c 0 0 Try.underlying26
    go_enter Try.func21, Try.ntmps21
    go_wp2_with (at_builtin; refine wpList_app rfl (.tmp 5) (.tmp 6) 26 rfl w.heap.size 3 (.int .i64 0) 1 8 Try.underlying26 int_infoV rfl (by decide) (by decide) (.slice (some ⟨w.heap.size, 0, none⟩) 0 0) 0 [] rfl ?own w.heap.size (some ad) n c (ints zs) rfl ?rd (ints_one zs) ?hb ?hbase ?_)
    case own => exact Row.own (xs := []) (Row.new _ _ _) (Nat.le_refl _) rfl (by unfold maxLen; omega)
    case rd => exact HR.out.below (show Below w.heap.size w _ by go_grown) (Nat.le_refl _)
    case hb => omega
    case hbase => simp
    intro v' w' hown' hgrow' hat'
    have HB : Aside (Below w.heap.size w w') := (show Below w.heap.size w (w.alloc (.cells #[] 3)) by go_grown).grown hgrow' (by simp) (fun k hk => by simp [Value.ownBlock] at hk; omega)
    have HO : Aside (w'.ownsRow w.heap.size 3 1 v' n (ints zs)) := by
      show w'.ownsRow _ _ _ _ _ _
      simpa using hown'
    clear hown' hgrow' hat'
    obtain ⟨A', c', rfl, _⟩ := Rd.own HO.out
    go_wp2
    go_ret
    exact ⟨A', c', rfl, HO.out, HB.out⟩
end Go.Proofs.Ytbomfekfebamkaa
