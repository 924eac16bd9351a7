/-
  The reference's Depth, walked.
-/
import Derived.Test.YthmkcckoeodhnaaCRefEval
import Derived.Test.YthmkcckoeodhnaaCRunG
import Derived.Deep.Light
namespace Go.Proofs.Ythmkcckoeodhnaa
open Go.RowKit
set_option linter.unusedSimpArgs false
set_option linter.unusedVariables false

theorem int_info' : (Try.prog.info? 3).map (fun i => (i.zero, i.size, i.bytes)) = some (some (.int .i64 0), 1, 8) := by kernel_rfl
theorem ints_snoc (bs : List Int) (b : Int) : ints (bs ++ [b]) = ints bs ++ [.int .i64 b] := by simp [ints]

set_option maxRecDepth 100000 in
set_option maxHeartbeats 1000000 in
theorem rDepth_any (c : Circ) (GA OA : Option Addr) (gn gc on oc : Nat) (w : World) (h : CAt w c GA OA gn on) :
    Calls Try.prog 14 #[.agg #[.int .i64 c.inputs, .slice GA gn gc, .slice OA on oc]] w fun e w' => e = .returned (.int .i64 (depthC c)) ∧ Below w.heap.size w w' := by
  have H : Hid (CAt w c GA OA gn on) := h
  cases hr : rightC c
  · have HK : Aside (depthC c = 0) := by show _ = _; simp [depthC, hr]
    clear h
    go_enter Try.func14, Try.ntmps14
    go_wp2_with fail
    refine (rRight_at c GA OA gn gc on oc _ (H.out.up (by go_grown))).mono ?_
    rw [hr]
    rintro e w1 ⟨rfl, hb⟩
    have B1 : Below w.heap.size w w1 := (show Below w.heap.size w _ by go_grown).trans (hb.mono (by simp))
    go_wp2
    go_ret
    rw [HK.out]
    exact ⟨rfl, B1⟩
  obtain ⟨⟨h0, h1, h2, h3⟩, hg, ho⟩ := rightC_parts hr
  rw [h.gl] at h2 ho
  rw [h.ol] at h3
  obtain ⟨inp, gs, os⟩ := c
  dsimp only at h0 h1 hg ho
  obtain ⟨n, rfl⟩ : ∃ n : Nat, inp = (n : Int) := ⟨inp.toNat, by omega⟩
  have HR : Hid (rightC ⟨(n : Int), gs, os⟩ = true) := hr
  have LO : Hid (os.length = on) := h.ol
  have HGK : Hid (∀ k, k < gs.length → gateOk ((n : Int) + k) (gs.getD k default) = true) := hg
  have HOK : Hid (os.all (outOk ((n : Int) + gn)) = true) := ho
  have LN : Hid (gs.length = gn) := h.gl
  have HK : Hid (depthC ⟨(n : Int), gs, os⟩ = (os.map (fun o => (runG depthF 0 gs (List.replicate n 0)).getD o.toNat 0)).foldl max 0) := by show _ = _; simp [depthC, hr, depths]
  clear h hr hg ho
  have hmk := fun W => make_like (P := Try.prog) Try.underlying23 int_info' rfl n (n : Int) rfl (by omega) (by omega) W
  go_enter Try.func14, Try.ntmps14
  go_wp2_with fail
  refine (rRight_at ⟨(n : Int), gs, os⟩ GA OA gn gc on oc _ (H.out.up (by go_grown))).mono ?_
  rw [HR.out]
  rintro e w1 ⟨rfl, hb⟩
  have B1 : Hid (Below (w.heap.size + 1) (w.alloc (.cells #[.int .i64 n, .slice GA gn gc, .slice OA on oc] 25)) w1) := hb.mono (by simp)
  have c0 : w1.cell? ⟨w.heap.size, 0, none⟩ = some (.int .i64 n) := (hb.cell (p := ⟨w.heap.size, 0, none⟩) (by simp)).trans (by go_cell)
  have hz1 : w.heap.size < w1.heap.size := by have := hb.size; simp at this; omega
  clear hb
  go_wp2
  clear hmk c0
  go_loopg [3, 4] gn (fun gg s3 s4 wr => ∃ kk : Nat, kk ≤ gn ∧ gn - kk ≤ gg ∧ s4 = .int .i64 kk ∧ Aside (Below (w.heap.size + 1) (w.alloc (.cells #[.int .i64 n, .slice GA gn gc, .slice OA on oc] 25)) wr) ∧ w1.heap.size ≤ wr.heap.size ∧ Aside (wr.ownsRow w1.heap.size 3 1 s3 (n + kk) (ints (runG depthF 0 (gs.take kk) (List.replicate n 0)))))
  case atStart =>
    refine ⟨0, Nat.zero_le _, by omega, rfl, (show Below _ _ _ from B1.out.alloc (by omega) _), by simp, ?_⟩
    show World.ownsRow _ _ _ _ _ _ _
    have e : ints (runG depthF 0 (gs.take 0) (List.replicate n 0)) = List.replicate n (.int .i64 0) := by
      simp [runG, ints, List.map_replicate]
    rw [e, Nat.add_zero]
    exact Row.own (Row.new _ _ _) (Nat.le_refl _) (by simp) (by unfold maxLen; omega)
  case round =>
    obtain ⟨kk, hkk, hgg, rfl, BW, hws, OWN⟩ := hrel
    have c1 : wr.cell? ⟨w.heap.size, 1, none⟩ = some (.slice GA gn gc) := (BW.out.cell (p := ⟨w.heap.size, 1, none⟩) (by simp)).trans (by go_cell)
    have c2 : wr.cell? ⟨w.heap.size, 2, none⟩ = some (.slice OA on oc) := (BW.out.cell (p := ⟨w.heap.size, 2, none⟩) (by simp)).trans (by go_cell)
    have HB0 : Aside (Below w.heap.size w wr) := below_box (k := 1) BW.out
    have hsz0 : w.heap.size < wr.heap.size := by have := BW.out.size; simp at this; omega
    by_cases hlt : kk < gn
    · have hltz : (kk : Int) < (gn : Int) := by omega
      obtain ⟨ad, rfl, hb, g0, g1, g2⟩ := (H.out.gates.below HB0.out (Nat.le_refl _)).gate hlt
      have HP := gateOk_parts (HGK.out kk (by rw [LN.out]; exact hlt))
      have HT := runG_take depthF 0 gs (List.replicate n 0) kk (by rw [LN.out]; exact hlt)
      have HBD : Aside (∀ k, 0 ≤ (runG depthF 0 (gs.take kk) (List.replicate n 0)).getD k 0 ∧ (runG depthF 0 (gs.take kk) (List.replicate n 0)).getD k 0 ≤ 0 + (gs.take kk).length) :=
        depth_bd (gs.take kk) (List.replicate n 0) 0 (by omega) (fun k => by rw [getD_replicate_zero]; omega)
      have hlk : (gs.take kk).length = kk := by rw [List.length_take, LN.out]; omega
      have HBD : Aside (∀ k, 0 ≤ (runG depthF 0 (gs.take kk) (List.replicate n 0)).getD k 0 ∧ (runG depthF 0 (gs.take kk) (List.replicate n 0)).getD k 0 ≤ kk) := fun k => by
        have := HBD.out k
        omega
      clear hlk
      dsimp only at g0 g1 g2
      generalize gs.getD kk default = gt at g0 g1 g2 HP HT
      have hlen : (runG depthF 0 (gs.take kk) (List.replicate n 0)).length = n + kk := by rw [runG_length, List.length_take, List.length_replicate, LN.out]; omega
      generalize runG depthF 0 (gs.take kk) (List.replicate n 0) = vs at OWN HT hlen HBD
      have HL : Aside (vs.length = n + kk) := hlen
      clear hlen
      obtain ⟨op, ga, gb⟩ := gt
      dsimp only at g0 g1 g2 HP HT
      obtain ⟨hop, ha, hb', ha0, hb0⟩ := HP
      rcases hop with rfl | rfl | rfl | rfl | rfl | rfl
      · clear ha hb' ha0 hb0
        have HT' : Aside _ := HT
        clear HT
        go_wp2_with fail
        refine (rOperands_any 0 _).mono ?_
        rw [show operandsF 0 = 0 from rfl]
        rintro e w' ⟨rfl, rfl⟩
        go_wp2_with (at_builtin; refine wpList_app rfl (.tmp 47) (.tmp 50) 23 rfl w1.heap.size 3 (.int .i64 0) 1 8 Try.underlying23 int_info' rfl (by decide) (by decide) u3 (n + kk) (ints vs) rfl ?own (wr.heap.size + 1 + 1) (some ⟨wr.heap.size + 1, 0, none⟩) 1 1 [.int .i64 (1)] rfl ?rd ?one ?hb ?hbase ?_)
        case own => exact (OWN.out.alloc _).alloc _
        case rd =>
          have := Rd.lit (wr.alloc (.cells #[.int .i64 0, .int .i64 ga, .int .i64 gb] 46)) #[.int .i64 (1)] 3 (sz := 1) (m := 1) rfl
          simpa using this
        case one => intro u hu; simp at hu; subst hu; rfl
        case hb => omega
        case hbase => simp; omega
        intro v' w' hown' hgrow' hat'
        have hws' : w1.heap.size ≤ w'.heap.size := by have := hgrow'.size; simp at this; omega
        have BB := BW.out
        have hszz := BB.size
        simp only [World.size_alloc] at hszz
        have B3 : Below (w.heap.size + 1) (w.alloc (.cells #[.int .i64 n, .slice (some ad) gn gc, .slice OA on oc] 25)) ((wr.alloc (.cells #[.int .i64 0, .int .i64 ga, .int .i64 gb] 46)).alloc (.cells #[.int .i64 (1)] 3)) := by go_grown
        have HB4 : Aside (Below (w.heap.size + 1) (w.alloc (.cells #[.int .i64 n, .slice (some ad) gn gc, .slice OA on oc] 25)) w') := B3.grown hgrow' (by simp; omega) (fun k hk => by have := (OWN.out.lt k hk).1; omega)
        have HOWN' : Aside (w'.ownsRow w1.heap.size 3 1 v' (n + kk + 1) (ints (vs ++ [1]))) := by
          show w'.ownsRow _ _ _ _ _ _
          rw [ints_snoc]
          exact hown'
        clear B3 BB hown' hgrow' hat' hszz
        go_wp2
        go_roundg (gn - (kk + 1))
        case measure => omega
        case rel =>
          refine ⟨kk + 1, by omega, by omega, by go_num, HB4.out, hws', ?_⟩
          show World.ownsRow _ _ _ _ _ _ _
          rw [HT'.out, show depthF 0 _ _ = 1 from rfl]
          exact HOWN'.out
      · clear ha hb' ha0 hb0
        have HT' : Aside _ := HT
        clear HT
        go_wp2_with fail
        refine (rOperands_any 1 _).mono ?_
        rw [show operandsF 1 = 0 from rfl]
        rintro e w' ⟨rfl, rfl⟩
        go_wp2_with (at_builtin; refine wpList_app rfl (.tmp 47) (.tmp 50) 23 rfl w1.heap.size 3 (.int .i64 0) 1 8 Try.underlying23 int_info' rfl (by decide) (by decide) u3 (n + kk) (ints vs) rfl ?own (wr.heap.size + 1 + 1) (some ⟨wr.heap.size + 1, 0, none⟩) 1 1 [.int .i64 (1)] rfl ?rd ?one ?hb ?hbase ?_)
        case own => exact (OWN.out.alloc _).alloc _
        case rd =>
          have := Rd.lit (wr.alloc (.cells #[.int .i64 1, .int .i64 ga, .int .i64 gb] 46)) #[.int .i64 (1)] 3 (sz := 1) (m := 1) rfl
          simpa using this
        case one => intro u hu; simp at hu; subst hu; rfl
        case hb => omega
        case hbase => simp; omega
        intro v' w' hown' hgrow' hat'
        have hws' : w1.heap.size ≤ w'.heap.size := by have := hgrow'.size; simp at this; omega
        have BB := BW.out
        have hszz := BB.size
        simp only [World.size_alloc] at hszz
        have B3 : Below (w.heap.size + 1) (w.alloc (.cells #[.int .i64 n, .slice (some ad) gn gc, .slice OA on oc] 25)) ((wr.alloc (.cells #[.int .i64 1, .int .i64 ga, .int .i64 gb] 46)).alloc (.cells #[.int .i64 (1)] 3)) := by go_grown
        have HB4 : Aside (Below (w.heap.size + 1) (w.alloc (.cells #[.int .i64 n, .slice (some ad) gn gc, .slice OA on oc] 25)) w') := B3.grown hgrow' (by simp; omega) (fun k hk => by have := (OWN.out.lt k hk).1; omega)
        have HOWN' : Aside (w'.ownsRow w1.heap.size 3 1 v' (n + kk + 1) (ints (vs ++ [1]))) := by
          show w'.ownsRow _ _ _ _ _ _
          rw [ints_snoc]
          exact hown'
        clear B3 BB hown' hgrow' hat' hszz
        go_wp2
        go_roundg (gn - (kk + 1))
        case measure => omega
        case rel =>
          refine ⟨kk + 1, by omega, by omega, by go_num, HB4.out, hws', ?_⟩
          show World.ownsRow _ _ _ _ _ _ _
          rw [HT'.out, show depthF 1 _ _ = 1 from rfl]
          exact HOWN'.out
      · obtain ⟨an, rfl⟩ : ∃ an : Nat, ga = (an : Int) := ⟨ga.toNat, by omega⟩
        have ha' : an < n + kk := by omega
        clear ha hb' ha0 hb0
        obtain ⟨gv, cap, rfl, hgv, hgl⟩ := OWN.out.form (by omega)
        have hgv1 : gv ≠ wr.heap.size := by omega
        have va : wr.cell? ⟨gv, an, none⟩ = some (.int .i64 (vs.getD an 0)) := (OWN.out.cellAt an (by omega)).trans (ints_get vs an (by rw [HL.out]; exact ha'))
        obtain ⟨xa0, xa1⟩ := HBD.out an
        simp only [Int.toNat_natCast] at HT
        generalize vs.getD an 0 = x at va HT xa0 xa1
        have HT' : Aside _ := HT
        clear HT
        go_wp2_with fail
        refine (rOperands_any 2 _).mono ?_
        rw [show operandsF 2 = 1 from rfl]
        rintro e w' ⟨rfl, rfl⟩
        go_wp2_with (at_builtin; refine wpList_app rfl (.tmp 47) (.tmp 50) 23 rfl w1.heap.size 3 (.int .i64 0) 1 8 Try.underlying23 int_info' rfl (by decide) (by decide) (.slice (some ⟨gv, 0, none⟩) (n + kk) cap) (n + kk) (ints vs) rfl ?own (wr.heap.size + 1 + 1) (some ⟨wr.heap.size + 1, 0, none⟩) 1 1 [.int .i64 (x + 1)] rfl ?rd ?one ?hb ?hbase ?_)
        case own => exact (OWN.out.alloc _).alloc _
        case rd =>
          have := Rd.lit (wr.alloc (.cells #[.int .i64 2, .int .i64 an, .int .i64 gb] 46)) #[.int .i64 (x + 1)] 3 (sz := 1) (m := 1) rfl
          simpa using this
        case one => intro u hu; simp at hu; subst hu; rfl
        case hb => omega
        case hbase => simp; omega
        intro v' w' hown' hgrow' hat'
        have hws' : w1.heap.size ≤ w'.heap.size := by have := hgrow'.size; simp at this; omega
        have BB := BW.out
        have hszz := BB.size
        simp only [World.size_alloc] at hszz
        have B3 : Below (w.heap.size + 1) (w.alloc (.cells #[.int .i64 n, .slice (some ad) gn gc, .slice OA on oc] 25)) ((wr.alloc (.cells #[.int .i64 2, .int .i64 an, .int .i64 gb] 46)).alloc (.cells #[.int .i64 (x + 1)] 3)) := by go_grown
        have HB4 : Aside (Below (w.heap.size + 1) (w.alloc (.cells #[.int .i64 n, .slice (some ad) gn gc, .slice OA on oc] 25)) w') := B3.grown hgrow' (by simp; omega) (fun k hk => by have := (OWN.out.lt k hk).1; omega)
        have HOWN' : Aside (w'.ownsRow w1.heap.size 3 1 v' (n + kk + 1) (ints (vs ++ [x + 1]))) := by
          show w'.ownsRow _ _ _ _ _ _
          rw [ints_snoc]
          exact hown'
        clear B3 BB hown' hgrow' hat' hszz
        go_wp2
        go_roundg (gn - (kk + 1))
        case measure => omega
        case rel =>
          refine ⟨kk + 1, by omega, by omega, by go_num, HB4.out, hws', ?_⟩
          show World.ownsRow _ _ _ _ _ _ _
          rw [HT'.out, show depthF 2 x _ = x + 1 from rfl]
          exact HOWN'.out
      · obtain ⟨an, rfl⟩ : ∃ an : Nat, ga = (an : Int) := ⟨ga.toNat, by omega⟩
        have ha' : an < n + kk := by omega
        obtain ⟨bn, rfl⟩ : ∃ bn : Nat, gb = (bn : Int) := ⟨gb.toNat, by omega⟩
        have hbn : bn < n + kk := by omega
        clear ha hb' ha0 hb0
        obtain ⟨gv, cap, rfl, hgv, hgl⟩ := OWN.out.form (by omega)
        have hgv1 : gv ≠ wr.heap.size := by omega
        have va : wr.cell? ⟨gv, an, none⟩ = some (.int .i64 (vs.getD an 0)) := (OWN.out.cellAt an (by omega)).trans (ints_get vs an (by rw [HL.out]; exact ha'))
        obtain ⟨xa0, xa1⟩ := HBD.out an
        have vb : wr.cell? ⟨gv, bn, none⟩ = some (.int .i64 (vs.getD bn 0)) := (OWN.out.cellAt bn (by omega)).trans (ints_get vs bn (by rw [HL.out]; exact hbn))
        obtain ⟨xb0, xb1⟩ := HBD.out bn
        simp only [Int.toNat_natCast] at HT
        generalize vs.getD an 0 = x at va HT xa0 xa1
        generalize vs.getD bn 0 = y at vb HT xb0 xb1
        have HT' : Aside _ := HT
        clear HT
        rcases Int.lt_or_le x y with hxy | hxy
        · go_wp2_with fail
          refine (rOperands_any 3 _).mono ?_
          rw [show operandsF 3 = 2 from rfl]
          rintro e w' ⟨rfl, rfl⟩
          go_wp2_with (at_builtin; refine wpList_app rfl (.tmp 47) (.tmp 50) 23 rfl w1.heap.size 3 (.int .i64 0) 1 8 Try.underlying23 int_info' rfl (by decide) (by decide) (.slice (some ⟨gv, 0, none⟩) (n + kk) cap) (n + kk) (ints vs) rfl ?own (wr.heap.size + 1 + 1) (some ⟨wr.heap.size + 1, 0, none⟩) 1 1 [.int .i64 (y + 1)] rfl ?rd ?one ?hb ?hbase ?_)
          case own => exact (OWN.out.alloc _).alloc _
          case rd =>
            have := Rd.lit (wr.alloc (.cells #[.int .i64 3, .int .i64 an, .int .i64 bn] 46)) #[.int .i64 (y + 1)] 3 (sz := 1) (m := 1) rfl
            simpa using this
          case one => intro u hu; simp at hu; subst hu; rfl
          case hb => omega
          case hbase => simp; omega
          intro v' w' hown' hgrow' hat'
          have hws' : w1.heap.size ≤ w'.heap.size := by have := hgrow'.size; simp at this; omega
          have BB := BW.out
          have hszz := BB.size
          simp only [World.size_alloc] at hszz
          have B3 : Below (w.heap.size + 1) (w.alloc (.cells #[.int .i64 n, .slice (some ad) gn gc, .slice OA on oc] 25)) ((wr.alloc (.cells #[.int .i64 3, .int .i64 an, .int .i64 bn] 46)).alloc (.cells #[.int .i64 (y + 1)] 3)) := by go_grown
          have HB4 : Aside (Below (w.heap.size + 1) (w.alloc (.cells #[.int .i64 n, .slice (some ad) gn gc, .slice OA on oc] 25)) w') := B3.grown hgrow' (by simp; omega) (fun k hk => by have := (OWN.out.lt k hk).1; omega)
          have HOWN' : Aside (w'.ownsRow w1.heap.size 3 1 v' (n + kk + 1) (ints (vs ++ [y + 1]))) := by
            show w'.ownsRow _ _ _ _ _ _
            rw [ints_snoc]
            exact hown'
          clear B3 BB hown' hgrow' hat' hszz
          go_wp2
          go_roundg (gn - (kk + 1))
          case measure => omega
          case rel =>
            refine ⟨kk + 1, by omega, by omega, by go_num, HB4.out, hws', ?_⟩
            show World.ownsRow _ _ _ _ _ _ _
            rw [HT'.out, show depthF 3 x y = y + 1 from (by show max x y + 1 = _; omega)]
            exact HOWN'.out
        · go_wp2_with fail
          refine (rOperands_any 3 _).mono ?_
          rw [show operandsF 3 = 2 from rfl]
          rintro e w' ⟨rfl, rfl⟩
          go_wp2_with (at_builtin; refine wpList_app rfl (.tmp 47) (.tmp 50) 23 rfl w1.heap.size 3 (.int .i64 0) 1 8 Try.underlying23 int_info' rfl (by decide) (by decide) (.slice (some ⟨gv, 0, none⟩) (n + kk) cap) (n + kk) (ints vs) rfl ?own (wr.heap.size + 1 + 1) (some ⟨wr.heap.size + 1, 0, none⟩) 1 1 [.int .i64 (x + 1)] rfl ?rd ?one ?hb ?hbase ?_)
          case own => exact (OWN.out.alloc _).alloc _
          case rd =>
            have := Rd.lit (wr.alloc (.cells #[.int .i64 3, .int .i64 an, .int .i64 bn] 46)) #[.int .i64 (x + 1)] 3 (sz := 1) (m := 1) rfl
            simpa using this
          case one => intro u hu; simp at hu; subst hu; rfl
          case hb => omega
          case hbase => simp; omega
          intro v' w' hown' hgrow' hat'
          have hws' : w1.heap.size ≤ w'.heap.size := by have := hgrow'.size; simp at this; omega
          have BB := BW.out
          have hszz := BB.size
          simp only [World.size_alloc] at hszz
          have B3 : Below (w.heap.size + 1) (w.alloc (.cells #[.int .i64 n, .slice (some ad) gn gc, .slice OA on oc] 25)) ((wr.alloc (.cells #[.int .i64 3, .int .i64 an, .int .i64 bn] 46)).alloc (.cells #[.int .i64 (x + 1)] 3)) := by go_grown
          have HB4 : Aside (Below (w.heap.size + 1) (w.alloc (.cells #[.int .i64 n, .slice (some ad) gn gc, .slice OA on oc] 25)) w') := B3.grown hgrow' (by simp; omega) (fun k hk => by have := (OWN.out.lt k hk).1; omega)
          have HOWN' : Aside (w'.ownsRow w1.heap.size 3 1 v' (n + kk + 1) (ints (vs ++ [x + 1]))) := by
            show w'.ownsRow _ _ _ _ _ _
            rw [ints_snoc]
            exact hown'
          clear B3 BB hown' hgrow' hat' hszz
          go_wp2
          go_roundg (gn - (kk + 1))
          case measure => omega
          case rel =>
            refine ⟨kk + 1, by omega, by omega, by go_num, HB4.out, hws', ?_⟩
            show World.ownsRow _ _ _ _ _ _ _
            rw [HT'.out, show depthF 3 x y = x + 1 from (by show max x y + 1 = _; omega)]
            exact HOWN'.out
      · obtain ⟨an, rfl⟩ : ∃ an : Nat, ga = (an : Int) := ⟨ga.toNat, by omega⟩
        have ha' : an < n + kk := by omega
        obtain ⟨bn, rfl⟩ : ∃ bn : Nat, gb = (bn : Int) := ⟨gb.toNat, by omega⟩
        have hbn : bn < n + kk := by omega
        clear ha hb' ha0 hb0
        obtain ⟨gv, cap, rfl, hgv, hgl⟩ := OWN.out.form (by omega)
        have hgv1 : gv ≠ wr.heap.size := by omega
        have va : wr.cell? ⟨gv, an, none⟩ = some (.int .i64 (vs.getD an 0)) := (OWN.out.cellAt an (by omega)).trans (ints_get vs an (by rw [HL.out]; exact ha'))
        obtain ⟨xa0, xa1⟩ := HBD.out an
        have vb : wr.cell? ⟨gv, bn, none⟩ = some (.int .i64 (vs.getD bn 0)) := (OWN.out.cellAt bn (by omega)).trans (ints_get vs bn (by rw [HL.out]; exact hbn))
        obtain ⟨xb0, xb1⟩ := HBD.out bn
        simp only [Int.toNat_natCast] at HT
        generalize vs.getD an 0 = x at va HT xa0 xa1
        generalize vs.getD bn 0 = y at vb HT xb0 xb1
        have HT' : Aside _ := HT
        clear HT
        rcases Int.lt_or_le x y with hxy | hxy
        · go_wp2_with fail
          refine (rOperands_any 4 _).mono ?_
          rw [show operandsF 4 = 2 from rfl]
          rintro e w' ⟨rfl, rfl⟩
          go_wp2_with (at_builtin; refine wpList_app rfl (.tmp 47) (.tmp 50) 23 rfl w1.heap.size 3 (.int .i64 0) 1 8 Try.underlying23 int_info' rfl (by decide) (by decide) (.slice (some ⟨gv, 0, none⟩) (n + kk) cap) (n + kk) (ints vs) rfl ?own (wr.heap.size + 1 + 1) (some ⟨wr.heap.size + 1, 0, none⟩) 1 1 [.int .i64 (y + 1)] rfl ?rd ?one ?hb ?hbase ?_)
          case own => exact (OWN.out.alloc _).alloc _
          case rd =>
            have := Rd.lit (wr.alloc (.cells #[.int .i64 4, .int .i64 an, .int .i64 bn] 46)) #[.int .i64 (y + 1)] 3 (sz := 1) (m := 1) rfl
            simpa using this
          case one => intro u hu; simp at hu; subst hu; rfl
          case hb => omega
          case hbase => simp; omega
          intro v' w' hown' hgrow' hat'
          have hws' : w1.heap.size ≤ w'.heap.size := by have := hgrow'.size; simp at this; omega
          have BB := BW.out
          have hszz := BB.size
          simp only [World.size_alloc] at hszz
          have B3 : Below (w.heap.size + 1) (w.alloc (.cells #[.int .i64 n, .slice (some ad) gn gc, .slice OA on oc] 25)) ((wr.alloc (.cells #[.int .i64 4, .int .i64 an, .int .i64 bn] 46)).alloc (.cells #[.int .i64 (y + 1)] 3)) := by go_grown
          have HB4 : Aside (Below (w.heap.size + 1) (w.alloc (.cells #[.int .i64 n, .slice (some ad) gn gc, .slice OA on oc] 25)) w') := B3.grown hgrow' (by simp; omega) (fun k hk => by have := (OWN.out.lt k hk).1; omega)
          have HOWN' : Aside (w'.ownsRow w1.heap.size 3 1 v' (n + kk + 1) (ints (vs ++ [y + 1]))) := by
            show w'.ownsRow _ _ _ _ _ _
            rw [ints_snoc]
            exact hown'
          clear B3 BB hown' hgrow' hat' hszz
          go_wp2
          go_roundg (gn - (kk + 1))
          case measure => omega
          case rel =>
            refine ⟨kk + 1, by omega, by omega, by go_num, HB4.out, hws', ?_⟩
            show World.ownsRow _ _ _ _ _ _ _
            rw [HT'.out, show depthF 4 x y = y + 1 from (by show max x y + 1 = _; omega)]
            exact HOWN'.out
        · go_wp2_with fail
          refine (rOperands_any 4 _).mono ?_
          rw [show operandsF 4 = 2 from rfl]
          rintro e w' ⟨rfl, rfl⟩
          go_wp2_with (at_builtin; refine wpList_app rfl (.tmp 47) (.tmp 50) 23 rfl w1.heap.size 3 (.int .i64 0) 1 8 Try.underlying23 int_info' rfl (by decide) (by decide) (.slice (some ⟨gv, 0, none⟩) (n + kk) cap) (n + kk) (ints vs) rfl ?own (wr.heap.size + 1 + 1) (some ⟨wr.heap.size + 1, 0, none⟩) 1 1 [.int .i64 (x + 1)] rfl ?rd ?one ?hb ?hbase ?_)
          case own => exact (OWN.out.alloc _).alloc _
          case rd =>
            have := Rd.lit (wr.alloc (.cells #[.int .i64 4, .int .i64 an, .int .i64 bn] 46)) #[.int .i64 (x + 1)] 3 (sz := 1) (m := 1) rfl
            simpa using this
          case one => intro u hu; simp at hu; subst hu; rfl
          case hb => omega
          case hbase => simp; omega
          intro v' w' hown' hgrow' hat'
          have hws' : w1.heap.size ≤ w'.heap.size := by have := hgrow'.size; simp at this; omega
          have BB := BW.out
          have hszz := BB.size
          simp only [World.size_alloc] at hszz
          have B3 : Below (w.heap.size + 1) (w.alloc (.cells #[.int .i64 n, .slice (some ad) gn gc, .slice OA on oc] 25)) ((wr.alloc (.cells #[.int .i64 4, .int .i64 an, .int .i64 bn] 46)).alloc (.cells #[.int .i64 (x + 1)] 3)) := by go_grown
          have HB4 : Aside (Below (w.heap.size + 1) (w.alloc (.cells #[.int .i64 n, .slice (some ad) gn gc, .slice OA on oc] 25)) w') := B3.grown hgrow' (by simp; omega) (fun k hk => by have := (OWN.out.lt k hk).1; omega)
          have HOWN' : Aside (w'.ownsRow w1.heap.size 3 1 v' (n + kk + 1) (ints (vs ++ [x + 1]))) := by
            show w'.ownsRow _ _ _ _ _ _
            rw [ints_snoc]
            exact hown'
          clear B3 BB hown' hgrow' hat' hszz
          go_wp2
          go_roundg (gn - (kk + 1))
          case measure => omega
          case rel =>
            refine ⟨kk + 1, by omega, by omega, by go_num, HB4.out, hws', ?_⟩
            show World.ownsRow _ _ _ _ _ _ _
            rw [HT'.out, show depthF 4 x y = x + 1 from (by show max x y + 1 = _; omega)]
            exact HOWN'.out
      · obtain ⟨an, rfl⟩ : ∃ an : Nat, ga = (an : Int) := ⟨ga.toNat, by omega⟩
        have ha' : an < n + kk := by omega
        obtain ⟨bn, rfl⟩ : ∃ bn : Nat, gb = (bn : Int) := ⟨gb.toNat, by omega⟩
        have hbn : bn < n + kk := by omega
        clear ha hb' ha0 hb0
        obtain ⟨gv, cap, rfl, hgv, hgl⟩ := OWN.out.form (by omega)
        have hgv1 : gv ≠ wr.heap.size := by omega
        have va : wr.cell? ⟨gv, an, none⟩ = some (.int .i64 (vs.getD an 0)) := (OWN.out.cellAt an (by omega)).trans (ints_get vs an (by rw [HL.out]; exact ha'))
        obtain ⟨xa0, xa1⟩ := HBD.out an
        have vb : wr.cell? ⟨gv, bn, none⟩ = some (.int .i64 (vs.getD bn 0)) := (OWN.out.cellAt bn (by omega)).trans (ints_get vs bn (by rw [HL.out]; exact hbn))
        obtain ⟨xb0, xb1⟩ := HBD.out bn
        simp only [Int.toNat_natCast] at HT
        generalize vs.getD an 0 = x at va HT xa0 xa1
        generalize vs.getD bn 0 = y at vb HT xb0 xb1
        have HT' : Aside _ := HT
        clear HT
        rcases Int.lt_or_le x y with hxy | hxy
        · go_wp2_with fail
          refine (rOperands_any 5 _).mono ?_
          rw [show operandsF 5 = 2 from rfl]
          rintro e w' ⟨rfl, rfl⟩
          go_wp2_with (at_builtin; refine wpList_app rfl (.tmp 47) (.tmp 50) 23 rfl w1.heap.size 3 (.int .i64 0) 1 8 Try.underlying23 int_info' rfl (by decide) (by decide) (.slice (some ⟨gv, 0, none⟩) (n + kk) cap) (n + kk) (ints vs) rfl ?own (wr.heap.size + 1 + 1) (some ⟨wr.heap.size + 1, 0, none⟩) 1 1 [.int .i64 (y + 1)] rfl ?rd ?one ?hb ?hbase ?_)
          case own => exact (OWN.out.alloc _).alloc _
          case rd =>
            have := Rd.lit (wr.alloc (.cells #[.int .i64 5, .int .i64 an, .int .i64 bn] 46)) #[.int .i64 (y + 1)] 3 (sz := 1) (m := 1) rfl
            simpa using this
          case one => intro u hu; simp at hu; subst hu; rfl
          case hb => omega
          case hbase => simp; omega
          intro v' w' hown' hgrow' hat'
          have hws' : w1.heap.size ≤ w'.heap.size := by have := hgrow'.size; simp at this; omega
          have BB := BW.out
          have hszz := BB.size
          simp only [World.size_alloc] at hszz
          have B3 : Below (w.heap.size + 1) (w.alloc (.cells #[.int .i64 n, .slice (some ad) gn gc, .slice OA on oc] 25)) ((wr.alloc (.cells #[.int .i64 5, .int .i64 an, .int .i64 bn] 46)).alloc (.cells #[.int .i64 (y + 1)] 3)) := by go_grown
          have HB4 : Aside (Below (w.heap.size + 1) (w.alloc (.cells #[.int .i64 n, .slice (some ad) gn gc, .slice OA on oc] 25)) w') := B3.grown hgrow' (by simp; omega) (fun k hk => by have := (OWN.out.lt k hk).1; omega)
          have HOWN' : Aside (w'.ownsRow w1.heap.size 3 1 v' (n + kk + 1) (ints (vs ++ [y + 1]))) := by
            show w'.ownsRow _ _ _ _ _ _
            rw [ints_snoc]
            exact hown'
          clear B3 BB hown' hgrow' hat' hszz
          go_wp2
          go_roundg (gn - (kk + 1))
          case measure => omega
          case rel =>
            refine ⟨kk + 1, by omega, by omega, by go_num, HB4.out, hws', ?_⟩
            show World.ownsRow _ _ _ _ _ _ _
            rw [HT'.out, show depthF 5 x y = y + 1 from (by show max x y + 1 = _; omega)]
            exact HOWN'.out
        · go_wp2_with fail
          refine (rOperands_any 5 _).mono ?_
          rw [show operandsF 5 = 2 from rfl]
          rintro e w' ⟨rfl, rfl⟩
          go_wp2_with (at_builtin; refine wpList_app rfl (.tmp 47) (.tmp 50) 23 rfl w1.heap.size 3 (.int .i64 0) 1 8 Try.underlying23 int_info' rfl (by decide) (by decide) (.slice (some ⟨gv, 0, none⟩) (n + kk) cap) (n + kk) (ints vs) rfl ?own (wr.heap.size + 1 + 1) (some ⟨wr.heap.size + 1, 0, none⟩) 1 1 [.int .i64 (x + 1)] rfl ?rd ?one ?hb ?hbase ?_)
          case own => exact (OWN.out.alloc _).alloc _
          case rd =>
            have := Rd.lit (wr.alloc (.cells #[.int .i64 5, .int .i64 an, .int .i64 bn] 46)) #[.int .i64 (x + 1)] 3 (sz := 1) (m := 1) rfl
            simpa using this
          case one => intro u hu; simp at hu; subst hu; rfl
          case hb => omega
          case hbase => simp; omega
          intro v' w' hown' hgrow' hat'
          have hws' : w1.heap.size ≤ w'.heap.size := by have := hgrow'.size; simp at this; omega
          have BB := BW.out
          have hszz := BB.size
          simp only [World.size_alloc] at hszz
          have B3 : Below (w.heap.size + 1) (w.alloc (.cells #[.int .i64 n, .slice (some ad) gn gc, .slice OA on oc] 25)) ((wr.alloc (.cells #[.int .i64 5, .int .i64 an, .int .i64 bn] 46)).alloc (.cells #[.int .i64 (x + 1)] 3)) := by go_grown
          have HB4 : Aside (Below (w.heap.size + 1) (w.alloc (.cells #[.int .i64 n, .slice (some ad) gn gc, .slice OA on oc] 25)) w') := B3.grown hgrow' (by simp; omega) (fun k hk => by have := (OWN.out.lt k hk).1; omega)
          have HOWN' : Aside (w'.ownsRow w1.heap.size 3 1 v' (n + kk + 1) (ints (vs ++ [x + 1]))) := by
            show w'.ownsRow _ _ _ _ _ _
            rw [ints_snoc]
            exact hown'
          clear B3 BB hown' hgrow' hat' hszz
          go_wp2
          go_roundg (gn - (kk + 1))
          case measure => omega
          case rel =>
            refine ⟨kk + 1, by omega, by omega, by go_num, HB4.out, hws', ?_⟩
            show World.ownsRow _ _ _ _ _ _ _
            rw [HT'.out, show depthF 5 x y = x + 1 from (by show max x y + 1 = _; omega)]
            exact HOWN'.out
    · have hltz : ¬ (kk : Int) < (gn : Int) := by omega
      obtain rfl : kk = gn := by omega
      have OWN' : Aside (wr.ownsRow w1.heap.size 3 1 u3 (n + kk) (ints (runG depthF 0 gs (List.replicate n 0)))) := by
        have := OWN.out
        rw [List.take_of_length_le (show gs.length ≤ kk from by rw [LN.out]; exact Nat.le_refl _)] at this
        exact this
      have HBD : Hid (∀ k, 0 ≤ (runG depthF 0 gs (List.replicate n 0)).getD k 0 ∧ (runG depthF 0 gs (List.replicate n 0)).getD k 0 ≤ 20000) := fun k => by
        have := depth_bd gs (List.replicate n 0) 0 (by omega) (fun k => by rw [getD_replicate_zero]; omega) k
        rw [LN.out] at this
        omega
      clear OWN
      go_wp2
      go_loopg [8, 9] on (fun gg s7 s63 wr' => ∃ jj : Nat, jj ≤ on ∧ on - jj ≤ gg ∧ s63 = .int .i64 jj ∧ s7 = .int .i64 (((os.take jj).map (fun o => (runG depthF 0 gs (List.replicate n 0)).getD o.toNat 0)).foldl max 0) ∧ Aside (Below wr.heap.size wr wr'))
      case atStart => exact ⟨0, Nat.zero_le _, by omega, rfl, rfl, Below.refl _ _⟩
      case round =>
        rename World => wr2
        obtain ⟨jj, hjj, hg2, rfl, rfl, BW2⟩ := hrel
        have d2 : wr2.cell? ⟨w.heap.size, 2, none⟩ = some (.slice OA on oc) := (BW2.out.cell (p := ⟨w.heap.size, 2, none⟩) hsz0).trans c2
        have HB2 : Aside (Below w.heap.size w wr2) := HB0.out.trans (BW2.out.mono (by omega))
        by_cases hlt2 : jj < on
        · have hltz2 : (jj : Int) < (on : Int) := by omega
          obtain ⟨ad, rfl, hb, hcell⟩ := (H.out.outs.below HB2.out (Nat.le_refl _)).int hlt2
          obtain ⟨ho1, ho2⟩ := outOk_at HOK.out (k := jj) (by rw [LO.out]; exact hlt2)
          have HT := map_take_snoc (fun o => (runG depthF 0 gs (List.replicate n 0)).getD o.toNat 0) os jj (by rw [LO.out]; exact hlt2)
          dsimp only at hcell
          generalize os.getD jj 0 = o at hcell ho1 ho2 HT
          obtain ⟨on', rfl⟩ : ∃ m : Nat, o = (m : Int) := ⟨o.toNat, by omega⟩
          have hon : on' < n + kk := by omega
          clear ho1 ho2
          obtain ⟨gv, cap, rfl, hgv, hgl⟩ := OWN'.out.form (by omega)
          have hv : wr2.cell? ⟨gv, on', none⟩ = some (.int .i64 ((runG depthF 0 gs (List.replicate n 0)).getD on' 0)) := by
            rw [BW2.out.cell (p := ⟨gv, on', none⟩) hgl, OWN'.out.cellAt on' (by omega)]
            exact ints_get _ on' (by rw [runG_length, List.length_replicate, LN.out]; exact hon)
          rw [Int.toNat_natCast] at HT
          generalize (runG depthF 0 gs (List.replicate n 0)).getD on' 0 = x at hv HT
          have HT' : Aside (((os.take (jj + 1)).map (fun o => (runG depthF 0 gs (List.replicate n 0)).getD o.toNat 0)).foldl max 0 = max (((os.take jj).map (fun o => (runG depthF 0 gs (List.replicate n 0)).getD o.toNat 0)).foldl max 0) x) := by
            show _ = _
            rw [HT, List.foldl_append]; rfl
          clear HT
          generalize ((os.take jj).map (fun o => (runG depthF 0 gs (List.replicate n 0)).getD o.toNat 0)).foldl max 0 = m at HT'
          rcases Int.lt_or_le m x with hmx | hmx
          all_goals
            go_wp2
            go_roundg (on - (jj + 1))
            case measure => omega
            case rel =>
              refine ⟨jj + 1, by omega, by omega, by go_num, ?_, BW2.out⟩
              rw [HT'.out]
              congr 1
              omega
        · have hltz2 : ¬ (jj : Int) < (on : Int) := by omega
          obtain rfl : jj = on := by omega
          have HK' : Aside _ := HK.out
          rw [List.take_of_length_le (show os.length ≤ jj from by rw [LO.out]; exact Nat.le_refl _)]
          generalize (os.map (fun o => (runG depthF 0 gs (List.replicate n 0)).getD o.toNat 0)).foldl max 0 = m at HK'
          go_wp2
          go_ret
          rw [HK'.out]
          exact ⟨rfl, HB2.out⟩
end Go.Proofs.Ythmkcckoeodhnaa
