/-
  The reference's operate and Values, walked.
-/
import Derived.Test.YtofflkfkakddkaaCRefRight
import Derived.Test.YtofflkfkakddkaaCRunG
import Derived.Test.YtofflkfkakddkaaApp
namespace Go.Proofs.Ytofflkfkakddkaa
open Go.RowKit
set_option linter.unusedSimpArgs false
set_option linter.unusedVariables false

set_option maxHeartbeats 400000 in
theorem operate_any (op : Int) (a b : Bool) (w : World) :
    Calls Try.prog 38 #[.int .i64 op, .bool a, .bool b] w fun e w' => e = .returned (.bool (evalB op a b)) ∧ w = w' := by
  go_enter Try.func38, Try.ntmps38
  cases a <;> cases b
  all_goals go_wp2
  all_goals go_ret
  all_goals (refine ⟨?_, rfl⟩; simp_all [evalB])

theorem bool_info : (Try.prog.info? 4).map (fun i => (i.zero, i.size, i.bytes)) = some (some (.bool false), 1, 1) := by kernel_rfl

set_option maxRecDepth 100000 in
set_option maxHeartbeats 1000000 in
theorem rValues_any (inn : Nat) (GA OA IA : Option Addr) (gn gc on oc ic : Nat) (gs : List Gt) (ins : List Bool) (w : World)
    (hG : Rd w w.heap.size 3 GA gn (gatesCells gs)) (hI : Rd w w.heap.size 1 IA inn (bools ins)) (h1 : inn ≤ 1000) (h2 : gn ≤ 20000)
    (hok : ∀ k, k < gs.length → gateOk ((inn : Int) + k) (gs.getD k default) = true) :
    Calls Try.prog 23 #[.agg #[.int .i64 inn, .slice GA gn gc, .slice OA on oc], .slice IA inn ic] w fun e w' =>
      ∃ v, e = .returned v ∧ w'.ownsRow w.heap.size 4 1 v (inn + gn) (bools (runG evalB false gs ins)) ∧ Below w.heap.size w w' := by
  have LN : Hid (gs.length = gn) := by have := hG.1; rw [gatesCells_length] at this; show _ = _; omega
  have LI : Hid (ins.length = inn) := by have := hI.1; simp at this; show _ = _; omega
  have HG : Hid (Rd w w.heap.size 3 GA gn (gatesCells gs)) := hG
  have HI : Hid (Rd w w.heap.size 1 IA inn (bools ins)) := hI
  have HOK : Hid (∀ k, k < gs.length → gateOk ((inn : Int) + k) (gs.getD k default) = true) := hok
  clear hG hI hok
  go_enter Try.func23, Try.ntmps23
  go_wp2_with (at_builtin; refine wpList_app rfl (.tmp 11) (.tmp 12) 40 rfl w.heap.size 4 (.bool false) 1 1 Try.underlying40 bool_info rfl (by decide) (by decide) (.slice none 0 0) 0 [] rfl (World.ownsRow_nil _ _ _ _) w.heap.size IA inn ic (bools ins) rfl ?rd (bools_one ins) ?hb ?hbase ?_)
  case rd => exact HI.out.below (show Below w.heap.size w _ by go_grown) (Nat.le_refl _)
  case hb => omega
  case hbase => simp
  intro v1 w1 hown hgrow hat
  have hb1 : Below (w.heap.size + 1) (w.alloc (.cells #[.int .i64 inn, .slice GA gn gc, .slice OA on oc] 25)) w1 := (Below.refl _ _).grown hgrow (by simp) (by simp [Value.ownBlock])
  have HOWN : Hid (w1.ownsRow w.heap.size 4 1 v1 inn (bools ins)) := by show w1.ownsRow _ _ _ _ _ _; simpa using hown
  have HAT : Hid (v1.ownBlock = none ∨ v1.ownBlock = some (w.heap.size + 1)) := by
    show _ ∨ _
    rcases hat with e | e
    · exact .inl e
    · exact .inr e
  clear hown hgrow hat
  go_wp2
  go_loopg [5, 6] gn (fun gg s5 s6 wr => ∃ kk : Nat, kk ≤ gn ∧ gn - kk ≤ gg ∧ s6 = .int .i64 kk ∧ Aside (Below (w.heap.size + 1) (w.alloc (.cells #[.int .i64 inn, .slice GA gn gc, .slice OA on oc] 25)) wr) ∧ Aside (wr.ownsRow w.heap.size 4 1 s5 (inn + kk) (bools (runG evalB false (gs.take kk) ins))) ∧ Aside (∀ k, s5.ownBlock = some k → w.heap.size + 1 ≤ k))
  case atStart => exact ⟨0, Nat.zero_le _, by omega, rfl, hb1, HOWN.out, fun k hk => by
      rcases HAT.out with e | e
      · rw [e] at hk; cases hk
      · rw [e] at hk; injection hk with hk; exact Nat.le_of_eq hk⟩
  case round =>
    clear hb1 HOWN HAT
    obtain ⟨kk, hkk, hg, rfl, BW, OWN, AT⟩ := hrel
    have c1 : wr.cell? ⟨w.heap.size, 1, none⟩ = some (.slice GA gn gc) := (BW.out.cell (p := ⟨w.heap.size, 1, none⟩) (by simp)).trans (by go_cell)
    have hsz0 : w.heap.size < wr.heap.size := by have := BW.out.size; simp at this; omega
    have HB0 : Aside (Below w.heap.size w wr) := below_box (k := 1) BW.out
    by_cases hlt : kk < gn
    · have hltz : (kk : Int) < (gn : Int) := by omega
      obtain ⟨ad, rfl, hb, g0, g1, g2⟩ := (HG.out.below HB0.out (Nat.le_refl _)).gate hlt
      have HP := gateOk_parts (HOK.out kk (by rw [LN.out]; exact hlt))
      have HT := runG_take evalB false gs ins kk (by rw [LN.out]; exact hlt)
      generalize gs.getD kk default = gt at g0 g1 g2 HP HT
      have hlen : (runG evalB false (gs.take kk) ins).length = inn + kk := by rw [runG_length, List.length_take, LI.out, LN.out]; omega
      generalize runG evalB false (gs.take kk) ins = vs at OWN HT hlen
      have HL : Aside (vs.length = inn + kk) := hlen
      clear hlen
      obtain ⟨op, ga, gb⟩ := gt
      dsimp only at g0 g1 g2 HP HT
      obtain ⟨hop, ha, hb', ha0, hb0⟩ := HP
      rcases hop with rfl | rfl | rfl | rfl | rfl | rfl
      · clear ha hb' ha0 hb0
        have HT' : Aside _ := HT
        clear HT
        go_wp2_with fail
        refine (rOperands_any 0 _).mono ?_
        rw [show operandsF 0 = 0 from rfl]
        rintro e w' ⟨rfl, rfl⟩
        go_wp2_with fail
        refine (operate_any 0 _ _ _).mono ?_
        rintro e w' ⟨rfl, rfl⟩
        go_wp2_with (at_builtin; refine wpList_app rfl (.tmp 47) (.tmp 53) 40 rfl w.heap.size 4 (.bool false) 1 1 Try.underlying40 bool_info rfl (by decide) (by decide) u5 (inn + kk) (bools vs) rfl ?own ((wr.alloc (.cells #[.int .i64 0, .int .i64 ga, .int .i64 gb] 49)).heap.size + 1) (some ⟨wr.heap.size + 1, 0, none⟩) 1 1 [.bool (evalB 0 false false)] rfl ?rd ?one ?hb ?hbase ?_)
        case own => exact (OWN.out.alloc _).alloc _
        case rd =>
            have := Rd.lit (wr.alloc (.cells #[.int .i64 0, .int .i64 ga, .int .i64 gb] 49)) #[.bool (evalB 0 false false)] 4 (sz := 1) (m := 1) rfl
            simpa using this
        case one => intro u hu; simp at hu; subst hu; rfl
        case hb => omega
        case hbase => simp; omega
        intro v' w' hown' hgrow' hat'
        have BB := BW.out
        have B3 : Below (w.heap.size + 1) (w.alloc (.cells #[.int .i64 inn, .slice (some ad) gn gc, .slice OA on oc] 25)) ((wr.alloc (.cells #[.int .i64 0, .int .i64 ga, .int .i64 gb] 49)).alloc (.cells #[.bool (evalB 0 false false)] 4)) := by go_grown
        have B4 := B3.grown hgrow' (by simp; omega) AT.out
        have HB4 : Aside _ := B4
        have HOWN' : Aside (w'.ownsRow w.heap.size 4 1 v' (inn + kk + 1) (bools (vs ++ [evalB 0 false false]))) := by show w'.ownsRow _ _ _ _ _ _; simpa [bools] using hown'
        have HAT' : Aside (∀ k, v'.ownBlock = some k → w.heap.size + 1 ≤ k) := fun k hk => by
          rcases hat' with e | e
          · exact AT.out k (e ▸ hk)
          · rw [e] at hk; injection hk with hk; omega
        clear B3 B4 BB hown' hgrow' hat'
        go_wp2
        go_roundg (gn - (kk + 1))
        case measure => omega
        case rel =>
          refine ⟨kk + 1, by omega, by omega, by go_num, HB4.out, ?_, HAT'.out⟩
          show World.ownsRow _ _ _ _ _ _ _
          rw [HT'.out]
          exact HOWN'.out
      · clear ha hb' ha0 hb0
        have HT' : Aside _ := HT
        clear HT
        go_wp2_with fail
        refine (rOperands_any 1 _).mono ?_
        rw [show operandsF 1 = 0 from rfl]
        rintro e w' ⟨rfl, rfl⟩
        go_wp2_with fail
        refine (operate_any 1 _ _ _).mono ?_
        rintro e w' ⟨rfl, rfl⟩
        go_wp2_with (at_builtin; refine wpList_app rfl (.tmp 47) (.tmp 53) 40 rfl w.heap.size 4 (.bool false) 1 1 Try.underlying40 bool_info rfl (by decide) (by decide) u5 (inn + kk) (bools vs) rfl ?own ((wr.alloc (.cells #[.int .i64 1, .int .i64 ga, .int .i64 gb] 49)).heap.size + 1) (some ⟨wr.heap.size + 1, 0, none⟩) 1 1 [.bool (evalB 1 false false)] rfl ?rd ?one ?hb ?hbase ?_)
        case own => exact (OWN.out.alloc _).alloc _
        case rd =>
            have := Rd.lit (wr.alloc (.cells #[.int .i64 1, .int .i64 ga, .int .i64 gb] 49)) #[.bool (evalB 1 false false)] 4 (sz := 1) (m := 1) rfl
            simpa using this
        case one => intro u hu; simp at hu; subst hu; rfl
        case hb => omega
        case hbase => simp; omega
        intro v' w' hown' hgrow' hat'
        have BB := BW.out
        have B3 : Below (w.heap.size + 1) (w.alloc (.cells #[.int .i64 inn, .slice (some ad) gn gc, .slice OA on oc] 25)) ((wr.alloc (.cells #[.int .i64 1, .int .i64 ga, .int .i64 gb] 49)).alloc (.cells #[.bool (evalB 1 false false)] 4)) := by go_grown
        have B4 := B3.grown hgrow' (by simp; omega) AT.out
        have HB4 : Aside _ := B4
        have HOWN' : Aside (w'.ownsRow w.heap.size 4 1 v' (inn + kk + 1) (bools (vs ++ [evalB 1 false false]))) := by show w'.ownsRow _ _ _ _ _ _; simpa [bools] using hown'
        have HAT' : Aside (∀ k, v'.ownBlock = some k → w.heap.size + 1 ≤ k) := fun k hk => by
          rcases hat' with e | e
          · exact AT.out k (e ▸ hk)
          · rw [e] at hk; injection hk with hk; omega
        clear B3 B4 BB hown' hgrow' hat'
        go_wp2
        go_roundg (gn - (kk + 1))
        case measure => omega
        case rel =>
          refine ⟨kk + 1, by omega, by omega, by go_num, HB4.out, ?_, HAT'.out⟩
          show World.ownsRow _ _ _ _ _ _ _
          rw [HT'.out]
          exact HOWN'.out
      · obtain ⟨an, rfl⟩ : ∃ an : Nat, ga = (an : Int) := ⟨ga.toNat, by omega⟩
        have ha' : an < inn + kk := by omega
        clear ha hb' ha0 hb0
        obtain ⟨gv, cap, rfl, hgv, hgl⟩ := OWN.out.form (by omega)
        have va : wr.cell? ⟨gv, an, none⟩ = some (.bool (vs.getD an false)) := (OWN.out.cellAt an (by omega)).trans (bools_get vs an (by rw [HL.out]; exact ha'))
        simp only [Int.toNat_natCast] at HT
        generalize vs.getD an false = x at va HT
        have HT' : Aside _ := HT
        clear HT
        have hgv1 : gv ≠ wr.heap.size := by omega
        go_wp2_with fail
        refine (rOperands_any 2 _).mono ?_
        rw [show operandsF 2 = 1 from rfl]
        rintro e w' ⟨rfl, rfl⟩
        go_wp2_with fail
        refine (operate_any 2 _ _ _).mono ?_
        rintro e w' ⟨rfl, rfl⟩
        go_wp2_with (at_builtin; refine wpList_app rfl (.tmp 47) (.tmp 53) 40 rfl w.heap.size 4 (.bool false) 1 1 Try.underlying40 bool_info rfl (by decide) (by decide) (.slice (some ⟨gv, 0, none⟩) (inn + kk) cap) (inn + kk) (bools vs) rfl ?own ((wr.alloc (.cells #[.int .i64 2, .int .i64 an, .int .i64 gb] 49)).heap.size + 1) (some ⟨wr.heap.size + 1, 0, none⟩) 1 1 [.bool (evalB 2 x false)] rfl ?rd ?one ?hb ?hbase ?_)
        case own => exact (OWN.out.alloc _).alloc _
        case rd =>
            have := Rd.lit (wr.alloc (.cells #[.int .i64 2, .int .i64 an, .int .i64 gb] 49)) #[.bool (evalB 2 x false)] 4 (sz := 1) (m := 1) rfl
            simpa using this
        case one => intro u hu; simp at hu; subst hu; rfl
        case hb => omega
        case hbase => simp; omega
        intro v' w' hown' hgrow' hat'
        have BB := BW.out
        have B3 : Below (w.heap.size + 1) (w.alloc (.cells #[.int .i64 inn, .slice (some ad) gn gc, .slice OA on oc] 25)) ((wr.alloc (.cells #[.int .i64 2, .int .i64 an, .int .i64 gb] 49)).alloc (.cells #[.bool (evalB 2 x false)] 4)) := by go_grown
        have B4 := B3.grown hgrow' (by simp; omega) AT.out
        have HB4 : Aside _ := B4
        have HOWN' : Aside (w'.ownsRow w.heap.size 4 1 v' (inn + kk + 1) (bools (vs ++ [evalB 2 x false]))) := by show w'.ownsRow _ _ _ _ _ _; simpa [bools] using hown'
        have HAT' : Aside (∀ k, v'.ownBlock = some k → w.heap.size + 1 ≤ k) := fun k hk => by
          rcases hat' with e | e
          · exact AT.out k (e ▸ hk)
          · rw [e] at hk; injection hk with hk; omega
        clear B3 B4 BB hown' hgrow' hat'
        go_wp2
        go_roundg (gn - (kk + 1))
        case measure => omega
        case rel =>
          refine ⟨kk + 1, by omega, by omega, by go_num, HB4.out, ?_, HAT'.out⟩
          show World.ownsRow _ _ _ _ _ _ _
          rw [HT'.out]
          exact HOWN'.out
      · obtain ⟨an, rfl⟩ : ∃ an : Nat, ga = (an : Int) := ⟨ga.toNat, by omega⟩
        have ha' : an < inn + kk := by omega
        obtain ⟨bn, rfl⟩ : ∃ bn : Nat, gb = (bn : Int) := ⟨gb.toNat, by omega⟩
        have hbn : bn < inn + kk := by omega
        clear ha hb' ha0 hb0
        obtain ⟨gv, cap, rfl, hgv, hgl⟩ := OWN.out.form (by omega)
        have va : wr.cell? ⟨gv, an, none⟩ = some (.bool (vs.getD an false)) := (OWN.out.cellAt an (by omega)).trans (bools_get vs an (by rw [HL.out]; exact ha'))
        have vb : wr.cell? ⟨gv, bn, none⟩ = some (.bool (vs.getD bn false)) := (OWN.out.cellAt bn (by omega)).trans (bools_get vs bn (by rw [HL.out]; exact hbn))
        simp only [Int.toNat_natCast] at HT
        generalize vs.getD an false = x at va HT
        generalize vs.getD bn false = y at vb HT
        have HT' : Aside _ := HT
        clear HT
        have hgv1 : gv ≠ wr.heap.size := by omega
        go_wp2_with fail
        refine (rOperands_any 3 _).mono ?_
        rw [show operandsF 3 = 2 from rfl]
        rintro e w' ⟨rfl, rfl⟩
        go_wp2_with fail
        refine (operate_any 3 _ _ _).mono ?_
        rintro e w' ⟨rfl, rfl⟩
        go_wp2_with (at_builtin; refine wpList_app rfl (.tmp 47) (.tmp 53) 40 rfl w.heap.size 4 (.bool false) 1 1 Try.underlying40 bool_info rfl (by decide) (by decide) (.slice (some ⟨gv, 0, none⟩) (inn + kk) cap) (inn + kk) (bools vs) rfl ?own ((wr.alloc (.cells #[.int .i64 3, .int .i64 an, .int .i64 bn] 49)).heap.size + 1) (some ⟨wr.heap.size + 1, 0, none⟩) 1 1 [.bool (evalB 3 x y)] rfl ?rd ?one ?hb ?hbase ?_)
        case own => exact (OWN.out.alloc _).alloc _
        case rd =>
            have := Rd.lit (wr.alloc (.cells #[.int .i64 3, .int .i64 an, .int .i64 bn] 49)) #[.bool (evalB 3 x y)] 4 (sz := 1) (m := 1) rfl
            simpa using this
        case one => intro u hu; simp at hu; subst hu; rfl
        case hb => omega
        case hbase => simp; omega
        intro v' w' hown' hgrow' hat'
        have BB := BW.out
        have B3 : Below (w.heap.size + 1) (w.alloc (.cells #[.int .i64 inn, .slice (some ad) gn gc, .slice OA on oc] 25)) ((wr.alloc (.cells #[.int .i64 3, .int .i64 an, .int .i64 bn] 49)).alloc (.cells #[.bool (evalB 3 x y)] 4)) := by go_grown
        have B4 := B3.grown hgrow' (by simp; omega) AT.out
        have HB4 : Aside _ := B4
        have HOWN' : Aside (w'.ownsRow w.heap.size 4 1 v' (inn + kk + 1) (bools (vs ++ [evalB 3 x y]))) := by show w'.ownsRow _ _ _ _ _ _; simpa [bools] using hown'
        have HAT' : Aside (∀ k, v'.ownBlock = some k → w.heap.size + 1 ≤ k) := fun k hk => by
          rcases hat' with e | e
          · exact AT.out k (e ▸ hk)
          · rw [e] at hk; injection hk with hk; omega
        clear B3 B4 BB hown' hgrow' hat'
        go_wp2
        go_roundg (gn - (kk + 1))
        case measure => omega
        case rel =>
          refine ⟨kk + 1, by omega, by omega, by go_num, HB4.out, ?_, HAT'.out⟩
          show World.ownsRow _ _ _ _ _ _ _
          rw [HT'.out]
          exact HOWN'.out
      · obtain ⟨an, rfl⟩ : ∃ an : Nat, ga = (an : Int) := ⟨ga.toNat, by omega⟩
        have ha' : an < inn + kk := by omega
        obtain ⟨bn, rfl⟩ : ∃ bn : Nat, gb = (bn : Int) := ⟨gb.toNat, by omega⟩
        have hbn : bn < inn + kk := by omega
        clear ha hb' ha0 hb0
        obtain ⟨gv, cap, rfl, hgv, hgl⟩ := OWN.out.form (by omega)
        have va : wr.cell? ⟨gv, an, none⟩ = some (.bool (vs.getD an false)) := (OWN.out.cellAt an (by omega)).trans (bools_get vs an (by rw [HL.out]; exact ha'))
        have vb : wr.cell? ⟨gv, bn, none⟩ = some (.bool (vs.getD bn false)) := (OWN.out.cellAt bn (by omega)).trans (bools_get vs bn (by rw [HL.out]; exact hbn))
        simp only [Int.toNat_natCast] at HT
        generalize vs.getD an false = x at va HT
        generalize vs.getD bn false = y at vb HT
        have HT' : Aside _ := HT
        clear HT
        have hgv1 : gv ≠ wr.heap.size := by omega
        go_wp2_with fail
        refine (rOperands_any 4 _).mono ?_
        rw [show operandsF 4 = 2 from rfl]
        rintro e w' ⟨rfl, rfl⟩
        go_wp2_with fail
        refine (operate_any 4 _ _ _).mono ?_
        rintro e w' ⟨rfl, rfl⟩
        go_wp2_with (at_builtin; refine wpList_app rfl (.tmp 47) (.tmp 53) 40 rfl w.heap.size 4 (.bool false) 1 1 Try.underlying40 bool_info rfl (by decide) (by decide) (.slice (some ⟨gv, 0, none⟩) (inn + kk) cap) (inn + kk) (bools vs) rfl ?own ((wr.alloc (.cells #[.int .i64 4, .int .i64 an, .int .i64 bn] 49)).heap.size + 1) (some ⟨wr.heap.size + 1, 0, none⟩) 1 1 [.bool (evalB 4 x y)] rfl ?rd ?one ?hb ?hbase ?_)
        case own => exact (OWN.out.alloc _).alloc _
        case rd =>
            have := Rd.lit (wr.alloc (.cells #[.int .i64 4, .int .i64 an, .int .i64 bn] 49)) #[.bool (evalB 4 x y)] 4 (sz := 1) (m := 1) rfl
            simpa using this
        case one => intro u hu; simp at hu; subst hu; rfl
        case hb => omega
        case hbase => simp; omega
        intro v' w' hown' hgrow' hat'
        have BB := BW.out
        have B3 : Below (w.heap.size + 1) (w.alloc (.cells #[.int .i64 inn, .slice (some ad) gn gc, .slice OA on oc] 25)) ((wr.alloc (.cells #[.int .i64 4, .int .i64 an, .int .i64 bn] 49)).alloc (.cells #[.bool (evalB 4 x y)] 4)) := by go_grown
        have B4 := B3.grown hgrow' (by simp; omega) AT.out
        have HB4 : Aside _ := B4
        have HOWN' : Aside (w'.ownsRow w.heap.size 4 1 v' (inn + kk + 1) (bools (vs ++ [evalB 4 x y]))) := by show w'.ownsRow _ _ _ _ _ _; simpa [bools] using hown'
        have HAT' : Aside (∀ k, v'.ownBlock = some k → w.heap.size + 1 ≤ k) := fun k hk => by
          rcases hat' with e | e
          · exact AT.out k (e ▸ hk)
          · rw [e] at hk; injection hk with hk; omega
        clear B3 B4 BB hown' hgrow' hat'
        go_wp2
        go_roundg (gn - (kk + 1))
        case measure => omega
        case rel =>
          refine ⟨kk + 1, by omega, by omega, by go_num, HB4.out, ?_, HAT'.out⟩
          show World.ownsRow _ _ _ _ _ _ _
          rw [HT'.out]
          exact HOWN'.out
      · obtain ⟨an, rfl⟩ : ∃ an : Nat, ga = (an : Int) := ⟨ga.toNat, by omega⟩
        have ha' : an < inn + kk := by omega
        obtain ⟨bn, rfl⟩ : ∃ bn : Nat, gb = (bn : Int) := ⟨gb.toNat, by omega⟩
        have hbn : bn < inn + kk := by omega
        clear ha hb' ha0 hb0
        obtain ⟨gv, cap, rfl, hgv, hgl⟩ := OWN.out.form (by omega)
        have va : wr.cell? ⟨gv, an, none⟩ = some (.bool (vs.getD an false)) := (OWN.out.cellAt an (by omega)).trans (bools_get vs an (by rw [HL.out]; exact ha'))
        have vb : wr.cell? ⟨gv, bn, none⟩ = some (.bool (vs.getD bn false)) := (OWN.out.cellAt bn (by omega)).trans (bools_get vs bn (by rw [HL.out]; exact hbn))
        simp only [Int.toNat_natCast] at HT
        generalize vs.getD an false = x at va HT
        generalize vs.getD bn false = y at vb HT
        have HT' : Aside _ := HT
        clear HT
        have hgv1 : gv ≠ wr.heap.size := by omega
        go_wp2_with fail
        refine (rOperands_any 5 _).mono ?_
        rw [show operandsF 5 = 2 from rfl]
        rintro e w' ⟨rfl, rfl⟩
        go_wp2_with fail
        refine (operate_any 5 _ _ _).mono ?_
        rintro e w' ⟨rfl, rfl⟩
        go_wp2_with (at_builtin; refine wpList_app rfl (.tmp 47) (.tmp 53) 40 rfl w.heap.size 4 (.bool false) 1 1 Try.underlying40 bool_info rfl (by decide) (by decide) (.slice (some ⟨gv, 0, none⟩) (inn + kk) cap) (inn + kk) (bools vs) rfl ?own ((wr.alloc (.cells #[.int .i64 5, .int .i64 an, .int .i64 bn] 49)).heap.size + 1) (some ⟨wr.heap.size + 1, 0, none⟩) 1 1 [.bool (evalB 5 x y)] rfl ?rd ?one ?hb ?hbase ?_)
        case own => exact (OWN.out.alloc _).alloc _
        case rd =>
            have := Rd.lit (wr.alloc (.cells #[.int .i64 5, .int .i64 an, .int .i64 bn] 49)) #[.bool (evalB 5 x y)] 4 (sz := 1) (m := 1) rfl
            simpa using this
        case one => intro u hu; simp at hu; subst hu; rfl
        case hb => omega
        case hbase => simp; omega
        intro v' w' hown' hgrow' hat'
        have BB := BW.out
        have B3 : Below (w.heap.size + 1) (w.alloc (.cells #[.int .i64 inn, .slice (some ad) gn gc, .slice OA on oc] 25)) ((wr.alloc (.cells #[.int .i64 5, .int .i64 an, .int .i64 bn] 49)).alloc (.cells #[.bool (evalB 5 x y)] 4)) := by go_grown
        have B4 := B3.grown hgrow' (by simp; omega) AT.out
        have HB4 : Aside _ := B4
        have HOWN' : Aside (w'.ownsRow w.heap.size 4 1 v' (inn + kk + 1) (bools (vs ++ [evalB 5 x y]))) := by show w'.ownsRow _ _ _ _ _ _; simpa [bools] using hown'
        have HAT' : Aside (∀ k, v'.ownBlock = some k → w.heap.size + 1 ≤ k) := fun k hk => by
          rcases hat' with e | e
          · exact AT.out k (e ▸ hk)
          · rw [e] at hk; injection hk with hk; omega
        clear B3 B4 BB hown' hgrow' hat'
        go_wp2
        go_roundg (gn - (kk + 1))
        case measure => omega
        case rel =>
          refine ⟨kk + 1, by omega, by omega, by go_num, HB4.out, ?_, HAT'.out⟩
          show World.ownsRow _ _ _ _ _ _ _
          rw [HT'.out]
          exact HOWN'.out
    · have hltz : ¬ (kk : Int) < (gn : Int) := by omega
      obtain rfl : kk = gn := by omega
      go_wp2
      go_ret
      refine ⟨u5, rfl, ?_, HB0.out⟩
      have := OWN.out
      rw [← LN.out, List.take_length, LN.out] at this
      exact this
end Go.Proofs.Ytofflkfkakddkaa
