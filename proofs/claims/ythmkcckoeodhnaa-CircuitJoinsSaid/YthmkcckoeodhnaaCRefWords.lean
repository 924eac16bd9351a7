/-
  The reference's Words, walked.
-/
import Derived.Test.YthmkcckoeodhnaaCRefEval
import Derived.Test.YthmkcckoeodhnaaCBits
import Derived.Test.YthmkcckoeodhnaaCValues
namespace Go.Proofs.Ythmkcckoeodhnaa
open Go.RowKit
set_option linter.unusedSimpArgs false
set_option linter.unusedVariables false

set_option maxHeartbeats 400000 in
theorem rWords_bad (c : Circ) (GA OA IA : Option Addr) (gn gc on oc n ic : Nat) (w : World) (h : CAt w c GA OA gn on) (hn : n ≤ maxLen) (hbad : okC c n = false) :
    Calls Try.prog 19 #[.agg #[.int .i64 c.inputs, .slice GA gn gc, .slice OA on oc], .slice IA n ic] w fun e w' => e = .returned (.tuple #[.slice none 0 0, .int .i64 2]) ∧ Below w.heap.size w w' := by
  unfold maxLen at hn
  have H : Hid (CAt w c GA OA gn on) := h
  clear h
  cases hr : rightC c
  · clear hbad
    go_enter Try.func19, Try.ntmps19
    go_wp2_with fail
    refine (rRight_at c GA OA gn gc on oc _ (H.out.up (by go_grown))).mono ?_
    rw [hr]
    rintro e w1 ⟨rfl, hb⟩
    have B1 : Below w.heap.size w w1 := (show Below w.heap.size w _ by go_grown).trans (hb.mono (by simp))
    go_wp2
    go_ret2
    exact ⟨rfl, B1⟩
  · have hne : ((n : Int) != c.inputs) = true := by simp [okC, hr] at hbad; simpa using hbad
    clear hbad
    go_enter Try.func19, Try.ntmps19
    go_wp2_with fail
    refine (rRight_at c GA OA gn gc on oc _ (H.out.up (by go_grown))).mono ?_
    rw [hr]
    rintro e w1 ⟨rfl, hb⟩
    have B1 : Below w.heap.size w w1 := (show Below w.heap.size w _ by go_grown).trans (hb.mono (by simp))
    have c0 : w1.cell? ⟨w.heap.size, 0, none⟩ = some (.int .i64 c.inputs) := (hb.cell (p := ⟨w.heap.size, 0, none⟩) (by simp)).trans (by go_cell)
    go_wp2
    go_ret2
    exact ⟨rfl, B1⟩

theorem take_snoc_b (l : List Bool) (k : Nat) (h : k < l.length) : l.take (k + 1) = l.take k ++ [l.getD k false] := by
  rw [List.take_succ_eq_append_getElem h, List.getD_eq_getElem?_getD, List.getElem?_eq_getElem h]; rfl
theorem shl_one (b : Nat) (hb : b < 64) : IntKind.u64.wrap (2 ^ b) = ((((1 : BitVec 64) <<< b).toNat : Nat) : Int) := by
  have h2 : 2 ^ b < 2 ^ 64 := Nat.pow_lt_pow_right (by omega) hb
  have e : ((1 : BitVec 64) <<< b).toNat = 2 ^ b := by
    rw [BitVec.toNat_shiftLeft, show (1 : BitVec 64).toNat = 1 from rfl, Nat.one_shiftLeft, Nat.mod_eq_of_lt h2]
  have h3 : ((2 : Int) ^ b) = ((2 ^ b : Nat) : Int) := by rw [Int.natCast_pow]; rfl
  rw [e, h3, IntKind.wrap_u64]
  omega
theorem shr_bit (x : BitVec 64) (b : Nat) : (bits .and .u64 ((x.toNat : Int) / 2 ^ b) 1 == 1) = bitOf b x := by
  have e : ((x.toNat : Int) / 2 ^ b) = ((x.toNat / 2 ^ b : Nat) : Int) := by
    rw [Int.natCast_ediv, Int.natCast_pow]; rfl
  have h1 : (1 : Int) = ((1 : Nat) : Int) := rfl
  rw [e, h1, u64_and_nat _ _ (Nat.lt_of_le_of_lt (Nat.div_le_self _ _) x.isLt) (by omega), Nat.and_one_is_mod]
  unfold bitOf
  rw [← BitVec.testBit_toNat, Nat.testBit, Nat.shiftRight_eq_div_pow, Nat.one_and_eq_mod_two]
  rcases Nat.mod_two_eq_zero_or_one (x.toNat / 2 ^ b) with e | e <;> rw [e] <;> rfl

set_option maxRecDepth 100000 in
set_option maxHeartbeats 1000000 in
theorem rWords_ok (c : Circ) (GA OA IA : Option Addr) (gn gc on oc n ic : Nat) (ins : List (BitVec 64)) (w : World) (h : CAt w c GA OA gn on) (hI : Rd w w.heap.size 1 IA n (w64s ins)) (hok : okC c n = true) :
    Calls Try.prog 19 #[.agg #[.int .i64 c.inputs, .slice GA gn gc, .slice OA on oc], .slice IA n ic] w fun e w' =>
      ∃ g, e = .returned (.tuple #[.slice (some ⟨g, 0, none⟩) on on, .int .i64 0]) ∧ Row w' g 38 (w64s (outsG evalW 0 c ins)) ∧ w.heap.size ≤ g ∧ Below w.heap.size w w' := by
  have H : Hid (CAt w c GA OA gn on) := h
  have HI : Hid (Rd w w.heap.size 1 IA n (w64s ins)) := hI
  simp only [okC, Bool.and_eq_true, decide_eq_true_eq] at hok
  obtain ⟨hr, hn⟩ := hok
  obtain ⟨⟨h0, h1, h2, h3⟩, hg, ho⟩ := rightC_parts hr
  rw [h.gl] at h2 ho
  rw [h.ol] at h3
  obtain ⟨inp, gs, os⟩ := c
  dsimp only at hn h0 h1 hg ho
  subst hn
  have HR : Hid (rightC ⟨(n : Int), gs, os⟩ = true) := hr
  have LO : Hid (os.length = on) := h.ol
  have LI : Hid (ins.length = n) := by have := hI.1; simp [w64s] at this; show _ = _; omega
  have HGK : Hid (∀ k, k < gs.length → gateOk ((n : Int) + k) (gs.getD k default) = true) := hg
  have HOK : Hid (os.all (outOk ((n : Int) + gn)) = true) := ho
  have LG : Hid (gs.length = gn) := h.gl
  clear h hI hr hg ho
  have hmk := fun W => make_like (P := Try.prog) Try.underlying35 u64_info rfl on (on : Int) rfl (by omega) (by omega) W
  go_enter Try.func19, Try.ntmps19
  go_wp2_with fail
  refine (rRight_at ⟨(n : Int), gs, os⟩ GA OA gn gc on oc _ (H.out.up (by go_grown))).mono ?_
  rw [HR.out]
  rintro e w1 ⟨rfl, hb⟩
  have B1 : Below (w.heap.size + 1) (w.alloc (.cells #[.int .i64 n, .slice GA gn gc, .slice OA on oc] 25)) w1 := hb.mono (by simp)
  have c0 : w1.cell? ⟨w.heap.size, 0, none⟩ = some (.int .i64 n) := (hb.cell (p := ⟨w.heap.size, 0, none⟩) (by simp)).trans (by go_cell)
  have c1 : w1.cell? ⟨w.heap.size, 1, none⟩ = some (.slice GA gn gc) := (hb.cell (p := ⟨w.heap.size, 1, none⟩) (by simp)).trans (by go_cell)
  have c2 : w1.cell? ⟨w.heap.size, 2, none⟩ = some (.slice OA on oc) := (hb.cell (p := ⟨w.heap.size, 2, none⟩) (by simp)).trans (by go_cell)
  have hz1 : w.heap.size < w1.heap.size := by have := hb.size; simp at this; omega
  clear hb
  go_wp2
  have HB1 : Hid (Below (w.heap.size + 1) (w.alloc (.cells #[.int .i64 n, .slice GA gn gc, .slice OA on oc] 25)) w1) := B1
  clear B1 c0 c1 c2 hmk
  have LL : Hid ((outsG evalW 0 ⟨(n : Int), gs, os⟩ ins).length = on) := by show _ = _; rw [outsG, List.length_map, LO.out]
  go_loopg [7] 64 (fun gg s7 wr => ∃ bb : Nat, bb ≤ 64 ∧ 64 - bb ≤ gg ∧ s7 = .int .i64 bb ∧ Aside (Below (w.heap.size + 1) (w.alloc (.cells #[.int .i64 n, .slice GA gn gc, .slice OA on oc] 25)) wr) ∧ Aside (Row wr w1.heap.size 38 (w64s ((outsG evalW 0 ⟨(n : Int), gs, os⟩ ins).map (low bb)))))
  case atStart =>
    refine ⟨0, Nat.zero_le _, by omega, rfl, (show Below _ _ _ from HB1.out.alloc (by omega) _), ?_⟩
    show Row _ _ _ _
    have e : w64s ((outsG evalW 0 ⟨(n : Int), gs, os⟩ ins).map (low 0)) = List.replicate on (.int .u64 0) := by
      rw [show low 0 = fun _ => 0 from funext low_zero, ← LL.out]
      simp [w64s, w64, List.map_const']
    rw [e]
    exact Row.new _ _ _
  case round =>
    obtain ⟨bb, hbb, hgg, rfl, BW, RW⟩ := hrel
    by_cases hlt : bb < 64
    · have hltz : (bb : Int) < 64 := by omega
      have HB0 : Aside (Below w.heap.size w wr) := below_box (k := 1) BW.out
      go_wp2
      go_loopg [8, 9] n (fun gg s8 s9 wr2 => ∃ jj : Nat, jj ≤ n ∧ n - jj ≤ gg ∧ s9 = .int .i64 jj ∧ Aside (Below wr.heap.size wr wr2) ∧ Aside (wr2.ownsRow wr.heap.size 4 1 s8 jj (bools ((ins.map (bitOf bb)).take jj))))
      case atStart => exact ⟨0, Nat.zero_le _, by omega, rfl, Below.refl _ _, World.ownsRow_nil _ _ _ _⟩
      case round =>
        rename World => wr2
        obtain ⟨jj, hjj, hg2, rfl, BW2, OWN⟩ := hrel
        by_cases hlt2 : jj < n
        · have hltz2 : (jj : Int) < (n : Int) := by omega
          obtain ⟨ad, rfl, hb, hcell⟩ := (HI.out.below (HB0.out.trans (BW2.out.mono HB0.out.size)) (Nat.le_refl _)).word hlt2
          generalize hx : ins.getD jj 0 = x at hcell
          have HX : Aside (ins.getD jj 0 = x) := hx
          clear hx
          unfold w64 at hcell
          have HT : Aside _ := take_snoc_b (ins.map (bitOf bb)) jj (by rw [List.length_map, LI.out]; exact hlt2)
          rw [getD_map_bit, HX.out] at HT
          generalize (ins.map (bitOf bb)).take jj = xs at OWN HT
          go_wp2_with (at_builtin; refine wpList_app rfl (.tmp 36) (.tmp 46) 29 rfl wr.heap.size 4 (.bool false) 1 1 Try.underlying29 bool_info rfl (by decide) (by decide) u8 jj (bools xs) rfl ?own (wr2.heap.size + 1) (some ⟨wr2.heap.size, 0, none⟩) 1 1 [.bool (bits .and .u64 ((x.toNat : Int) / 2 ^ bb) 1 == 1)] rfl ?rd ?one ?hb ?hbase ?_)
          case own => exact OWN.out.alloc _
          case rd => exact Rd.lit wr2 #[.bool (bits .and .u64 ((x.toNat : Int) / 2 ^ bb) 1 == 1)] 4 (sz := 1) (m := 1) rfl
          case one => intro u hu; simp only [List.mem_singleton] at hu; subst hu; rfl
          case hb => omega
          case hbase => simp; have := BW2.out.size; omega
          intro v' w' hown' hgrow' hat'
          have BB := BW2.out
          have hszz := BB.size
          have B3 : Below wr.heap.size wr (wr2.alloc (.cells #[.bool (bits .and .u64 ((x.toNat : Int) / 2 ^ bb) 1 == 1)] 4)) := by go_grown
          have HB4 : Aside (Below wr.heap.size wr w') := B3.grown hgrow' (by simp; omega) (fun k hk => (OWN.out.lt k hk).1)
          rw [shr_bit] at hown'
          have HOWN' : Aside (w'.ownsRow wr.heap.size 4 1 v' (jj + 1) (bools (xs ++ [bitOf bb x]))) := by
            show w'.ownsRow _ _ _ _ _ _
            rw [bools_snoc]
            exact hown'
          clear B3 BB hown' hgrow' hat'
          go_wp2
          go_roundg (n - (jj + 1))
          case measure => omega
          case rel =>
            refine ⟨jj + 1, by omega, by omega, by go_num, HB4.out, ?_⟩
            show World.ownsRow _ _ _ _ _ _ _
            rw [HT.out]
            exact HOWN'.out
        · have hltz2 : ¬ (jj : Int) < (n : Int) := by omega
          obtain rfl : jj = n := by omega
          have HOWN : Aside (wr2.ownsRow wr.heap.size 4 1 u8 jj (bools (ins.map (bitOf bb)))) := by
            have := OWN.out
            rw [List.take_of_length_le (by rw [List.length_map, LI.out]; exact Nat.le_refl _)] at this
            exact this
          have BW3 : Aside (Below (w.heap.size + 1) (w.alloc (.cells #[.int .i64 jj, .slice GA gn gc, .slice OA on oc] 25)) wr2) := BW.out.trans (BW2.out.mono (by have := BW.out.size; simp at this; omega))
          have HB2 : Aside (Below w.heap.size w wr2) := below_box (k := 1) BW3.out
          have RW3 : Aside (Row wr2 w1.heap.size 38 (w64s ((outsG evalW 0 ⟨(jj : Int), gs, os⟩ ins).map (low bb)))) := RW.out.below BW2.out RW.out.lt
          have d0 : wr2.cell? ⟨w.heap.size, 0, none⟩ = some (.int .i64 jj) := (BW3.out.cell (p := ⟨w.heap.size, 0, none⟩) (by simp)).trans (by go_cell)
          have d1 : wr2.cell? ⟨w.heap.size, 1, none⟩ = some (.slice GA gn gc) := (BW3.out.cell (p := ⟨w.heap.size, 1, none⟩) (by simp)).trans (by go_cell)
          have d2 : wr2.cell? ⟨w.heap.size, 2, none⟩ = some (.slice OA on oc) := (BW3.out.cell (p := ⟨w.heap.size, 2, none⟩) (by simp)).trans (by go_cell)
          clear OWN BW2 RW BW
          obtain ⟨IA8, cap8, rfl, hrd8⟩ := Rd.own HOWN.out
          have HRD8 : Aside (Rd wr2 wr2.heap.size 1 IA8 jj (bools (ins.map (bitOf bb)))) := hrd8
          clear hrd8
          go_wp2_with fail
          refine (rValues_any jj GA OA IA8 gn gc on oc cap8 gs (ins.map (bitOf bb)) _ (H.out.up HB2.out).gates HRD8.out (by omega) h2 HGK.out).mono ?_
          rintro e w3 ⟨v, rfl, hrow, hb⟩
          have HVAL : Aside (w3.ownsRow wr2.heap.size 4 1 v (jj + gn) (bools (runG evalB false gs (ins.map (bitOf bb))))) := hrow
          have BW4 : Aside (Below (w.heap.size + 1) (w.alloc (.cells #[.int .i64 jj, .slice GA gn gc, .slice OA on oc] 25)) w3) := BW3.out.trans (hb.mono (by have := BW3.out.size; simp at this; omega))
          have RW4 : Aside (Row w3 w1.heap.size 38 (w64s ((outsG evalW 0 ⟨(jj : Int), gs, os⟩ ins).map (low bb)))) := RW3.out.below hb RW3.out.lt
          have hw1 : w1.heap.size < wr2.heap.size := RW3.out.lt
          clear hb hrow d0 d1 d2 BW3 HB2 RW3
          go_wp2
          go_loopg [11] on (fun gg s11 wr3 => ∃ kk : Nat, kk ≤ on ∧ on - kk ≤ gg ∧ s11 = .int .i64 kk ∧ Aside (Below w1.heap.size w3 wr3) ∧ Aside (∀ k, wr2.heap.size ≤ k → k < w3.heap.size → wr3.heap[k]? = w3.heap[k]?) ∧ Aside (Row wr3 w1.heap.size 38 ((mix (low (bb + 1)) (low bb) (outsG evalW 0 ⟨(jj : Int), gs, os⟩ ins) kk).map w64)))
          case atStart => exact ⟨0, Nat.zero_le _, by omega, rfl, Below.refl _ _, fun _ _ _ => rfl, (show Row _ _ _ _ from by rw [mix_zero]; exact RW4.out)⟩
          case round =>
            rename World => wr4
            obtain ⟨kk, hkk, hg3, rfl, BW5, KEEP, RW5⟩ := hrel
            have hw4 : w1.heap.size < wr4.heap.size := RW5.out.lt
            have d2 : wr4.cell? ⟨w.heap.size, 2, none⟩ = some (.slice OA on oc) := (BW5.out.cell (p := ⟨w.heap.size, 2, none⟩) hz1).trans ((BW4.out.cell (p := ⟨w.heap.size, 2, none⟩) (by simp)).trans (by go_cell))
            have HB4 : Aside (Below w.heap.size w wr4) := (below_box (k := 1) BW4.out).trans (BW5.out.mono (by omega))
            by_cases hlt3 : kk < on
            · have hltz3 : (kk : Int) < (on : Int) := by omega
              obtain ⟨ad, rfl, hb, hcell⟩ := ((H.out.up HB4.out).outs).int hlt3
              obtain ⟨ho1, ho2⟩ := outOk_at HOK.out (k := kk) (by rw [LO.out]; exact hlt3)
              have hX := outsG_at evalW 0 ⟨(jj : Int), gs, os⟩ ins kk (by rw [LO.out]; exact hlt3)
              dsimp only at hX hcell
              generalize os.getD kk 0 = o at hcell ho1 ho2 hX
              obtain ⟨on', rfl⟩ : ∃ m : Nat, o = (m : Int) := ⟨o.toNat, by omega⟩
              have hon : on' < jj + gn := by omega
              rw [Int.toNat_natCast] at hX
              clear ho1 ho2
              obtain ⟨gv, cap, hve, hgv, hgl⟩ := HVAL.out.form (by omega)
              subst hve
              have hbv : (runG evalB false gs (ins.map (bitOf bb))).getD on' false = bitOf bb ((outsG evalW 0 ⟨(jj : Int), gs, os⟩ ins).getD kk 0) := by
                rw [hX, ← runG_bit gs ins bb hlt, getD_map_bit]
              have hv : wr4.cell? ⟨gv, on', none⟩ = some (.bool (bitOf bb ((outsG evalW 0 ⟨(jj : Int), gs, os⟩ ins).getD kk 0))) := by
                rw [World.cell?_of_block (w := w3) (KEEP.out gv hgv hgl), ← hbv]
                exact (HVAL.out.cellAt on' (by omega)).trans (bools_get _ on' (by rw [runG_length, List.length_map, LI.out, LG.out]; exact hon))
              have vc : wr4.cell? ⟨w1.heap.size, kk, none⟩ = some (w64 (low bb ((outsG evalW 0 ⟨(jj : Int), gs, os⟩ ins).getD kk 0))) := (RW5.out.cell kk).trans (mix_at _ _ w64 _ 0 kk (by rw [LL.out]; exact hlt3))
              have vf : wr4.frozen? ⟨w1.heap.size, kk, none⟩ = false := RW5.out.frozen kk
              have HS : Aside _ := mix_set (low (bb + 1)) (low bb) w64 (outsG evalW 0 ⟨(jj : Int), gs, os⟩ ins) 0 kk (by rw [LL.out]; exact hlt3)
              generalize (outsG evalW 0 ⟨(jj : Int), gs, os⟩ ins).getD kk 0 = x at hv vc HS
              clear hX hbv
              have hgvn : gv ≠ w1.heap.size := by omega
              unfold w64 at vc
              cases hbit : bitOf bb x
              · rw [hbit] at hv
                go_wp2
                go_roundg (on - (kk + 1))
                case measure => omega
                case rel =>
                  refine ⟨kk + 1, by omega, by omega, by go_num, BW5.out, KEEP.out, ?_⟩
                  show Row _ _ _ _
                  rw [← HS.out, low_succ_false bb x hbit]
                  have he : ((mix (low (bb + 1)) (low bb) (outsG evalW 0 ⟨(jj : Int), gs, os⟩ ins) kk).map w64).set kk (w64 (low bb x)) = (mix (low (bb + 1)) (low bb) (outsG evalW 0 ⟨(jj : Int), gs, os⟩ ins) kk).map w64 := by
                    apply List.ext_getElem?
                    intro j
                    rw [List.getElem?_set]
                    split
                    · rename_i hj; subst hj
                      have := (RW5.out.cell kk).symm.trans vc
                      rw [this, if_pos (List.getElem?_eq_some_iff.1 this).1]; rfl
                    · rfl
                  rw [he]
                  exact RW5.out
              · rw [hbit] at hv
                go_wp2
                go_roundg (on - (kk + 1))
                case measure => omega
                case rel =>
                  have BB := BW5.out
                  refine ⟨kk + 1, by omega, by omega, by go_num, (show Below _ _ _ by go_grown), (fun k h1 h2 => ?_), ?_⟩
                  · rw [Below.heap_setCell _ _ _ _ (by show k ≠ w1.heap.size; omega)]
                    exact KEEP.out k h1 h2
                  · show Row _ _ _ _
                    rw [← HS.out, low_succ_true bb x hbit]
                    rw [shl_one bb hlt, w64_or]
                    exact RW5.out.set _ _
            · have hltz3 : ¬ (kk : Int) < (on : Int) := by omega
              obtain rfl : kk = on := by omega
              go_wp2
              go_roundg (64 - (bb + 1))
              case measure => omega
              case rel =>
                refine ⟨bb + 1, by omega, by omega, by go_num, BW4.out.trans (BW5.out.mono (by omega)), ?_⟩
                show Row _ _ _ _
                have := RW5.out
                rw [← LL.out, mix_all] at this
                exact this
    · have hltz : ¬ (bb : Int) < 64 := by omega
      obtain rfl : bb = 64 := by omega
      go_wp2
      go_ret2
      refine ⟨w1.heap.size, rfl, ?_, by omega, below_box (k := 1) BW.out⟩
      have := RW.out
      rw [show low 64 = id from funext low_all, List.map_id] at this
      exact this
end Go.Proofs.Ythmkcckoeodhnaa
