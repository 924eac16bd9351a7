/-
  The law GridstepGarden: what it does.
-/
import Derived.Test.YtdkfaphclhaiaaaNAwake
import Derived.Test.YtdkfaphclhaiaaaNRefGard
import Derived.Lib.MinMax
import Derived.Test.YtdkfaphclhaiaaaNOpn
namespace Go.Proofs.Ytdkfaphclhaiaaa
open Go.RowKit
set_option linter.unusedSimpArgs false
set_option linter.unusedVariables false
set_option maxRecDepth 100000 in
set_option maxHeartbeats 4000000 in
theorem lawGarden_any (t : Tre) (g : Grd) (HA NA A : Option Addr) (hn hc nn nc n ac : Nat) (sl : List Sl) (w : World) (ht : TAt w t HA NA hn nn sl) (hg : GAt w g A n) :
    Calls Try.prog 6 #[.agg #[.int .i64 t.states, .slice HA hn hc, .slice NA nn nc], .agg #[.int .i64 g.w, .int .i64 g.h, .int .i64 g.edge, .slice A n ac]] w fun e w' => e = .returned (.bool true) ∧ Below w.heap.size w w' := by
  obtain ⟨s, hs⟩ : ∃ s, gardR t g = s := ⟨_, rfl⟩
  obtain ⟨k, hk⟩ : ∃ k, gardErr t g = k := ⟨_, rfl⟩
  have HR : Hid (∀ _ : Unit, gardR t g = s ∧ gardErr t g = k) := fun _ => ⟨hs, hk⟩
  have hn63 := hg.c63
  unfold maxLen at hn63
  clear hs hk
  have HT : Hid (TAt w t HA NA hn nn sl) := ht
  have HG : Hid (GAt w g A n) := hg
  have HO : Hid (∀ B, NewOr A n w.heap.size B) := fun B => hg.cells.newOr
  clear ht hg
  go_enter Try.func6, Try.ntmps6
  go_wp2_with fail
  have RT : Hid (Row (World.alloc (World.alloc w (.cells #[.int .i64 t.states, .slice HA hn hc, .slice NA nn nc] 25)) (.cells #[.int .i64 g.w, .int .i64 g.h, .int .i64 g.edge, .slice A n ac] 28)) (w.heap.size) 25 [.int .i64 t.states, .slice HA hn hc, .slice NA nn nc]) := by
    have h0 := Row.new w 25 [.int .i64 t.states, .slice HA hn hc, .slice NA nn nc]
    try simp only [World.size_alloc] at h0
    exact (h0.alloc _)
  have RG : Hid (Row (World.alloc (World.alloc w (.cells #[.int .i64 t.states, .slice HA hn hc, .slice NA nn nc] 25)) (.cells #[.int .i64 g.w, .int .i64 g.h, .int .i64 g.edge, .slice A n ac] 28)) (w.heap.size + 1) 28 [.int .i64 g.w, .int .i64 g.h, .int .i64 g.edge, .slice A n ac]) := by
    have h0 := Row.new (World.alloc w (.cells #[.int .i64 t.states, .slice HA hn hc, .slice NA nn nc] 25)) 28 [.int .i64 g.w, .int .i64 g.h, .int .i64 g.edge, .slice A n ac]
    try simp only [World.size_alloc] at h0
    exact h0
  have hgr9 : Below w.heap.size w (World.alloc (World.alloc w (.cells #[.int .i64 t.states, .slice HA hn hc, .slice NA nn nc] 25)) (.cells #[.int .i64 g.w, .int .i64 g.h, .int .i64 g.edge, .slice A n ac] 28)) := by go_grown
  have B_w : Hid (Below w.heap.size w (World.alloc (World.alloc w (.cells #[.int .i64 t.states, .slice HA hn hc, .slice NA nn nc] 25)) (.cells #[.int .i64 g.w, .int .i64 g.h, .int .i64 g.edge, .slice A n ac] 28))) := hgr9
  clear hgr9
  revert RT RG B_w
  generalize (World.alloc (World.alloc w (.cells #[.int .i64 t.states, .slice HA hn hc, .slice NA nn nc] 25)) (.cells #[.int .i64 g.w, .int .i64 g.h, .int .i64 g.edge, .slice A n ac] 28)) = wa
  intro RT RG B_w
  have RT9 := RT
  have k0 := RT9.out.cell 0
  have k1 := RT9.out.cell 1
  have k2 := RT9.out.cell 2
  have kl := RT9.out.lt
  simp only [List.getElem?_cons_zero, List.getElem?_cons_succ] at k0 k1 k2
  have RG9 := RG
  have q0 := RG9.out.cell 0
  have q1 := RG9.out.cell 1
  have q2 := RG9.out.cell 2
  have q3 := RG9.out.cell 3
  have ql := RG9.out.lt
  simp only [List.getElem?_cons_zero, List.getElem?_cons_succ] at q0 q1 q2 q3
  obtain ⟨q, hq⟩ : ∃ q, max 1 (min t.states 9) = q := ⟨_, rfl⟩
  have hq1 : 1 ≤ q ∧ q ≤ 9 := by omega
  go_loopg [5, 13] n (fun gg s5 s13 wr => ∃ (i : Nat) (p : Int), i ≤ n ∧ n - i ≤ gg ∧ s13 = .int .i64 i ∧ wa = wr ∧ s5 = .int .i64 p ∧ 1 ≤ p ∧ p ≤ 4096)
  case atStart => exact ⟨0, 1, Nat.zero_le _, by omega, rfl, rfl, rfl, by omega, by omega⟩
  case round =>
    obtain ⟨i, p, hi, hgg, rfl, rfl, rfl, hp1, hp2⟩ := hrel
    by_cases hlt : i < n
    · have hlz : (i : Int) < (n : Int) := by omega
      have hpq : 1 ≤ p * q ∧ p * q ≤ 36864 := by
        refine ⟨Int.mul_pos hp1 (by omega), ?_⟩
        calc p * q ≤ 4096 * q := Int.mul_le_mul_of_nonneg_right hp2 (by omega)
          _ ≤ 4096 * 9 := Int.mul_le_mul_of_nonneg_left hq1.2 (by omega)
      obtain ⟨pq, hpq2⟩ : ∃ pq, p * q = pq := ⟨_, rfl⟩
      rw [hpq2] at hpq
      by_cases hbig : 4096 < pq
      · go_wp2_with fail
        clear k0 k1 k2 kl q0 q1 q2 q3 ql hpq2 hq
        obtain ⟨p, rfl⟩ : ∃ p', p' = pq := ⟨_, rfl⟩
        refine (smallN_any t g HA NA A hn hc nn nc n ac sl wa (HT.out.up B_w.out) (HG.out.up B_w.out)).mono ?_
        rintro e w1 ⟨rfl, hb⟩
        have B_w : Hid (Below w.heap.size w w1) := below_on2 B_w.out hb
        have B_wa : Hid (Below wa.heap.size wa w1) := hb
        clear hb
        cases hsm : smallN t g
        · clear hsm
          go_wp2_with fail
          refine (awake_any _).mono ?_
          rintro e w9 ⟨rfl, hb⟩
          have HBE : Hid (Below w.heap.size w w9) := below_on2 B_w.out hb
          clear hb
          go_wp2
          go_ret
          exact ⟨rfl, HBE.out⟩
        clear hsm
        have hz1 : 512 < p := by omega
        have hz2 : ¬ p ≤ 4096 := by omega
        have kR : Hid (Row w1 (w.heap.size) 25 [.int .i64 t.states, .slice HA hn hc, .slice NA nn nc]) := (rowCells RT.out B_wa.out)
        have k0 := kR.out.cell 0
        have k1 := kR.out.cell 1
        have k2 := kR.out.cell 2
        have kl := kR.out.lt
        simp only [List.getElem?_cons_zero, List.getElem?_cons_succ] at k0 k1 k2
        clear kR
        have qR : Hid (Row w1 (w.heap.size + 1) 28 [.int .i64 g.w, .int .i64 g.h, .int .i64 g.edge, .slice A n ac]) := (rowCells RG.out B_wa.out)
        have q0 := qR.out.cell 0
        have q1 := qR.out.cell 1
        have q2 := qR.out.cell 2
        have q3 := qR.out.cell 3
        have ql := qR.out.lt
        simp only [List.getElem?_cons_zero, List.getElem?_cons_succ] at q0 q1 q2 q3
        clear qR
        go_wp2_with fail
        have HC := gGard_any t g HA NA A hn hc nn nc n ac sl w1 (HT.out.up B_w.out) (HG.out.up B_w.out)
        rw [(HR.out ()).1, (HR.out ()).2] at HC
        refine HC.mono ?_
        clear HC
        rintro e w2 ⟨rfl, hb⟩
        have B_w : Hid (Below w.heap.size w w2) := below_on2 B_w.out hb
        have B_wa : Hid (Below wa.heap.size wa w2) := below_on2 B_wa.out hb
        have B_w1 : Hid (Below w1.heap.size w1 w2) := hb
        clear k0 k1 k2 kl q0 q1 q2 q3 ql
        clear hb
        have kR : Hid (Row w2 (w.heap.size) 25 [.int .i64 t.states, .slice HA hn hc, .slice NA nn nc]) := (rowCells RT.out B_wa.out)
        have k0 := kR.out.cell 0
        have k1 := kR.out.cell 1
        have k2 := kR.out.cell 2
        have kl := kR.out.lt
        simp only [List.getElem?_cons_zero, List.getElem?_cons_succ] at k0 k1 k2
        clear kR
        have qR : Hid (Row w2 (w.heap.size + 1) 28 [.int .i64 g.w, .int .i64 g.h, .int .i64 g.edge, .slice A n ac]) := (rowCells RG.out B_wa.out)
        have q0 := qR.out.cell 0
        have q1 := qR.out.cell 1
        have q2 := qR.out.cell 2
        have q3 := qR.out.cell 3
        have ql := qR.out.lt
        simp only [List.getElem?_cons_zero, List.getElem?_cons_succ] at q0 q1 q2 q3
        clear qR
        go_wp2_with fail
        have HC := rGard_any t g HA NA A hn hc nn nc n ac sl w2 (HT.out.up B_w.out) (HG.out.up B_w.out)
        rw [(HR.out ()).1, (HR.out ()).2] at HC
        refine HC.mono ?_
        clear HC
        rintro e w3 ⟨rfl, hb⟩
        have B_w : Hid (Below w.heap.size w w3) := below_on2 B_w.out hb
        have B_wa : Hid (Below wa.heap.size wa w3) := below_on2 B_wa.out hb
        have B_w1 : Hid (Below w1.heap.size w1 w3) := below_on2 B_w1.out hb
        have B_w2 : Hid (Below w2.heap.size w2 w3) := hb
        clear k0 k1 k2 kl q0 q1 q2 q3 ql
        clear hb
        go_wp2_with fail
        refine (awake_any _).mono ?_
        rintro e w9 ⟨rfl, hb⟩
        have HBE : Hid (Below w.heap.size w w9) := below_on2 B_w.out hb
        clear hb
        go_wp2
        go_ret
        exact ⟨rfl, HBE.out⟩
      · go_wp2_with fail
        go_roundg (n - (i + 1))
        case measure => omega
        case rel => exact ⟨i + 1, pq, by omega, by omega, by go_num, rfl, by first | rfl | go_num, by omega, by omega⟩
    · have hlz : ¬ (i : Int) < (n : Int) := by omega
      go_wp2_with fail
      clear k0 k1 k2 kl q0 q1 q2 q3 ql hq
      refine (smallN_any t g HA NA A hn hc nn nc n ac sl wa (HT.out.up B_w.out) (HG.out.up B_w.out)).mono ?_
      rintro e w1 ⟨rfl, hb⟩
      have B_w : Hid (Below w.heap.size w w1) := below_on2 B_w.out hb
      have B_wa : Hid (Below wa.heap.size wa w1) := hb
      clear hb
      cases hsm : smallN t g
      · clear hsm
        go_wp2_with fail
        refine (awake_any _).mono ?_
        rintro e w9 ⟨rfl, hb⟩
        have HBE : Hid (Below w.heap.size w w9) := below_on2 B_w.out hb
        clear hb
        go_wp2
        go_ret
        exact ⟨rfl, HBE.out⟩
      clear hsm
      by_cases hz1 : 512 < p
      · go_wp2_with fail
        refine (awake_any _).mono ?_
        rintro e w9 ⟨rfl, hb⟩
        have HBE : Hid (Below w.heap.size w w9) := below_on2 B_w.out hb
        clear hb
        go_wp2
        go_ret
        exact ⟨rfl, HBE.out⟩
      · skip
        have kR : Hid (Row w1 (w.heap.size) 25 [.int .i64 t.states, .slice HA hn hc, .slice NA nn nc]) := (rowCells RT.out B_wa.out)
        have k0 := kR.out.cell 0
        have k1 := kR.out.cell 1
        have k2 := kR.out.cell 2
        have kl := kR.out.lt
        simp only [List.getElem?_cons_zero, List.getElem?_cons_succ] at k0 k1 k2
        clear kR
        have qR : Hid (Row w1 (w.heap.size + 1) 28 [.int .i64 g.w, .int .i64 g.h, .int .i64 g.edge, .slice A n ac]) := (rowCells RG.out B_wa.out)
        have q0 := qR.out.cell 0
        have q1 := qR.out.cell 1
        have q2 := qR.out.cell 2
        have q3 := qR.out.cell 3
        have ql := qR.out.lt
        simp only [List.getElem?_cons_zero, List.getElem?_cons_succ] at q0 q1 q2 q3
        clear qR
        go_wp2_with fail
        have HC := gGard_any t g HA NA A hn hc nn nc n ac sl w1 (HT.out.up B_w.out) (HG.out.up B_w.out)
        rw [(HR.out ()).1, (HR.out ()).2] at HC
        refine HC.mono ?_
        clear HC
        rintro e w2 ⟨rfl, hb⟩
        have B_w : Hid (Below w.heap.size w w2) := below_on2 B_w.out hb
        have B_wa : Hid (Below wa.heap.size wa w2) := below_on2 B_wa.out hb
        have B_w1 : Hid (Below w1.heap.size w1 w2) := hb
        clear k0 k1 k2 kl q0 q1 q2 q3 ql
        clear hb
        have kR : Hid (Row w2 (w.heap.size) 25 [.int .i64 t.states, .slice HA hn hc, .slice NA nn nc]) := (rowCells RT.out B_wa.out)
        have k0 := kR.out.cell 0
        have k1 := kR.out.cell 1
        have k2 := kR.out.cell 2
        have kl := kR.out.lt
        simp only [List.getElem?_cons_zero, List.getElem?_cons_succ] at k0 k1 k2
        clear kR
        have qR : Hid (Row w2 (w.heap.size + 1) 28 [.int .i64 g.w, .int .i64 g.h, .int .i64 g.edge, .slice A n ac]) := (rowCells RG.out B_wa.out)
        have q0 := qR.out.cell 0
        have q1 := qR.out.cell 1
        have q2 := qR.out.cell 2
        have q3 := qR.out.cell 3
        have ql := qR.out.lt
        simp only [List.getElem?_cons_zero, List.getElem?_cons_succ] at q0 q1 q2 q3
        clear qR
        go_wp2_with fail
        have HC := rGard_any t g HA NA A hn hc nn nc n ac sl w2 (HT.out.up B_w.out) (HG.out.up B_w.out)
        rw [(HR.out ()).1, (HR.out ()).2] at HC
        refine HC.mono ?_
        clear HC
        rintro e w3 ⟨rfl, hb⟩
        have B_w : Hid (Below w.heap.size w w3) := below_on2 B_w.out hb
        have B_wa : Hid (Below wa.heap.size wa w3) := below_on2 B_wa.out hb
        have B_w1 : Hid (Below w1.heap.size w1 w3) := below_on2 B_w1.out hb
        have B_w2 : Hid (Below w2.heap.size w2 w3) := hb
        clear k0 k1 k2 kl q0 q1 q2 q3 ql
        clear hb
        go_wp2_with fail
        refine (awake_any _).mono ?_
        rintro e w9 ⟨rfl, hb⟩
        have HBE : Hid (Below w.heap.size w w9) := below_on2 B_w.out hb
        clear hb
        go_wp2
        go_ret
        exact ⟨rfl, HBE.out⟩
end Go.Proofs.Ytdkfaphclhaiaaa

/-
  The row of GridstepGarden.
-/
namespace Go.Proofs.Ytdkfaphclhaiaaa
open Go.RowKit Go.ChangeShapes Go.WideShapes Go.ChangeAt Go.Joins
set_option linter.unusedSimpArgs false
set_option linter.unusedVariables false

set_option maxRecDepth 100000 in
theorem gridstepGarden_lifted (os : Os) (started : os.Started) (H : Type) (enc : TypeId × Value → H) :
    ReturnsInHanded {} Try.checked os 6 .any (Rows.gridstepGardenSpec.pre6 enc Try.prog Try.f6 Rows.gridstepGardenRow.domain false) (Rows.gridstepGardenSpec.post enc Try.prog Try.f6 false true false false) := by
  refine returnsInHanded_of_change (C := Try.checked) Try.own' started (by kernel_rfl) Try.func6
    (ChangeSpec.witness6 (enc := enc) (C := Try.checked) false ⟨#[], #[.agg #[.int .i64 0, .slice none 0 0, .slice none 0 0], .agg #[.int .i64 0, .int .i64 0, .int .i64 0, .slice none 0 0]], []⟩ 8 (by kernel_rfl) (by kernel_rfl) (by kernel_rfl) (by kernel_rfl)) ?_
  intro W base args ds gs before hval0 hW hcnd _
  have hval : ∀ (j : Nat) t v, Try.f6.params[j]? = some t → args[j]? = some v → Value.okWide Try.prog W .any base t v := hval0
  have hW' := hW
  obtain ⟨p, q, hA0, hV, rfl, hfz, hnd⟩ := hW
  have hA : DataW.TrodAll enc Try.prog W 0 (fun _ => true) true Try.f6.params.toList args.toList ds p := hA0
  rw [Try.params6] at hA hval
  obtain ⟨v0, v1, d0, d1, p0, p1, rfl, rfl, rfl, h0, h1⟩ := trodAll_two hA
  obtain ⟨rfl, rfl⟩ := trodVars_none hV
  have h0k := h0
  have hlt0 : ∀ x ∈ p0, x.block < W.heap.size := fun x hx => hW'.lt x (by simp [hx])
  have h1k := h1
  have hlt1 : ∀ x ∈ p1, x.block < W.heap.size := fun x hx => hW'.lt x (by simp [hx])
  obtain ⟨t0, HA0, hn0, hc0, NA0, nn0, nc0, sl0, rfl, hm0⟩ := open_tree (hval 0 25 v0 rfl rfl) h0
  obtain ⟨g1, A1, n1, ac1, rfl, hm1⟩ := open_grid (hval 1 28 v1 rfl rfl) h1
  clear hA0 hval0
  refine (lawGarden_any t0 g1 HA0 NA0 A1 hn0 hc0 nn0 nc0 n1 ac1 sl0 W hm0 hm1).mono fun e W' ⟨he, hb⟩ => ?_
  subst he
  exact ⟨_, rfl, law_post (pa := p0 ++ p1) (pv := []) hW' (fun _ _ _ => trodAll_mk1 (shut_bool Try.underlying4 true)) (trodAll_mk2 (Below.trod Try.laidOut' (by kernel_rfl) (of_decide_eq_true (by kernel_rfl)) h0k hb hlt0) (Below.trod Try.laidOut' (by kernel_rfl) (of_decide_eq_true (by kernel_rfl)) h1k hb hlt1)) rfl hb⟩

theorem gridstepGarden_holds : Rows.GridstepGardenSaid :=
  OpenClaim.holds_of_wide 6 Try.f6 rfl rfl rfl rfl rfl rfl rfl ⟨rfl, rfl, rfl, rfl, rfl⟩ rfl rfl rfl rfl rfl (by kernel_rfl) Try.func6 (by kernel_rfl)
    (of_decide_eq_true (by kernel_rfl)) (by unfold Func.isWrapper; first | (rw [if_pos (by decide +kernel)]; kernel_rfl) | (rw [if_neg (by decide +kernel)]; exact ⟨rfl, rfl⟩))
    (fun os started H enc _ => gridstepGarden_lifted os started H enc)

end Go.Proofs.Ytdkfaphclhaiaaa
