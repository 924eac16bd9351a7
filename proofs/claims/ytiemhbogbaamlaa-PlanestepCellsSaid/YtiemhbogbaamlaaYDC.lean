/-
 A part.
-/
import Derived.Test.YtiemhbogbaamlaaYE1
import Derived.Test.YtiemhbogbaamlaaYE35
import Derived.Test.YtiemhbogbaamlaaYE34
import Derived.Test.YtiemhbogbaamlaaYE23
import Derived.Test.YtiemhbogbaamlaaYE28
import Derived.Test.YtiemhbogbaamlaaYE24
import Derived.Test.YtiemhbogbaamlaaYE20
import Derived.BigQuiet
import Derived.Test.YtiemhbogbaamlaaYE36
namespace Go.Proofs.Ytiemhbogbaamlaa
open Go.RowKit
set_option linter.unusedSimpArgs false
set_option linter.unusedVariables false
theorem cells_ok {t : Tre} {g : Grd} (h : OkTG t g) (h4 : t.nodes.length ≤ 400) : packErr g (bitsF t.states : Nat) = 0 ∧ packR g (bitsF t.states : Nat) = packP g (bitsF t.states) ∧ OkTP t (packP g (bitsF t.states)) := by
 have hs := states_bd h.rt
 have hp := bitsF_pow hs
 have hb := bitsF_pos hs
 have hb3 := bitsF_bd t.states
 have e : packErr g (bitsF t.states : Nat) = 0 := by
  unfold packErr
  rw [if_pos ⟨h.rg, by omega, by omega⟩, if_pos]
  rw [List.all_eq_true]
  intro s hs'
  have := (List.all_eq_true.1 h.lt) s hs'
  simp only [ltStates, decide_eq_true_eq] at this
  rw [decide_eq_true_iff, Int.toNat_natCast]
  omega
 have e2 := pack_right e
 have e3 := unpack_pack e
 rw [Int.toNat_natCast] at e2 e3
 refine ⟨e, by unfold packR; rw [if_pos e, Int.toNat_natCast], by rw [e3]; exact h, e2, by simp [packP], h4⟩
theorem cells_next {t : Tre} {g : Grd} (h : OkTG t g) (h4 : t.nodes.length ≤ 400) : unpackErr (nextPl t (packP g (bitsF t.states))) = 0 ∧ unpackR (nextPl t (packP g (bitsF t.states))) = nextG t g := by
 obtain ⟨e, _, hk⟩ := cells_ok h h4
 have e3 := unpack_pack e
 rw [Int.toNat_natCast] at e3
 refine ⟨by unfold unpackErr; rw [if_pos hk.next.rp], ?_⟩
 unfold unpackR
 rw [if_pos hk.next.rp, next_unpack hk, e3]
theorem run_good1 {t : Tre} {p : Pln} (h : OkTP t p) : runErr t p ((1 : Nat) : Int) = 0 ∧ runPl t p ((1 : Nat) : Int) = nextPl t p := by
 have h1 : runErr t p ((1 : Nat) : Int) = 0 := by unfold runErr; rw [if_pos (ok_check h), if_pos (by omega)]
 exact ⟨h1, by unfold runPl; rw [if_pos h1, Int.toNat_natCast]; rfl⟩
set_option maxRecDepth 100000 in
set_option maxHeartbeats 8000000 in
theorem cells_law (t : Tre) (g : Grd) (HA NA A : Option Addr) (hn hc nn nc n ac : Nat) (sl : List Sl) (w : World) (ht : TAt w t HA NA hn nn sl) (hg : GAt w g A n) :
 Calls Try.prog 7 #[.agg #[.int .i64 t.states, .slice HA hn hc, .slice NA nn nc], .agg #[.int .i64 g.w, .int .i64 g.h, .int .i64 g.edge, .slice A n ac]] w fun e w' => e = .returned (.bool true) ∧ Below w.heap.size w w' := by
 have HT : Hid (TAt w t HA NA hn nn sl) := ht
 have HLN : Hid (t.nodes.length = nn) := ht.nl
 have HG : Hid (GAt w g A n) := hg
 have HGL : Hid (g.cells.length = n) := hg.cl
 have hg63 := hg.c63
 unfold maxLen at hg63
 clear ht hg
 go_enter Try.func7, Try.ntmps7
 go_upto_region 1 with fail
 have RT : Hid (Row (World.alloc (World.alloc w (.cells #[.int .i64 t.states, .slice HA hn hc, .slice NA nn nc] 25)) (.cells #[.int .i64 g.w, .int .i64 g.h, .int .i64 g.edge, .slice A n ac] 54)) (w.heap.size) 25 [.int .i64 t.states, .slice HA hn hc, .slice NA nn nc]) := by
  have h0 := Row.new w 25 [.int .i64 t.states, .slice HA hn hc, .slice NA nn nc]
  try simp only [World.size_alloc] at h0
  exact (h0.alloc _)
 have RG : Hid (Row (World.alloc (World.alloc w (.cells #[.int .i64 t.states, .slice HA hn hc, .slice NA nn nc] 25)) (.cells #[.int .i64 g.w, .int .i64 g.h, .int .i64 g.edge, .slice A n ac] 54)) (w.heap.size + 1) 54 [.int .i64 g.w, .int .i64 g.h, .int .i64 g.edge, .slice A n ac]) := by
  have h0 := Row.new (World.alloc w (.cells #[.int .i64 t.states, .slice HA hn hc, .slice NA nn nc] 25)) 54 [.int .i64 g.w, .int .i64 g.h, .int .i64 g.edge, .slice A n ac]
  try simp only [World.size_alloc] at h0
  exact h0
 have hgr9 : Below w.heap.size w (World.alloc (World.alloc w (.cells #[.int .i64 t.states, .slice HA hn hc, .slice NA nn nc] 25)) (.cells #[.int .i64 g.w, .int .i64 g.h, .int .i64 g.edge, .slice A n ac] 54)) := by go_grown
 have B_w : Hid (Below w.heap.size w (World.alloc (World.alloc w (.cells #[.int .i64 t.states, .slice HA hn hc, .slice NA nn nc] 25)) (.cells #[.int .i64 g.w, .int .i64 g.h, .int .i64 g.edge, .slice A n ac] 54))) := hgr9
 clear hgr9
 revert RT RG B_w
 generalize (World.alloc (World.alloc w (.cells #[.int .i64 t.states, .slice HA hn hc, .slice NA nn nc] 25)) (.cells #[.int .i64 g.w, .int .i64 g.h, .int .i64 g.edge, .slice A n ac] 54)) = wa
 intro RT RG B_w
 have tR : Hid (Row wa (w.heap.size) 25 [.int .i64 t.states, .slice HA hn hc, .slice NA nn nc]) := RT.out
 obtain ⟨t0, t1, t2, tl⟩ := tR.out.cells3
 clear tR
 go_wp2_with fail
 have HC := fewT_any t HA NA hn hc nn nc sl wa (HT.out.up B_w.out)
 obtain ⟨q1, hq⟩ : ∃ q, fewT t = q := ⟨_, rfl⟩
 have HF : Hid (∀ _ : Unit, fewT t = q1) := fun _ => hq
 rw [hq] at HC
 clear hq
 refine HC.mono ?_
 clear HC
 rintro e w1 ⟨rfl, hb⟩
 have B_w : Hid (Below w.heap.size w w1) := below_on2 B_w.out hb
 have B_wa : Hid (Below wa.heap.size wa w1) := hb
 clear t0 t1 t2 tl
 clear hb
 cases q1
 ·skip
  go_wp2_with fail
  refine (alive_any w1).mono ?_
  rintro e wl ⟨rfl, hb⟩
  go_wp2
  go_ret
  exact ⟨rfl, below_on2 B_w.out hb⟩
 have tR : Hid (Row w1 (w.heap.size) 25 [.int .i64 t.states, .slice HA hn hc, .slice NA nn nc]) := (rowCells RT.out B_wa.out)
 obtain ⟨t0, t1, t2, tl⟩ := tR.out.cells3
 clear tR
 go_wp2_with fail
 have HC := rTreeRight_any t HA NA hn hc nn nc sl w1 (HT.out.up B_w.out)
 obtain ⟨q2, hq⟩ : ∃ q, rightT t = q := ⟨_, rfl⟩
 have HRT : Hid (∀ _ : Unit, rightT t = q2) := fun _ => hq
 rw [hq] at HC
 clear hq
 refine HC.mono ?_
 clear HC
 rintro e w2 ⟨rfl, hb⟩
 have B_w : Hid (Below w.heap.size w w2) := below_on2 B_w.out hb
 have B_wa : Hid (Below wa.heap.size wa w2) := below_on2 B_wa.out hb
 have B_w1 : Hid (Below w1.heap.size w1 w2) := hb
 clear t0 t1 t2 tl
 clear hb
 cases q2
 ·skip
  go_wp2_with fail
  refine (alive_any w2).mono ?_
  rintro e wl ⟨rfl, hb⟩
  go_wp2
  go_ret
  exact ⟨rfl, below_on2 B_w.out hb⟩
 have gR : Hid (Row w2 (w.heap.size + 1) 54 [.int .i64 g.w, .int .i64 g.h, .int .i64 g.edge, .slice A n ac]) := (rowCells RG.out B_wa.out)
 obtain ⟨g0, g1, g2, g3, gl⟩ := gR.out.cells4
 clear gR
 go_wp2_with fail
 have HC := rGRight_any g A n ac w2 (HG.out.up B_w.out)
 obtain ⟨q3, hq⟩ : ∃ q, rightG g = q := ⟨_, rfl⟩
 have HRG : Hid (∀ _ : Unit, rightG g = q3) := fun _ => hq
 rw [hq] at HC
 clear hq
 refine HC.mono ?_
 clear HC
 rintro e w3 ⟨rfl, hb⟩
 have B_w : Hid (Below w.heap.size w w3) := below_on2 B_w.out hb
 have B_wa : Hid (Below wa.heap.size wa w3) := below_on2 B_wa.out hb
 have B_w1 : Hid (Below w1.heap.size w1 w3) := below_on2 B_w1.out hb
 have B_w2 : Hid (Below w2.heap.size w2 w3) := hb
 clear g0 g1 g2 g3 gl
 clear hb
 cases q3
 ·skip
  go_wp2_with fail
  refine (alive_any w3).mono ?_
  rintro e wl ⟨rfl, hb⟩
  go_wp2
  go_ret
  exact ⟨rfl, below_on2 B_w.out hb⟩
 have gR : Hid (Row w3 (w.heap.size + 1) 54 [.int .i64 g.w, .int .i64 g.h, .int .i64 g.edge, .slice A n ac]) := (rowCells RG.out B_wa.out)
 obtain ⟨g0, g1, g2, g3, gl⟩ := gR.out.cells4
 clear gR
 by_cases h6 : (600 : Int) < (n : Int)
 ·have d6 : decide ((600 : Int) < (n : Int)) = true := decide_eq_true h6
  go_wp2_with fail
  refine (alive_any w3).mono ?_
  rintro e wl ⟨rfl, hb⟩
  go_wp2
  go_ret
  exact ⟨rfl, below_on2 B_w.out hb⟩
 have d6 : decide ((600 : Int) < (n : Int)) = false := decide_eq_false h6
 have H4 : Hid (t.nodes.length ≤ 400) := (fewT_parts (HF.out ())).2
 go_wp2_with fail
 have RT3 : Hid (Row w3 w.heap.size 25 [.int .i64 t.states, .slice HA hn hc, .slice NA nn nc]) := (rowCells RT.out B_wa.out)
 have RG3 : Hid (Row w3 (w.heap.size + 1) 54 [.int .i64 g.w, .int .i64 g.h, .int .i64 g.edge, .slice A n ac]) := (rowCells RG.out B_wa.out)
 have BW3 : Hid (Below w.heap.size w w3) := B_w.out
 clear B_w B_wa B_w1 B_w2 RT RG g0 g1 g2 g3 gl
 go_loopg [5, 37] n (fun gg s5 s37 wr => ∃ k : Nat, k ≤ n ∧ n - k ≤ gg ∧ s37 = .int .i64 k ∧ Aside (Below w3.heap.size w3 wr) ∧ Aside (∀ j : Nat, j < k → ltStates t (g.cells.getD j 0) = true))
 case atStart => exact ⟨0, Nat.zero_le _, by omega, rfl, Below.refl _ _, fun j hj => absurd hj (Nat.not_lt_zero _)⟩
 case round =>
  obtain ⟨k, hk, hgg, rfl, BX, HAL⟩ := hrel
  have BWr : Hid (Below w.heap.size w wr) := below_on2 BW3.out BX.out
  have RGr : Hid (Row wr (w.heap.size + 1) 54 [.int .i64 g.w, .int .i64 g.h, .int .i64 g.edge, .slice A n ac]) := rowCells RG3.out BX.out
  have RTr : Hid (Row wr w.heap.size 25 [.int .i64 t.states, .slice HA hn hc, .slice NA nn nc]) := rowCells RT3.out BX.out
  obtain ⟨g0, g1, g2, g3, gl⟩ := RGr.out.cells4
  obtain ⟨k0, k1, k2, kl⟩ := RTr.out.cells3
  by_cases hlt : k < n
  ·have hlz : (k : Int) < (n : Int) := by omega
   obtain ⟨ad, rfl, hab, c0⟩ := (HG.out.up BWr.out).cells.int hlt
   have habz : (ad.add k).block < wr.heap.size := by rw [add_block]; exact hab
   generalize hy : g.cells.getD k 0 = y at c0
   have HY : Hid (g.cells.getD k 0 = y) := hy
   clear hy
   go_wp2_with fail
   go_quiet (fail)
   have BNq : Hid (Below wr.heap.size wr (wr.drewN nq)) := below_drewN (Below.refl _ _) _
   have BWq : Hid (Below w.heap.size w (wr.drewN nq)) := below_on2 BWr.out BNq.out
   have BXq : Hid (Below w3.heap.size w3 (wr.drewN nq)) := below_on2 BX.out BNq.out
   clear g0 g1 g2 g3 gl k0 k1 k2 kl c0
   revert BNq BWq BXq
   generalize wr.drewN nq = wq
   intro BNq BWq BXq
   by_cases h1 : t.states ≤ y
   ·have d1 : decide (t.states ≤ y) = true := decide_eq_true h1
    go_wp2_with fail
    refine (alive_any wq).mono ?_
    rintro e wl ⟨rfl, hb⟩
    go_wp2
    go_ret
    exact ⟨rfl, below_on2 BWq.out hb⟩
   ·have d1 : decide (t.states ≤ y) = false := decide_eq_false h1
    have HNX : Hid (∀ j : Nat, j < k + 1 → ltStates t (g.cells.getD j 0) = true) := fun j hj => by
     rcases Nat.lt_or_ge j k with h3 | h3
     ·exact HAL.out j h3
     ·obtain rfl : j = k := by omega
      rw [HY.out]; unfold ltStates; rw [decide_eq_true_eq]; omega
    go_wp2_with fail
    go_roundg (n - (k + 1))
    case measure => omega
    case rel => exact ⟨k + 1, by omega, by omega, by go_num, BXq.out, HNX.out⟩
  ·have hlz : ¬ (k : Int) < (n : Int) := by omega
   obtain rfl : n = k := by omega
   have HOK : Hid (OkTG t g) := ⟨HRT.out (), HRG.out (), all_true_at _ _ (fun k hk => HAL.out k (by rw [HGL.out] at hk; exact hk))⟩
   have HTr : Hid (TAt wr t HA NA hn nn sl) := HT.out.up BWr.out
   have HGr : Hid (GAt wr g A n) := HG.out.up BWr.out
   clear HAL hgg hlz hlt hk BX RT3 RG3 BW3 HT HG HF HRG d6 g0 g1 g2 g3 gl
   go_wp2_with fail
   clear k0 k1 k2 kl
   have HC := new_any t HA NA hn hc nn nc sl wr HTr.out (by rw [← HLN.out]; exact H4.out)
   unfold EngPost at HC
   refine HC.mono ?_
   clear HC
   rintro e w4 (⟨hrt, b, GA, OA, PA, gn, gc, on, oc, pn, pc, rfl, heng, hb⟩ | ⟨hrt, rfl, hb⟩)
   rotate_left 1
   ·exact absurd hrt (by rw [HOK.out.rt]; decide)
   have HE : Hid (EngAt w4 b t GA OA PA gn gc on oc pn pc) := heng
   have RG4 : Hid (Row w4 (w.heap.size + 1) 54 [.int .i64 g.w, .int .i64 g.h, .int .i64 g.edge, .slice A n ac]) := rowCells RGr.out hb
   have RT4 : Hid (Row w4 w.heap.size 25 [.int .i64 t.states, .slice HA hn hc, .slice NA nn nc]) := rowCells RTr.out hb
   have HT4 : Hid (TAt w4 t HA NA hn nn sl) := HTr.out.up hb
   have HG4 : Hid (GAt w4 g A n) := HGr.out.up hb
   have BW4 : Hid (Below w.heap.size w w4) := below_on2 BWr.out hb
   clear hrt heng hb RGr RTr HTr HGr BWr
   obtain ⟨nb, hnb⟩ : ∃ nb, bitsF t.states = nb := ⟨_, rfl⟩
   have HNB : Hid (∀ _ : Unit, bitsF t.states = nb) := fun _ => hnb
   have HCO : Hid (packErr g (nb : Int) = 0 ∧ packR g (nb : Int) = packP g nb ∧ OkTP t (packP g nb)) := hnb ▸ cells_ok HOK.out H4.out
   have HCN : Hid (unpackErr (nextPl t (packP g nb)) = 0 ∧ unpackR (nextPl t (packP g nb)) = nextG t g) := hnb ▸ cells_next HOK.out H4.out
   clear hnb
   obtain ⟨q, hq⟩ : ∃ q, packP g nb = q := ⟨_, rfl⟩
   rw [hq] at HCO HCN
   clear hq
   go_upto_region 12 with fail
   go_cut [8, 9] from 62 (fun s8 s9 wx => ∃ (ob : Nat) (QA : Option Addr) (qn qc : Nat) (qs : List Sl), s8 = .pointer (some ⟨ob, 0, none⟩) ∧ s9 = .int .i64 0 ∧ Row wx ob 42 [.int .i64 q.w, .int .i64 q.h, .int .i64 q.edge, .slice QA qn qc] ∧ PAt wx q QA qn qs ∧ Below w4.heap.size w4 wx)
   case first =>
    refine wp_region_L (fun w' => Row w' ((w.heap.size + 1)) 54 [.int .i64 g.w, .int .i64 g.h, .int .i64 g.edge, .slice A n ac] ∧ Row w' (w.heap.size) 25 [.int .i64 t.states, .slice HA hn hc, .slice NA nn nc]) [9] (by kernel_rfl) (by exact ⟨Row.drew RG4.out, Row.drew RT4.out⟩) (fun hHeld => ?_)
    have B_w4 : Hid (Below w4.heap.size w4 (World.drew w4)) := (Below.refl _ _).drew
    revert hHeld B_w4
    generalize World.drew w4 = w4q
    intro hHeld B_w4
    refine lPureW 1 ?vm1 rfl (by rfl) ?ym1 ?rm1
    case ym1 => intro w' hSw; clear hSw; go_simp; try (with_reducible rfl)
    go_simp
    refine lTakeW 0 ?vm2 [[9]] rfl (by rfl) ?ym2 hHeld ?rm2
    case ym2 =>
     intro w' hSw
     obtain ⟨s0, s1⟩ := hSw
     have hT0 : Hid (Row w' ((w.heap.size + 1)) 54 [.int .i64 g.w, .int .i64 g.h, .int .i64 g.edge, .slice A n ac]) := s0
     obtain ⟨z0_0, z0_1, z0_2, z0_3, z0_l⟩ := hT0.out.cells4
     have hT1 : Hid (Row w' (w.heap.size) 25 [.int .i64 t.states, .slice HA hn hc, .slice NA nn nc]) := s1
     obtain ⟨z1_0, z1_1, z1_2, z1_l⟩ := hT1.out.cells3
     clear s0 s1
     go_simp
     try (with_reducible rfl)
    go_simp
    refine lTakeW 2 ?vm3 [[9]] rfl (by rfl) ?ym3 hHeld ?rm3
    case ym3 =>
     intro w' hSw
     obtain ⟨s0, s1⟩ := hSw
     have hT0 : Hid (Row w' ((w.heap.size + 1)) 54 [.int .i64 g.w, .int .i64 g.h, .int .i64 g.edge, .slice A n ac]) := s0
     obtain ⟨z0_0, z0_1, z0_2, z0_3, z0_l⟩ := hT0.out.cells4
     have hT1 : Hid (Row w' (w.heap.size) 25 [.int .i64 t.states, .slice HA hn hc, .slice NA nn nc]) := s1
     obtain ⟨z1_0, z1_1, z1_2, z1_l⟩ := hT1.out.cells3
     clear s0 s1
     go_simp
     try (with_reducible rfl)
    go_simp
    refine restL_two (i := 3) (j := 8) (by kernel_rfl) rfl rfl (fun K hK => ?_) (fun K hK => ?_)
    ·go_simp
     go_at_call 25
     have HC := rBits_any t.states w4q
     rw [HNB.out ()] at HC
     refine HC.mono ?_
     clear HC
     rintro e y1 ⟨rfl, hb0⟩
     have hb : Below w4q.heap.size w4q y1 := hb0 ▸ Below.refl _ _
     clear hHeld hb0
     have B_w4 : Hid (Below w4.heap.size w4 y1) := below_on2 B_w4.out hb
     have B_w4q : Hid (Below w4q.heap.size w4q y1) := hb
     clear hb
     refine hK.out _ _ (fun _ => ?keep) (fun hHeld => ?_)
     case keep => exact ⟨(rowCells RG4.out B_w4.out), (rowCells RT4.out B_w4.out)⟩
     have hHeld := hHeld rfl
     clear hK K
     try go_simp
     refine restL_two (i := 4) (j := 8) (by kernel_rfl) rfl rfl (fun K hK => ?_) (fun K hK => ?_)
     ·go_simp
      go_at_call 24
      have HC := plPack_any g A n ac nb y1 (HG4.out.up B_w4.out)
      rw [HCO.out.1, HCO.out.2.1] at HC
      unfold PPost at HC
      refine HC.mono ?_
      clear HC
      rintro e y2 ⟨QA, qn, qc, M, gs, rfl, ho, ⟨hl1, hl2, hl3⟩, hb⟩
      obtain ⟨qs, hks⟩ := ho.sep hl1 (by unfold maxLen; omega) (by unfold maxLen; omega)
      have HPQ : Hid (PAt y2 q QA qn qs) := (hks 0 0 (Nat.zero_le _)).pat
      clear hks ho hl1 hl2 hl3 hHeld
      have B_w4 : Hid (Below w4.heap.size w4 y2) := below_on2 B_w4.out hb
      have B_w4q : Hid (Below w4q.heap.size w4q y2) := below_on2 B_w4q.out hb
      have B_y1 : Hid (Below y1.heap.size y1 y2) := hb
      clear hb
      refine hK.out _ _ (fun _ => ?keep) (fun hHeld => ?_)
      case keep => exact ⟨(rowCells RG4.out B_w4.out), (rowCells RT4.out B_w4.out)⟩
      have hHeld := hHeld rfl
      clear hK K
      try go_simp
      refine lPureW 5 ?vm4 rfl (by rfl) ?ym4 ?rm4
      case ym4 => intro w' hSw; clear hSw; go_simp; try (with_reducible rfl)
      go_simp
      refine lPureW 6 ?vm5 rfl (by rfl) ?ym5 ?rm5
      case ym5 => intro w' hSw; clear hSw; go_simp; try (with_reducible rfl)
      go_simp
      refine lPureW 7 ?vm6 rfl (by rfl) ?ym6 ?rm6
      case ym6 => intro w' hSw; clear hSw; go_simp; try (with_reducible rfl)
      go_simp
      refine restL_one (i := 8) (by kernel_rfl) rfl (fun K hK => ?_)
      go_simp
      have RO : Hid (Row (World.alloc y2 (.cells #[.int .i64 0, .int .i64 0, .int .i64 0, .slice none 0 0] 42)) y2.heap.size 42 [.int .i64 0, .int .i64 0, .int .i64 0, .slice none 0 0]) := Row.new y2 42 [.int .i64 0, .int .i64 0, .int .i64 0, .slice none 0 0]
      have hb : Below y2.heap.size y2 (World.alloc y2 (.cells #[.int .i64 0, .int .i64 0, .int .i64 0, .slice none 0 0] 42)) := (Below.refl _ _).alloc (Nat.le_refl _) _
      have hszb : w4.heap.size ≤ y2.heap.size := B_w4.out.size
      have HS : Hid (PSep (World.alloc y2 (.cells #[.int .i64 0, .int .i64 0, .int .i64 0, .slice none 0 0] 42)) q QA qn qs y2.heap.size (y2.heap.size + 1)) := (HPQ.out.sep _).up hb
      revert RO hb hszb HS
      generalize (World.alloc y2 (.cells #[.int .i64 0, .int .i64 0, .int .i64 0, .slice none 0 0] 42)) = y3
      intro RO hb hszb HS
      clear hHeld
      have B_w4 : Hid (Below w4.heap.size w4 y3) := below_on2 B_w4.out hb
      have B_w4q : Hid (Below w4q.heap.size w4q y3) := below_on2 B_w4q.out hb
      have B_y1 : Hid (Below y1.heap.size y1 y3) := below_on2 B_y1.out hb
      have B_y2 : Hid (Below y2.heap.size y2 y3) := hb
      clear hb
      refine hK.out _ _ (fun _ => ?keep) (fun hHeld => ?_)
      case keep => exact ⟨(rowCells RG4.out B_w4.out), (rowCells RT4.out B_w4.out)⟩
      have hHeld := hHeld rfl
      clear hK K
      try go_simp
      refine restL_one (i := 9) (by kernel_rfl) rfl (fun K hK => ?_)
      have ROc : Hid (Row y3 (y2.heap.size) 42 [.int .i64 0, .int .i64 0, .int .i64 0, .slice none 0 0]) := RO.out
      have HSc : Hid (PSep y3 q QA qn qs (y2.heap.size) (y2.heap.size + 1)) := HS.out
      have BWc : Hid (Below w4.heap.size w4 y3) := B_w4.out
      obtain ⟨z0, z1, z2, z3, zl⟩ := ROc.out.cells4
      have zf0 := ROc.out.frozen 0
      have zf1 := ROc.out.frozen 1
      have zf2 := ROc.out.frozen 2
      have zf3 := ROc.out.frozen 3
      go_simp
      refine hK.out _ _ (fun h => absurd h (by decide)) (fun _ => ?_)
      clear hK K
      try go_simp
      refine lPureW 10 ?vm7 rfl (by rfl) ?ym7 ?rm7
      case ym7 => intro w' hSw; clear hSw; go_simp; try (with_reducible rfl)
      go_simp
      refine restL_done (by kernel_rfl) ?_ _
      clear z0 z1 z2 z3 zl zf0 zf1 zf2 zf3
      go_wp2_with fail
      go_meet
      case rel => exact ⟨y2.heap.size, QA, qn, qc, qs, rfl, rfl, (Row.set (Row.set (Row.set (Row.set ROc.out 0 (.int .i64 q.w)) 1 (.int .i64 q.h)) 2 (.int .i64 q.edge)) 3 (.slice QA qn qc)), (PSep.far (PSep.far (PSep.far (PSep.far HSc.out (q := ⟨y2.heap.size, 0, none⟩) (Nat.le_refl _) (Nat.lt_succ_self _) (.int .i64 q.w)) (q := ⟨y2.heap.size, 1, none⟩) (Nat.le_refl _) (Nat.lt_succ_self _) (.int .i64 q.h)) (q := ⟨y2.heap.size, 2, none⟩) (Nat.le_refl _) (Nat.lt_succ_self _) (.int .i64 q.edge)) (q := ⟨y2.heap.size, 3, none⟩) (Nat.le_refl _) (Nat.lt_succ_self _) (.slice QA qn qc)).pat, (Below.setCell (Below.setCell (Below.setCell (Below.setCell BWc.out (p := ⟨y2.heap.size, 0, none⟩) hszb (.int .i64 q.w)) (p := ⟨y2.heap.size, 1, none⟩) hszb (.int .i64 q.h)) (p := ⟨y2.heap.size, 2, none⟩) hszb (.int .i64 q.edge)) (p := ⟨y2.heap.size, 3, none⟩) hszb (.slice QA qn qc))⟩
     ·go_simp
      have RO : Hid (Row (World.alloc y1 (.cells #[.int .i64 0, .int .i64 0, .int .i64 0, .slice none 0 0] 42)) y1.heap.size 42 [.int .i64 0, .int .i64 0, .int .i64 0, .slice none 0 0]) := Row.new y1 42 [.int .i64 0, .int .i64 0, .int .i64 0, .slice none 0 0]
      have hb : Below y1.heap.size y1 (World.alloc y1 (.cells #[.int .i64 0, .int .i64 0, .int .i64 0, .slice none 0 0] 42)) := (Below.refl _ _).alloc (Nat.le_refl _) _
      have hszb : w4.heap.size ≤ y1.heap.size := B_w4.out.size
      revert RO hb hszb
      generalize (World.alloc y1 (.cells #[.int .i64 0, .int .i64 0, .int .i64 0, .slice none 0 0] 42)) = y2
      intro RO hb hszb
      clear hHeld
      have B_w4 : Hid (Below w4.heap.size w4 y2) := below_on2 B_w4.out hb
      have B_w4q : Hid (Below w4q.heap.size w4q y2) := below_on2 B_w4q.out hb
      have B_y1 : Hid (Below y1.heap.size y1 y2) := hb
      clear hb
      refine hK.out _ _ (fun _ => ?keep) (fun hHeld => ?_)
      case keep => exact ⟨(rowCells RG4.out B_w4.out), (rowCells RT4.out B_w4.out)⟩
      have hHeld := hHeld rfl
      clear hK K
      try go_simp
      refine restL_one (i := 4) (by kernel_rfl) rfl (fun K hK => ?_)
      go_simp
      go_at_call 24
      have HC := plPack_any g A n ac nb y2 (HG4.out.up B_w4.out)
      rw [HCO.out.1, HCO.out.2.1] at HC
      unfold PPost at HC
      refine HC.mono ?_
      clear HC
      rintro e y3 ⟨QA, qn, qc, M, gs, rfl, ho, ⟨hl1, hl2, hl3⟩, hb⟩
      obtain ⟨qs, hks⟩ := ho.sep hl1 (by unfold maxLen; omega) (by unfold maxLen; omega)
      have hrl := RO.out.lt
      have HS : Hid (PSep y3 q QA qn qs (y1.heap.size) (y1.heap.size + 1)) := hks _ _ (by omega)
      clear hrl
      clear hks ho hl1 hl2 hl3 hHeld
      have B_w4 : Hid (Below w4.heap.size w4 y3) := below_on2 B_w4.out hb
      have B_w4q : Hid (Below w4q.heap.size w4q y3) := below_on2 B_w4q.out hb
      have B_y1 : Hid (Below y1.heap.size y1 y3) := below_on2 B_y1.out hb
      have B_y2 : Hid (Below y2.heap.size y2 y3) := hb
      clear hb
      refine hK.out _ _ (fun _ => ?keep) (fun hHeld => ?_)
      case keep => exact ⟨(rowCells RG4.out B_w4.out), (rowCells RT4.out B_w4.out)⟩
      have hHeld := hHeld rfl
      clear hK K
      try go_simp
      refine lPureW 5 ?vm8 rfl (by rfl) ?ym8 ?rm8
      case ym8 => intro w' hSw; clear hSw; go_simp; try (with_reducible rfl)
      go_simp
      refine lPureW 6 ?vm9 rfl (by rfl) ?ym9 ?rm9
      case ym9 => intro w' hSw; clear hSw; go_simp; try (with_reducible rfl)
      go_simp
      refine lPureW 7 ?vm10 rfl (by rfl) ?ym10 ?rm10
      case ym10 => intro w' hSw; clear hSw; go_simp; try (with_reducible rfl)
      go_simp
      refine restL_one (i := 9) (by kernel_rfl) rfl (fun K hK => ?_)
      have ROc : Hid (Row y3 (y1.heap.size) 42 [.int .i64 0, .int .i64 0, .int .i64 0, .slice none 0 0]) := (rowCells RO.out B_y2.out)
      have HSc : Hid (PSep y3 q QA qn qs (y1.heap.size) (y1.heap.size + 1)) := HS.out
      have BWc : Hid (Below w4.heap.size w4 y3) := B_w4.out
      obtain ⟨z0, z1, z2, z3, zl⟩ := ROc.out.cells4
      have zf0 := ROc.out.frozen 0
      have zf1 := ROc.out.frozen 1
      have zf2 := ROc.out.frozen 2
      have zf3 := ROc.out.frozen 3
      go_simp
      refine hK.out _ _ (fun h => absurd h (by decide)) (fun _ => ?_)
      clear hK K
      try go_simp
      refine lPureW 10 ?vm11 rfl (by rfl) ?ym11 ?rm11
      case ym11 => intro w' hSw; clear hSw; go_simp; try (with_reducible rfl)
      go_simp
      refine restL_done (by kernel_rfl) ?_ _
      clear z0 z1 z2 z3 zl zf0 zf1 zf2 zf3
      go_wp2_with fail
      go_meet
      case rel => exact ⟨y1.heap.size, QA, qn, qc, qs, rfl, rfl, (Row.set (Row.set (Row.set (Row.set ROc.out 0 (.int .i64 q.w)) 1 (.int .i64 q.h)) 2 (.int .i64 q.edge)) 3 (.slice QA qn qc)), (PSep.far (PSep.far (PSep.far (PSep.far HSc.out (q := ⟨y1.heap.size, 0, none⟩) (Nat.le_refl _) (Nat.lt_succ_self _) (.int .i64 q.w)) (q := ⟨y1.heap.size, 1, none⟩) (Nat.le_refl _) (Nat.lt_succ_self _) (.int .i64 q.h)) (q := ⟨y1.heap.size, 2, none⟩) (Nat.le_refl _) (Nat.lt_succ_self _) (.int .i64 q.edge)) (q := ⟨y1.heap.size, 3, none⟩) (Nat.le_refl _) (Nat.lt_succ_self _) (.slice QA qn qc)).pat, (Below.setCell (Below.setCell (Below.setCell (Below.setCell BWc.out (p := ⟨y1.heap.size, 0, none⟩) hszb (.int .i64 q.w)) (p := ⟨y1.heap.size, 1, none⟩) hszb (.int .i64 q.h)) (p := ⟨y1.heap.size, 2, none⟩) hszb (.int .i64 q.edge)) (p := ⟨y1.heap.size, 3, none⟩) hszb (.slice QA qn qc))⟩
    ·go_simp
     have RO : Hid (Row (World.alloc w4q (.cells #[.int .i64 0, .int .i64 0, .int .i64 0, .slice none 0 0] 42)) w4q.heap.size 42 [.int .i64 0, .int .i64 0, .int .i64 0, .slice none 0 0]) := Row.new w4q 42 [.int .i64 0, .int .i64 0, .int .i64 0, .slice none 0 0]
     have hb : Below w4q.heap.size w4q (World.alloc w4q (.cells #[.int .i64 0, .int .i64 0, .int .i64 0, .slice none 0 0] 42)) := (Below.refl _ _).alloc (Nat.le_refl _) _
     have hszb : w4.heap.size ≤ w4q.heap.size := B_w4.out.size
     revert RO hb hszb
     generalize (World.alloc w4q (.cells #[.int .i64 0, .int .i64 0, .int .i64 0, .slice none 0 0] 42)) = y1
     intro RO hb hszb
     clear hHeld
     have B_w4 : Hid (Below w4.heap.size w4 y1) := below_on2 B_w4.out hb
     have B_w4q : Hid (Below w4q.heap.size w4q y1) := hb
     clear hb
     refine hK.out _ _ (fun _ => ?keep) (fun hHeld => ?_)
     case keep => exact ⟨(rowCells RG4.out B_w4.out), (rowCells RT4.out B_w4.out)⟩
     have hHeld := hHeld rfl
     clear hK K
     try go_simp
     refine restL_one (i := 3) (by kernel_rfl) rfl (fun K hK => ?_)
     go_simp
     go_at_call 25
     have HC := rBits_any t.states y1
     rw [HNB.out ()] at HC
     refine HC.mono ?_
     clear HC
     rintro e y2 ⟨rfl, hb0⟩
     have hb : Below y1.heap.size y1 y2 := hb0 ▸ Below.refl _ _
     clear hHeld hb0
     have B_w4 : Hid (Below w4.heap.size w4 y2) := below_on2 B_w4.out hb
     have B_w4q : Hid (Below w4q.heap.size w4q y2) := below_on2 B_w4q.out hb
     have B_y1 : Hid (Below y1.heap.size y1 y2) := hb
     clear hb
     refine hK.out _ _ (fun _ => ?keep) (fun hHeld => ?_)
     case keep => exact ⟨(rowCells RG4.out B_w4.out), (rowCells RT4.out B_w4.out)⟩
     have hHeld := hHeld rfl
     clear hK K
     try go_simp
     refine restL_one (i := 4) (by kernel_rfl) rfl (fun K hK => ?_)
     go_simp
     go_at_call 24
     have HC := plPack_any g A n ac nb y2 (HG4.out.up B_w4.out)
     rw [HCO.out.1, HCO.out.2.1] at HC
     unfold PPost at HC
     refine HC.mono ?_
     clear HC
     rintro e y3 ⟨QA, qn, qc, M, gs, rfl, ho, ⟨hl1, hl2, hl3⟩, hb⟩
     obtain ⟨qs, hks⟩ := ho.sep hl1 (by unfold maxLen; omega) (by unfold maxLen; omega)
     have hrl := (rowCells RO.out B_y1.out).lt
     have HS : Hid (PSep y3 q QA qn qs (w4q.heap.size) (w4q.heap.size + 1)) := hks _ _ (by omega)
     clear hrl
     clear hks ho hl1 hl2 hl3 hHeld
     have B_w4 : Hid (Below w4.heap.size w4 y3) := below_on2 B_w4.out hb
     have B_w4q : Hid (Below w4q.heap.size w4q y3) := below_on2 B_w4q.out hb
     have B_y1 : Hid (Below y1.heap.size y1 y3) := below_on2 B_y1.out hb
     have B_y2 : Hid (Below y2.heap.size y2 y3) := hb
     clear hb
     refine hK.out _ _ (fun _ => ?keep) (fun hHeld => ?_)
     case keep => exact ⟨(rowCells RG4.out B_w4.out), (rowCells RT4.out B_w4.out)⟩
     have hHeld := hHeld rfl
     clear hK K
     try go_simp
     refine lPureW 5 ?vm12 rfl (by rfl) ?ym12 ?rm12
     case ym12 => intro w' hSw; clear hSw; go_simp; try (with_reducible rfl)
     go_simp
     refine lPureW 6 ?vm13 rfl (by rfl) ?ym13 ?rm13
     case ym13 => intro w' hSw; clear hSw; go_simp; try (with_reducible rfl)
     go_simp
     refine lPureW 7 ?vm14 rfl (by rfl) ?ym14 ?rm14
     case ym14 => intro w' hSw; clear hSw; go_simp; try (with_reducible rfl)
     go_simp
     refine restL_one (i := 9) (by kernel_rfl) rfl (fun K hK => ?_)
     have ROc : Hid (Row y3 (w4q.heap.size) 42 [.int .i64 0, .int .i64 0, .int .i64 0, .slice none 0 0]) := (rowCells RO.out B_y1.out)
     have HSc : Hid (PSep y3 q QA qn qs (w4q.heap.size) (w4q.heap.size + 1)) := HS.out
     have BWc : Hid (Below w4.heap.size w4 y3) := B_w4.out
     obtain ⟨z0, z1, z2, z3, zl⟩ := ROc.out.cells4
     have zf0 := ROc.out.frozen 0
     have zf1 := ROc.out.frozen 1
     have zf2 := ROc.out.frozen 2
     have zf3 := ROc.out.frozen 3
     go_simp
     refine hK.out _ _ (fun h => absurd h (by decide)) (fun _ => ?_)
     clear hK K
     try go_simp
     refine lPureW 10 ?vm15 rfl (by rfl) ?ym15 ?rm15
     case ym15 => intro w' hSw; clear hSw; go_simp; try (with_reducible rfl)
     go_simp
     refine restL_done (by kernel_rfl) ?_ _
     clear z0 z1 z2 z3 zl zf0 zf1 zf2 zf3
     go_wp2_with fail
     go_meet
     case rel => exact ⟨w4q.heap.size, QA, qn, qc, qs, rfl, rfl, (Row.set (Row.set (Row.set (Row.set ROc.out 0 (.int .i64 q.w)) 1 (.int .i64 q.h)) 2 (.int .i64 q.edge)) 3 (.slice QA qn qc)), (PSep.far (PSep.far (PSep.far (PSep.far HSc.out (q := ⟨w4q.heap.size, 0, none⟩) (Nat.le_refl _) (Nat.lt_succ_self _) (.int .i64 q.w)) (q := ⟨w4q.heap.size, 1, none⟩) (Nat.le_refl _) (Nat.lt_succ_self _) (.int .i64 q.h)) (q := ⟨w4q.heap.size, 2, none⟩) (Nat.le_refl _) (Nat.lt_succ_self _) (.int .i64 q.edge)) (q := ⟨w4q.heap.size, 3, none⟩) (Nat.le_refl _) (Nat.lt_succ_self _) (.slice QA qn qc)).pat, (Below.setCell (Below.setCell (Below.setCell (Below.setCell BWc.out (p := ⟨w4q.heap.size, 0, none⟩) hszb (.int .i64 q.w)) (p := ⟨w4q.heap.size, 1, none⟩) hszb (.int .i64 q.h)) (p := ⟨w4q.heap.size, 2, none⟩) hszb (.int .i64 q.edge)) (p := ⟨w4q.heap.size, 3, none⟩) hszb (.slice QA qn qc))⟩
   obtain ⟨ob, QA, qn, qc, qs, rfl, rfl, h1, h2, h6⟩ := hcut
   obtain ⟨w5, rfl⟩ : ∃ w5 : World, w5 = wc := ⟨_, rfl⟩
   have RO5 : Hid (Row w5 ob 42 [.int .i64 q.w, .int .i64 q.h, .int .i64 q.edge, .slice QA qn qc]) := h1
   have HQ5 : Hid (PAt w5 q QA qn qs) := h2
   have HE5 : Hid (EngAt w5 b t GA OA PA gn gc on oc pn pc) := HE.out.up h6
   have RG5 : Hid (Row w5 (w.heap.size + 1) 54 [.int .i64 g.w, .int .i64 g.h, .int .i64 g.edge, .slice A n ac]) := rowCells RG4.out h6
   have RT5 : Hid (Row w5 w.heap.size 25 [.int .i64 t.states, .slice HA hn hc, .slice NA nn nc]) := rowCells RT4.out h6
   have HT5 : Hid (TAt w5 t HA NA hn nn sl) := HT4.out.up h6
   have HG5 : Hid (GAt w5 g A n) := HG4.out.up h6
   have BW5 : Hid (Below w.heap.size w w5) := below_on2 BW4.out h6
   clear h1 h2 h6 RG4 RT4 HT4 HG4 BW4 HE
   have HR1 : Hid (runErr t q ((1 : Nat) : Int) = 0 ∧ runPl t q ((1 : Nat) : Int) = nextPl t q) := run_good1 HCO.out.2.2
   obtain ⟨r, hr⟩ : ∃ r, nextPl t q = r := ⟨_, rfl⟩
   rw [hr] at HR1 HCN
   clear hr
   obtain ⟨k0, k1, k2, k3, kl⟩ := RO5.out.cells4
   go_wp2_with fail
   clear k0 k1 k2 k3 kl
   have HC := step_any b t GA OA PA gn gc on oc pn pc q QA qn qc qs w5 HE5.out HQ5.out
   rw [show (1 : Int) = ((1 : Nat) : Int) from rfl, HR1.out.1, HR1.out.2] at HC
   unfold PlPostA at HC
   refine HC.mono ?_
   clear HC
   rintro e w6 ⟨RA, rn, rc, rs, rfl, -, hat, hb⟩
   have HR6 : Hid (PAt w6 r RA rn rs) := hat
   clear hat
   have B_w5 : Hid (Below w5.heap.size w5 w6) := hb
   clear hb
   go_upto_region 14 with fail
   have RR : Hid (Row (World.alloc w6 (.cells #[.int .i64 r.w, .int .i64 r.h, .int .i64 r.edge, .slice RA rn rc] 42)) (w6.heap.size) 42 [.int .i64 r.w, .int .i64 r.h, .int .i64 r.edge, .slice RA rn rc]) := by
    have h0 := Row.new w6 42 [.int .i64 r.w, .int .i64 r.h, .int .i64 r.edge, .slice RA rn rc]
    try simp only [World.size_alloc] at h0
    exact h0
   have hgr9 : Below w6.heap.size w6 (World.alloc w6 (.cells #[.int .i64 r.w, .int .i64 r.h, .int .i64 r.edge, .slice RA rn rc] 42)) := by go_grown
   have B_w5 : Hid (Below w5.heap.size w5 (World.alloc w6 (.cells #[.int .i64 r.w, .int .i64 r.h, .int .i64 r.edge, .slice RA rn rc] 42))) := below_on2 B_w5.out hgr9
   have B_w6 : Hid (Below w6.heap.size w6 (World.alloc w6 (.cells #[.int .i64 r.w, .int .i64 r.h, .int .i64 r.edge, .slice RA rn rc] 42))) := hgr9
   clear hgr9
   revert RR B_w5 B_w6
   generalize (World.alloc w6 (.cells #[.int .i64 r.w, .int .i64 r.h, .int .i64 r.edge, .slice RA rn rc] 42)) = w7
   intro RR B_w5 B_w6
   have kR : Hid (Row w7 (w6.heap.size) 42 [.int .i64 r.w, .int .i64 r.h, .int .i64 r.edge, .slice RA rn rc]) := RR.out
   obtain ⟨k0, k1, k2, k3, kl⟩ := kR.out.cells4
   clear kR
   go_wp2_with fail
   have HC := plUnpack_any r RA rn rc rs w7 (HR6.out.up B_w6.out)
   rw [HCN.out.1, HCN.out.2] at HC
   unfold UPost at HC
   refine HC.mono ?_
   clear HC
   rintro e w8 ⟨UA, un, uc, he, hu, hb⟩
   have he2 : e = .returned (.tuple #[.agg #[.int .i64 g.w, .int .i64 g.h, .int .i64 g.edge, .slice UA un uc], .int .i64 0]) := he
   subst he2
   have HU8 : Hid (GAt w8 (nextG t g) UA un) := hu
   clear he hu
   have B_w5 : Hid (Below w5.heap.size w5 w8) := below_on2 B_w5.out hb
   have B_w6 : Hid (Below w6.heap.size w6 w8) := below_on2 B_w6.out hb
   have B_w7 : Hid (Below w7.heap.size w7 w8) := hb
   clear k0 k1 k2 k3 kl
   clear hb
   go_upto_region 15 with fail
   have RU : Hid (Row (World.alloc w8 (.cells #[.int .i64 g.w, .int .i64 g.h, .int .i64 g.edge, .slice UA un uc] 54)) (w8.heap.size) 54 [.int .i64 g.w, .int .i64 g.h, .int .i64 g.edge, .slice UA un uc]) := by
    have h0 := Row.new w8 54 [.int .i64 g.w, .int .i64 g.h, .int .i64 g.edge, .slice UA un uc]
    try simp only [World.size_alloc] at h0
    exact h0
   have hgr9 : Below w8.heap.size w8 (World.alloc w8 (.cells #[.int .i64 g.w, .int .i64 g.h, .int .i64 g.edge, .slice UA un uc] 54)) := by go_grown
   have B_w5 : Hid (Below w5.heap.size w5 (World.alloc w8 (.cells #[.int .i64 g.w, .int .i64 g.h, .int .i64 g.edge, .slice UA un uc] 54))) := below_on2 B_w5.out hgr9
   have B_w6 : Hid (Below w6.heap.size w6 (World.alloc w8 (.cells #[.int .i64 g.w, .int .i64 g.h, .int .i64 g.edge, .slice UA un uc] 54))) := below_on2 B_w6.out hgr9
   have B_w7 : Hid (Below w7.heap.size w7 (World.alloc w8 (.cells #[.int .i64 g.w, .int .i64 g.h, .int .i64 g.edge, .slice UA un uc] 54))) := below_on2 B_w7.out hgr9
   have B_w8 : Hid (Below w8.heap.size w8 (World.alloc w8 (.cells #[.int .i64 g.w, .int .i64 g.h, .int .i64 g.edge, .slice UA un uc] 54))) := hgr9
   clear hgr9
   revert RU B_w5 B_w6 B_w7 B_w8
   generalize (World.alloc w8 (.cells #[.int .i64 g.w, .int .i64 g.h, .int .i64 g.edge, .slice UA un uc] 54)) = w9
   intro RU B_w5 B_w6 B_w7 B_w8
   refine wp_region_L (fun w' => Row w' (w.heap.size) 25 [.int .i64 t.states, .slice HA hn hc, .slice NA nn nc] ∧ Row w' ((w.heap.size + 1)) 54 [.int .i64 g.w, .int .i64 g.h, .int .i64 g.edge, .slice A n ac] ∧ Row w' (w8.heap.size) 54 [.int .i64 g.w, .int .i64 g.h, .int .i64 g.edge, .slice UA un uc]) [] (by kernel_rfl) (by exact ⟨Row.drew (rowCells RT5.out B_w5.out), Row.drew (rowCells RG5.out B_w5.out), Row.drew RU.out⟩) (fun hHeld => ?_)
   have B_w5 : Hid (Below w5.heap.size w5 (World.drew w9)) := B_w5.out.drew
   have B_w6 : Hid (Below w6.heap.size w6 (World.drew w9)) := B_w6.out.drew
   have B_w7 : Hid (Below w7.heap.size w7 (World.drew w9)) := B_w7.out.drew
   have B_w8 : Hid (Below w8.heap.size w8 (World.drew w9)) := B_w8.out.drew
   have B_w9 : Hid (Below w9.heap.size w9 (World.drew w9)) := (Below.refl _ _).drew
   revert hHeld B_w5 B_w6 B_w7 B_w8 B_w9
   generalize World.drew w9 = w9q
   intro hHeld B_w5 B_w6 B_w7 B_w8 B_w9
   refine lPureW 0 ?vz1 rfl (by rfl) ?yz1 ?rz1
   case yz1 => intro w' hSw; clear hSw; go_simp; try (with_reducible rfl)
   go_simp
   refine lPureW 1 ?vz2 rfl (by rfl) ?yz2 ?rz2
   case yz2 => intro w' hSw; clear hSw; go_simp; try (with_reducible rfl)
   go_simp
   refine lPureW 2 ?vz3 rfl (by rfl) ?yz3 ?rz3
   case yz3 => intro w' hSw; clear hSw; go_simp; try (with_reducible rfl)
   go_simp
   refine lPureW 3 ?vz4 rfl (by first | rfl | (go_simp; done)) ?yz4 ?rz4
   case yz4 => intro w' hSw; clear hSw; go_simp; try (with_reducible rfl)
   go_simp
   refine lPureW 4 ?vz5 rfl (by first | rfl | (go_simp; done)) ?yz5 ?rz5
   case yz5 => intro w' hSw; clear hSw; go_simp; try (with_reducible rfl)
   go_simp
   refine lPureW 5 ?vz6 rfl (by rfl) ?yz6 ?rz6
   case yz6 => intro w' hSw; clear hSw; go_simp; try (with_reducible rfl)
   go_simp
   refine lPureW 6 ?vz7 rfl (by rfl) ?yz7 ?rz7
   case yz7 => intro w' hSw; clear hSw; go_simp; try (with_reducible rfl)
   go_simp
   refine lPureW 7 ?vz8 rfl (by first | rfl | (go_simp; done)) ?yz8 ?rz8
   case yz8 => intro w' hSw; clear hSw; go_simp; try (with_reducible rfl)
   go_simp
   refine lPureW 8 ?vz9 rfl (by first | rfl | (go_simp; done)) ?yz9 ?rz9
   case yz9 => intro w' hSw; clear hSw; go_simp; try (with_reducible rfl)
   go_simp
   refine lPureW 9 ?vz10 rfl (by rfl) ?yz10 ?rz10
   case yz10 => intro w' hSw; clear hSw; go_simp; try (with_reducible rfl)
   go_simp
   refine lPureW 10 ?vz11 rfl (by rfl) ?yz11 ?rz11
   case yz11 => intro w' hSw; clear hSw; go_simp; try (with_reducible rfl)
   go_simp
   refine lTakeW 11 ?vz12 [] rfl (by first | rfl | (go_simp; done)) ?yz12 hHeld ?rz12
   case yz12 =>
    intro w' hSw
    obtain ⟨s0, s1, s2⟩ := hSw
    have hT0 : Hid (Row w' (w.heap.size) 25 [.int .i64 t.states, .slice HA hn hc, .slice NA nn nc]) := s0
    obtain ⟨z0_0, z0_1, z0_2, z0_l⟩ := hT0.out.cells3
    have hT1 : Hid (Row w' ((w.heap.size + 1)) 54 [.int .i64 g.w, .int .i64 g.h, .int .i64 g.edge, .slice A n ac]) := s1
    obtain ⟨z1_0, z1_1, z1_2, z1_3, z1_l⟩ := hT1.out.cells4
    have hT2 : Hid (Row w' (w8.heap.size) 54 [.int .i64 g.w, .int .i64 g.h, .int .i64 g.edge, .slice UA un uc]) := s2
    obtain ⟨z2_0, z2_1, z2_2, z2_3, z2_l⟩ := hT2.out.cells4
    clear s0 s1 s2
    go_simp
    try (with_reducible rfl)
   go_simp
   refine lTakeW 12 ?vz13 [] rfl (by first | rfl | (go_simp; done)) ?yz13 hHeld ?rz13
   case yz13 =>
    intro w' hSw
    obtain ⟨s0, s1, s2⟩ := hSw
    have hT0 : Hid (Row w' (w.heap.size) 25 [.int .i64 t.states, .slice HA hn hc, .slice NA nn nc]) := s0
    obtain ⟨z0_0, z0_1, z0_2, z0_l⟩ := hT0.out.cells3
    have hT1 : Hid (Row w' ((w.heap.size + 1)) 54 [.int .i64 g.w, .int .i64 g.h, .int .i64 g.edge, .slice A n ac]) := s1
    obtain ⟨z1_0, z1_1, z1_2, z1_3, z1_l⟩ := hT1.out.cells4
    have hT2 : Hid (Row w' (w8.heap.size) 54 [.int .i64 g.w, .int .i64 g.h, .int .i64 g.edge, .slice UA un uc]) := s2
    obtain ⟨z2_0, z2_1, z2_2, z2_3, z2_l⟩ := hT2.out.cells4
    clear s0 s1 s2
    go_simp
    try (with_reducible rfl)
   go_simp
   refine lTakeW 13 ?vz14 [] rfl (by first | rfl | (go_simp; done)) ?yz14 hHeld ?rz14
   case yz14 =>
    intro w' hSw
    obtain ⟨s0, s1, s2⟩ := hSw
    have hT0 : Hid (Row w' (w.heap.size) 25 [.int .i64 t.states, .slice HA hn hc, .slice NA nn nc]) := s0
    obtain ⟨z0_0, z0_1, z0_2, z0_l⟩ := hT0.out.cells3
    have hT1 : Hid (Row w' ((w.heap.size + 1)) 54 [.int .i64 g.w, .int .i64 g.h, .int .i64 g.edge, .slice A n ac]) := s1
    obtain ⟨z1_0, z1_1, z1_2, z1_3, z1_l⟩ := hT1.out.cells4
    have hT2 : Hid (Row w' (w8.heap.size) 54 [.int .i64 g.w, .int .i64 g.h, .int .i64 g.edge, .slice UA un uc]) := s2
    obtain ⟨z2_0, z2_1, z2_2, z2_3, z2_l⟩ := hT2.out.cells4
    clear s0 s1 s2
    go_simp
    try (with_reducible rfl)
   go_simp
   refine restL_one (i := 14) (by kernel_rfl) rfl (fun K hK => ?_)
   go_simp
   go_at_call 28
   have HC := rNext_any t g HA NA A hn hc nn nc n ac sl w9q (HT5.out.up B_w5.out) (HG5.out.up B_w5.out) HOK.out
   unfold GridPost at HC
   refine HC.mono ?_
   clear HC
   rintro e y1 ⟨XA, xn, xc, he, hx, -, hb⟩
   have he2 : e = .returned (.agg #[.int .i64 g.w, .int .i64 g.h, .int .i64 g.edge, .slice XA xn xc]) := he
   subst he2
   have HX : Hid (GAt y1 (nextG t g) XA xn) := hx
   clear he hx hHeld
   have B_w5 : Hid (Below w5.heap.size w5 y1) := below_on2 B_w5.out hb
   have B_w6 : Hid (Below w6.heap.size w6 y1) := below_on2 B_w6.out hb
   have B_w7 : Hid (Below w7.heap.size w7 y1) := below_on2 B_w7.out hb
   have B_w8 : Hid (Below w8.heap.size w8 y1) := below_on2 B_w8.out hb
   have B_w9 : Hid (Below w9.heap.size w9 y1) := below_on2 B_w9.out hb
   have B_w9q : Hid (Below w9q.heap.size w9q y1) := hb
   clear hb
   refine hK.out _ _ (fun _ => ?keep) (fun hHeld => ?_)
   case keep => exact ⟨(rowCells RT5.out B_w5.out), (rowCells RG5.out B_w5.out), (rowCells RU.out B_w9.out)⟩
   have hHeld := hHeld rfl
   clear hK K
   try go_simp
   refine restL_one (i := 15) (by kernel_rfl) rfl (fun K hK => ?_)
   go_simp
   go_at_call 27
   have HC := rGSame_any (nextG t g) (nextG t g) UA XA un uc xn xc y1 (HU8.out.up B_w8.out) HX.out
   rw [(sameG_iff (nextG t g) (nextG t g)).2 rfl] at HC
   refine HC.mono ?_
   clear HC
   rintro e y2 ⟨rfl, hb⟩
   clear hHeld
   have B_w5 : Hid (Below w5.heap.size w5 y2) := below_on2 B_w5.out hb
   have B_w6 : Hid (Below w6.heap.size w6 y2) := below_on2 B_w6.out hb
   have B_w7 : Hid (Below w7.heap.size w7 y2) := below_on2 B_w7.out hb
   have B_w8 : Hid (Below w8.heap.size w8 y2) := below_on2 B_w8.out hb
   have B_w9 : Hid (Below w9.heap.size w9 y2) := below_on2 B_w9.out hb
   have B_w9q : Hid (Below w9q.heap.size w9q y2) := below_on2 B_w9q.out hb
   have B_y1 : Hid (Below y1.heap.size y1 y2) := hb
   clear hb
   refine hK.out _ _ (fun _ => ?keep) (fun hHeld => ?_)
   case keep => exact ⟨(rowCells RT5.out B_w5.out), (rowCells RG5.out B_w5.out), (rowCells RU.out B_w9.out)⟩
   have hHeld := hHeld rfl
   clear hK K
   try go_simp
   refine lPureW 16 ?vz15 rfl (by rfl) ?yz15 ?rz15
   case yz15 => intro w' hSw; clear hSw; go_simp; try (with_reducible rfl)
   go_simp
   refine lPureW 17 ?vz16 rfl (by rfl) ?yz16 ?rz16
   case yz16 => intro w' hSw; clear hSw; go_simp; try (with_reducible rfl)
   go_simp
   refine restL_one (i := 18) (by kernel_rfl) rfl (fun K hK => ?_)
   go_simp
   go_at_call 9
   refine (alive_any y2).mono ?_
   rintro e y3 ⟨rfl, hb⟩
   clear hHeld
   have B_w5 : Hid (Below w5.heap.size w5 y3) := below_on2 B_w5.out hb
   have B_w6 : Hid (Below w6.heap.size w6 y3) := below_on2 B_w6.out hb
   have B_w7 : Hid (Below w7.heap.size w7 y3) := below_on2 B_w7.out hb
   have B_w8 : Hid (Below w8.heap.size w8 y3) := below_on2 B_w8.out hb
   have B_w9 : Hid (Below w9.heap.size w9 y3) := below_on2 B_w9.out hb
   have B_w9q : Hid (Below w9q.heap.size w9q y3) := below_on2 B_w9q.out hb
   have B_y1 : Hid (Below y1.heap.size y1 y3) := below_on2 B_y1.out hb
   have B_y2 : Hid (Below y2.heap.size y2 y3) := hb
   clear hb
   refine hK.out _ _ (fun _ => ?keep) (fun hHeld => ?_)
   case keep => exact ⟨(rowCells RT5.out B_w5.out), (rowCells RG5.out B_w5.out), (rowCells RU.out B_w9.out)⟩
   have hHeld := hHeld rfl
   clear hK K
   try go_simp
   refine lPureW 19 ?vz17 rfl (by rfl) ?yz17 ?rz17
   case yz17 => intro w' hSw; clear hSw; go_simp; try (with_reducible rfl)
   go_simp
   refine lPureW 20 ?vz18 rfl (by rfl) ?yz18 ?rz18
   case yz18 => intro w' hSw; clear hSw; go_simp; try (with_reducible rfl)
   go_simp
   refine restL_done (by kernel_rfl) ?_ _
   go_wp2_with fail
   go_ret
   exact ⟨rfl, below_on2 BW5.out B_w5.out⟩
end Go.Proofs.Ytiemhbogbaamlaa

/-
 A part.
-/
namespace Go.Proofs.Ytiemhbogbaamlaa
open Go.RowKit Go.ChangeShapes Go.WideShapes Go.ChangeAt Go.Joins
set_option linter.unusedSimpArgs false
set_option linter.unusedVariables false
set_option maxRecDepth 100000 in
theorem planestepCells_lifted (os : Os) (started : os.Started) (H : Type) (enc : TypeId × Value → H) :
 ReturnsInHanded {} Try.checked os 7 .any (Rows.planestepCellsSpec.pre6 enc Try.prog Try.f7 Rows.planestepCellsRow.domain false) (Rows.planestepCellsSpec.post enc Try.prog Try.f7 false true false false) := by
 refine returnsInHanded_of_change (C := Try.checked) Try.own' started (by kernel_rfl) Try.func7
  (ChangeSpec.witness6 (enc := enc) (C := Try.checked) false ⟨#[], #[.agg #[.int .i64 0, .slice none 0 0, .slice none 0 0], .agg #[.int .i64 0, .int .i64 0, .int .i64 0, .slice none 0 0]], []⟩ 8 (by kernel_rfl) (by kernel_rfl) (by kernel_rfl) (by kernel_rfl)) ?_
 intro W base args ds gs before hval0 hW hcnd _
 have hval : ∀ (j : Nat) t v, Try.f7.params[j]? = some t → args[j]? = some v → Value.okWide Try.prog W .any base t v := hval0
 have hW' := hW
 obtain ⟨p, q, hA0, hV, rfl, hfz, hnd⟩ := hW
 have hA : DataW.TrodAll enc Try.prog W 0 (fun _ => true) true Try.f7.params.toList args.toList ds p := hA0
 rw [Try.params7] at hA hval
 obtain ⟨v0, v1, d0, d1, p0, p1, rfl, rfl, rfl, h0, h1⟩ := trodAll_two hA
 obtain ⟨rfl, rfl⟩ := trodVars_none hV
 have h0k := h0
 have hlt0 : ∀ x ∈ p0, x.block < W.heap.size := fun x hx => hW'.lt x (by simp [hx])
 have h1k := h1
 have hlt1 : ∀ x ∈ p1, x.block < W.heap.size := fun x hx => hW'.lt x (by simp [hx])
 obtain ⟨t0, HA0, hn0, hc0, NA0, nn0, nc0, sl0, rfl, hm0⟩ := open_tree (hval 0 25 v0 rfl rfl) h0
 obtain ⟨g1, A1, n1, ac1, rfl, hm1⟩ := open_grid (hval 1 54 v1 rfl rfl) h1
 clear hA0 hval0
 refine (cells_law t0 g1 HA0 NA0 A1 hn0 hc0 nn0 nc0 n1 ac1 sl0 W hm0 hm1).mono fun e W' ⟨he, hb⟩ => ?_
 subst he
 exact ⟨_, rfl, law_post (pa := p0 ++ p1) (pv := []) hW' (fun _ _ _ => trodAll_mk1 (shut_bool Try.underlying4 true)) (trodAll_mk2 (Below.trod Try.laidOut' (by kernel_rfl) (of_decide_eq_true (by kernel_rfl)) h0k hb hlt0) (Below.trod Try.laidOut' (by kernel_rfl) (of_decide_eq_true (by kernel_rfl)) h1k hb hlt1)) rfl hb⟩
theorem planestepCells_holds : Rows.PlanestepCellsSaid :=
 OpenClaim.holds_of_wide 7 Try.f7 rfl rfl rfl rfl rfl rfl rfl ⟨rfl, rfl, rfl, rfl, rfl⟩ rfl rfl rfl rfl rfl (by kernel_rfl) Try.func7 (by kernel_rfl)
  (of_decide_eq_true (by kernel_rfl)) (by unfold Func.isWrapper; first | (rw [if_pos (by decide +kernel)]; kernel_rfl) | (rw [if_neg (by decide +kernel)]; exact ⟨rfl, rfl⟩))
  (fun os started H enc _ => planestepCells_lifted os started H enc)
end Go.Proofs.Ytiemhbogbaamlaa
