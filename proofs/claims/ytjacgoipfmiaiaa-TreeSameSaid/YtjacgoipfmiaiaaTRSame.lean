/-
  Rule trees: Same of the reference, walked.
-/
import Derived.Test.YtjacgoipfmiaiaaTSame
import Derived.BigRegion
namespace Go.Proofs.Ytjacgoipfmiaiaa
open Go.RowKit
set_option linter.unusedSimpArgs false
set_option linter.unusedVariables false

set_option maxRecDepth 100000 in
set_option maxHeartbeats 4000000 in
theorem rTSame_any (a b : Tre) (HA NA HB NB : Option Addr) (ha ca na da hb cb nb db : Nat) (sl sm : List Sl) (w : World) (h1 : TAt w a HA NA ha na sl) (h2 : TAt w b HB NB hb nb sm) :
    Calls Try.prog 24 #[.agg #[.int .i64 a.states, .slice HA ha ca, .slice NA na da], .agg #[.int .i64 b.states, .slice HB hb cb, .slice NB nb db]] w fun e w' => e = .returned (.bool (sameT a b)) ∧ Below w.heap.size w w' := by
  have H1 : Hid (TAt w a HA NA ha na sl) := h1
  have H2 : Hid (TAt w b HB NB hb nb sm) := h2
  have LHA : Hid (a.hood.length = ha) := h1.hl
  have LHB : Hid (b.hood.length = hb) := h2.hl
  have LNA : Hid (a.nodes.length = na) := h1.nl
  have LNB : Hid (b.nodes.length = nb) := h2.nl
  have hm1 := h1.h63
  have hm2 := h1.n63
  have hm3 := h2.h63
  have hm4 := h2.n63
  unfold maxLen at hm1 hm2 hm3 hm4
  clear h1 h2
  by_cases hs : a.states = b.states
  case neg =>
    have HF : Hid (sameT a b = false) := decide_eq_false (fun h => hs h.1)
    have hss : (a.states != b.states) = true := by rw [bne_iff_ne]; exact hs
    clear hs
    go_enter Try.func24, Try.ntmps24
    go_wp2
    go_ret
    exact ⟨ret_bool HF.out.symm, by go_grown⟩
  have HS : Hid (a.states = b.states) := hs
  have hss : (a.states != b.states) = false := by simp [hs]
  clear hs
  by_cases hh : ha = hb
  case neg =>
    have HF : Hid (sameT a b = false) := decide_eq_false (fun h => hh (by rw [← LHA.out, ← LHB.out, h.2.1]))
    have hhs : ((ha : Int) != (hb : Int)) = true := by rw [bne_iff_ne]; omega
    clear hh
    go_enter Try.func24, Try.ntmps24
    go_wp2
    go_ret
    exact ⟨ret_bool HF.out.symm, by go_grown⟩
  subst hh
  have hhs : ((ha : Int) != (ha : Int)) = false := by simp
  by_cases hh : na = nb
  case neg =>
    have HF : Hid (sameT a b = false) := decide_eq_false (fun h => hh (by rw [← LNA.out, ← LNB.out, h.2.2]))
    have hns : ((na : Int) != (nb : Int)) = true := by rw [bne_iff_ne]; omega
    clear hh
    go_enter Try.func24, Try.ntmps24
    go_wp2
    go_ret
    exact ⟨ret_bool HF.out.symm, by go_grown⟩
  subst hh
  have hns : ((na : Int) != (na : Int)) = false := by simp
  go_enter Try.func24, Try.ntmps24
  go_wp2
  have RA : Hid (Row (World.alloc (World.alloc w _) _) w.heap.size 25 [.int .i64 a.states, .slice HA ha ca, .slice NA na da]) := (Row.new w 25 [.int .i64 a.states, .slice HA ha ca, .slice NA na da]).alloc (.cells #[.int .i64 b.states, .slice HB ha cb, .slice NB na db] 25)
  have RB : Hid (Row (World.alloc (World.alloc w (.cells #[.int .i64 a.states, .slice HA ha ca, .slice NA na da] 25)) _) (w.heap.size + 1) 25 [.int .i64 b.states, .slice HB ha cb, .slice NB na db]) := rowNew1 w _ 25 [.int .i64 b.states, .slice HB ha cb, .slice NB na db]
  have HB1 : Hid (Below w.heap.size w (World.alloc (World.alloc w (.cells #[.int .i64 a.states, .slice HA ha ca, .slice NA na da] 25)) (.cells #[.int .i64 b.states, .slice HB ha cb, .slice NB na db] 25))) := by show Below _ _ _; go_grown
  revert RA RB HB1
  generalize World.alloc (World.alloc w (.cells #[.int .i64 a.states, .slice HA ha ca, .slice NA na da] 25)) (.cells #[.int .i64 b.states, .slice HB ha cb, .slice NB na db] 25) = w1
  intro RA RB HB1
  clear hss hhs hns
  go_loopg [5] ha (fun gg s5 wr => ∃ kk : Nat, kk ≤ ha ∧ ha - kk ≤ gg ∧ s5 = .int .i64 kk ∧ Aside (Below w1.heap.size w1 wr) ∧ Aside (∀ j, j < kk → a.hood.getD j default = b.hood.getD j default))
  case atStart => exact ⟨0, Nat.zero_le _, by omega, rfl, Below.refl _ _, fun j hj => absurd hj (Nat.not_lt_zero _)⟩
  case round =>
    obtain ⟨kk, hkk, hg, rfl, BW, AA⟩ := hrel
    have RAi : Hid (Row wr _ _ _) := rowCells RA.out BW.out
    have RBi : Hid (Row wr _ _ _) := rowCells RB.out BW.out
    have HBr : Hid (Below w.heap.size w wr) := below_on2 HB1.out BW.out
    have k0 := RAi.out.cell 0
    have k1 := RAi.out.cell 1
    have k2 := RAi.out.cell 2
    have kl := RAi.out.lt
    simp only [List.getElem?_cons_zero, List.getElem?_cons_succ] at k0 k1 k2
    have m0 := RBi.out.cell 0
    have m1 := RBi.out.cell 1
    have m2 := RBi.out.cell 2
    have ml := RBi.out.lt
    simp only [List.getElem?_cons_zero, List.getElem?_cons_succ] at m0 m1 m2
    by_cases hlt : kk < ha
    · have hltz : (kk : Int) < (ha : Int) := by omega
      obtain ⟨ad, rfl, hb, h0, h1⟩ := (H1.out.up HBr.out).hood.pt hlt
      obtain ⟨ad', rfl, hb', g0, g1⟩ := (H2.out.up HBr.out).hood.pt hlt
      generalize hz1 : a.hood.getD kk default = x at h0 h1
      generalize hz2 : b.hood.getD kk default = y at g0 g1
      have HE : Aside (a.hood.getD kk default = x ∧ b.hood.getD kk default = y) := ⟨hz1, hz2⟩
      clear hz1 hz2
      have hq := pt_neq x y
      cases hxy : !ptEq x y
      all_goals rw [hxy] at hq
      · go_wp2_with fail
        go_quiet (fail)
        go_wp2
        go_roundg (ha - (kk + 1))
        case measure => omega
        case rel =>
          refine ⟨kk + 1, by omega, by omega, by go_num, (show Below _ _ _ from below_drewN BW.out _), (show Aside _ from fun j hj => ?_)⟩
          by_cases e : j = kk
          · subst e
            rw [HE.out.1, HE.out.2]
            exact (ptEq_iff x y).1 (by simpa using hxy)
          · exact AA.out j (by omega)
      · have HF : Hid (sameT a b = false) := decide_eq_false (fun h => by
          have e := h.2.1
          rw [e] at HE
          have := HE.out.1.symm.trans HE.out.2
          rw [(ptEq_iff x y).2 this] at hxy
          cases hxy)
        go_wp2_with fail
        go_quiet (fail)
        go_wp2
        go_ret
        exact ⟨ret_bool HF.out.symm, below_drewN HBr.out _⟩
    · have hltz : ¬ (kk : Int) < (ha : Int) := by omega
      obtain rfl : kk = ha := by omega
      have HHD : Hid (a.hood = b.hood) := list_eq_of_getD (LHA.out.trans LHB.out.symm) default (fun k hk => AA.out k (by rw [LHA.out] at hk; exact hk))
      clear AA
      go_wp2
      have HB2 : Hid (Below w1.heap.size w1 wr) := BW.out
      clear k0 k1 k2 kl m0 m1 m2 ml RAi RBi BW HBr
      obtain ⟨wo, rfl⟩ : ∃ wo : World, wo = wr := ⟨_, rfl⟩
      go_loopg [6, 7, 8, 9] na (fun gg s6 _ _ _ wr => ∃ kk : Nat, kk ≤ na ∧ na - kk ≤ gg ∧ s6 = .int .i64 kk ∧ Aside (Below w1.heap.size w1 wr) ∧ Aside (∀ j, j < kk → a.nodes.getD j default = b.nodes.getD j default))
      case atStart => exact ⟨0, Nat.zero_le _, by omega, rfl, HB2.out, fun j hj => absurd hj (Nat.not_lt_zero _)⟩
      case round =>
        clear HB2
        obtain ⟨kk, hkk, hg, rfl, BW, AA⟩ := hrel
        have RAi : Hid (Row wr _ _ _) := rowCells RA.out BW.out
        have RBi : Hid (Row wr _ _ _) := rowCells RB.out BW.out
        have HBr : Hid (Below w.heap.size w wr) := below_on2 HB1.out BW.out
        have k0 := RAi.out.cell 0
        have k1 := RAi.out.cell 1
        have k2 := RAi.out.cell 2
        have kl := RAi.out.lt
        simp only [List.getElem?_cons_zero, List.getElem?_cons_succ] at k0 k1 k2
        have m0 := RBi.out.cell 0
        have m1 := RBi.out.cell 1
        have m2 := RBi.out.cell 2
        have ml := RBi.out.lt
        simp only [List.getElem?_cons_zero, List.getElem?_cons_succ] at m0 m1 m2
        by_cases hlt : kk < na
        · have hltz : (kk : Int) < (na : Int) := by omega
          obtain ⟨ad, rfl, hb, h0, h1⟩ := (H1.out.up HBr.out).node hlt
          obtain ⟨ad', rfl, hb', g0, g1⟩ := (H2.out.up HBr.out).node hlt
          have HX : Hid _ := (H1.out.up HBr.out).next kk (by rw [LNA.out]; exact hlt)
          have HY : Hid _ := (H2.out.up HBr.out).next kk (by rw [LNB.out]; exact hlt)
          generalize hz1 : a.nodes.getD kk default = x at h0 HX
          generalize hz2 : b.nodes.getD kk default = y at g0 HY
          generalize sl.getD kk default = p at h1 HX
          generalize sm.getD kk default = q at g1 HY
          have HXY : Hid (a.nodes.getD kk default = x ∧ b.nodes.getD kk default = y) := ⟨hz1, hz2⟩
          have LP : Hid (x.next.length = p.len) := by have := HX.out.1.1; rw [ints_length, Nat.mul_one] at this; exact this
          have LQ : Hid (y.next.length = q.len) := by have := HY.out.1.1; rw [ints_length, Nat.mul_one] at this; exact this
          have hz : (ad.add (kk * 2)).block < wr.heap.size := by rw [add_block]; exact hb
          have hz' : (ad'.add (kk * 2)).block < wr.heap.size := by rw [add_block]; exact hb'
          have HAA : Hid (∀ j, j < kk → a.nodes.getD j default = b.nodes.getD j default) := AA.out
          clear hz1 hz2
          go_wp2_with fail
          go_region
          ·
            have RX : Hid (Row (World.alloc (World.alloc wr (.cells #[.int .i64 x.level, .slice p.at_ p.len p.cap] 41)) (.cells #[.int .i64 y.level, .slice q.at_ q.len q.cap] 41)).drew wr.heap.size 41 [.int .i64 x.level, .slice p.at_ p.len p.cap]) := (Row.new wr 41 [.int .i64 x.level, .slice p.at_ p.len p.cap]).alloc _
            have RY : Hid (Row (World.alloc (World.alloc wr (.cells #[.int .i64 x.level, .slice p.at_ p.len p.cap] 41)) (.cells #[.int .i64 y.level, .slice q.at_ q.len q.cap] 41)).drew (wr.heap.size + 1) 41 [.int .i64 y.level, .slice q.at_ q.len q.cap]) := rowNew1 wr _ 41 [.int .i64 y.level, .slice q.at_ q.len q.cap]
            have HE : Hid (Below wr.heap.size wr (World.alloc (World.alloc wr (.cells #[.int .i64 x.level, .slice p.at_ p.len p.cap] 41)) (.cells #[.int .i64 y.level, .slice q.at_ q.len q.cap] 41)).drew) := by show Below _ _ _; go_grown
            clear h0 h1 g0 g1 hz hz' k0 k1 k2 kl m0 m1 m2 ml
            revert RX RY HE
            generalize (World.alloc (World.alloc wr (.cells #[.int .i64 x.level, .slice p.at_ p.len p.cap] 41)) (.cells #[.int .i64 y.level, .slice q.at_ q.len q.cap] 41)).drew = wE
            intro RX RY HE
            have u0 := RX.out.cell 0
            have u1 := RX.out.cell 1
            have ul := RX.out.lt
            simp only [List.getElem?_cons_zero, List.getElem?_cons_succ] at u0 u1
            have v0 := RY.out.cell 0
            have v1 := RY.out.cell 1
            have vl := RY.out.lt
            simp only [List.getElem?_cons_zero, List.getElem?_cons_succ] at v0 v1
            by_cases hq : x.level = y.level ∧ p.len = q.len
            case neg =>
              have HF : Hid (sameT a b = false) := decide_eq_false (fun h => hq (by
                have e := h.2.2
                rw [e] at HXY
                have e2 := HXY.out.1.symm.trans HXY.out.2
                subst e2
                exact ⟨rfl, by rw [← LP.out, ← LQ.out]⟩))
              by_cases hl : x.level = y.level
              · have hn1 : p.len ≠ q.len := fun e => hq ⟨hl, e⟩
                have hn2 : ((p.len : Int) != (q.len : Int)) = true := by rw [bne_iff_ne]; omega
                have hn3 : (x.level != y.level) = false := by simp [hl]
                clear hl hq
                go_wp2
                go_ret
                exact ⟨ret_bool HF.out.symm, below_on2 HB1.out (below_on2 BW.out HE.out)⟩
              · have hn3 : (x.level != y.level) = true := by rw [bne_iff_ne]; exact hl
                clear hl hq
                go_wp2
                go_ret
                exact ⟨ret_bool HF.out.symm, below_on2 HB1.out (below_on2 BW.out HE.out)⟩
            case pos =>
              have HL : Hid (x.level = y.level) := hq.1
              have hn3 : (x.level != y.level) = false := by simp [hq.1]
              have hpq : p.len = q.len := hq.2
              have hn2 : ((p.len : Int) != (q.len : Int)) = false := by rw [hpq]; simp
              generalize hm : p.len = m at hpq RX HX LP u0 u1 hn2
              have HPQ : Hid (m = q.len) := hpq
              have hm63 := HX.out.2
              unfold maxLen at hm63
              rw [← hpq] at RY HY LQ v1 hn2
              clear hq hm hpq
              go_wp2
              clear hn2 hn3 u0 u1 ul v0 v1 vl
              obtain ⟨wo, rfl⟩ : ∃ wo : World, wo = wr := ⟨_, rfl⟩
              go_loopg [9] m (fun gg s9 wi => ∃ ss : Nat, ss ≤ m ∧ m - ss ≤ gg ∧ s9 = .int .i64 ss ∧ Aside (Below wE.heap.size wE wi) ∧ Aside (∀ j, j < ss → x.next.getD j 0 = y.next.getD j 0))
              case atStart => exact ⟨0, Nat.zero_le _, by omega, rfl, Below.refl _ _, fun j hj => absurd hj (Nat.not_lt_zero _)⟩
              case round =>
                obtain ⟨ss, hss, hgs, rfl, BE, AE⟩ := hrel
                have RXi : Hid (Row wr _ _ _) := rowCells RX.out BE.out
                have RYi : Hid (Row wr _ _ _) := rowCells RY.out BE.out
                have HBo : Hid (Below wo.heap.size wo wr) := below_on2 HE.out BE.out
                have u0 := RXi.out.cell 0
                have u1 := RXi.out.cell 1
                have ul := RXi.out.lt
                simp only [List.getElem?_cons_zero, List.getElem?_cons_succ] at u0 u1
                have v0 := RYi.out.cell 0
                have v1 := RYi.out.cell 1
                have vl := RYi.out.lt
                simp only [List.getElem?_cons_zero, List.getElem?_cons_succ] at v0 v1
                by_cases hlts : ss < m
                · have hltsz : (ss : Int) < (m : Int) := by omega
                  obtain ⟨xd, hxe, hxb, hxc⟩ := (HX.out.1.up HBo.out).int hlts
                  obtain ⟨yd, hye, hyb, hyc⟩ := (HY.out.1.up HBo.out).int hlts
                  rw [hxe] at u1
                  rw [hye] at v1
                  generalize h1 : x.next.getD ss 0 = c at hxc
                  generalize h2 : y.next.getD ss 0 = d at hyc
                  have HC : Hid (x.next.getD ss 0 = c ∧ y.next.getD ss 0 = d) := ⟨h1, h2⟩
                  clear h1 h2 hxe hye
                  cases hcd : (c != d)
                  · go_wp2_with fail
                    go_quiet (fail)
                    go_wp2
                    go_roundg (m - (ss + 1))
                    case measure => omega
                    case rel =>
                      refine ⟨ss + 1, by omega, by omega, by go_num, (show Below _ _ _ from below_drewN BE.out _), (show Aside _ from fun j hj => ?_)⟩
                      by_cases e : j = ss
                      · subst e
                        rw [HC.out.1, HC.out.2]
                        simpa using hcd
                      · exact AE.out j (by omega)
                  · have HF : Hid (sameT a b = false) := decide_eq_false (fun h => by
                      have e := h.2.2
                      rw [e] at HXY
                      have e2 := HXY.out.1.symm.trans HXY.out.2
                      rw [e2] at HC
                      have := HC.out.1.symm.trans HC.out.2
                      simp [this] at hcd)
                    go_wp2_with fail
                    go_quiet (fail)
                    go_wp2
                    go_ret
                    exact ⟨ret_bool HF.out.symm, below_drewN (below_on2 HB1.out (below_on2 BW.out HBo.out)) _⟩
                · have hltsz : ¬ (ss : Int) < (m : Int) := by omega
                  obtain rfl : m = ss := by omega
                  have HXYE : Hid (x = y) := by
                    show x = y
                    have e1 := HL.out
                    have e2 : x.next = y.next := list_eq_of_getD (LP.out.trans LQ.out.symm) 0 (fun k hk => AE.out k (by rw [LP.out] at hk; exact hk))
                    cases x; cases y
                    simp only at e1 e2
                    rw [e1, e2]
                  go_wp2
                  go_roundg (na - (kk + 1))
                  case measure => omega
                  case rel =>
                    refine ⟨kk + 1, by omega, by omega, by go_num, (show Below _ _ _ from below_on2 BW.out HBo.out), (show Aside _ from fun j hj => ?_)⟩
                    by_cases e : j = kk
                    · subst e
                      rw [HXY.out.1, HXY.out.2, HXYE.out]
                    · exact AA.out j (by omega)
          ·
            have RY : Hid (Row (World.alloc (World.alloc wr (.cells #[.int .i64 y.level, .slice q.at_ q.len q.cap] 41)) (.cells #[.int .i64 x.level, .slice p.at_ p.len p.cap] 41)).drew wr.heap.size 41 [.int .i64 y.level, .slice q.at_ q.len q.cap]) := (Row.new wr 41 [.int .i64 y.level, .slice q.at_ q.len q.cap]).alloc _
            have RX : Hid (Row (World.alloc (World.alloc wr (.cells #[.int .i64 y.level, .slice q.at_ q.len q.cap] 41)) (.cells #[.int .i64 x.level, .slice p.at_ p.len p.cap] 41)).drew (wr.heap.size + 1) 41 [.int .i64 x.level, .slice p.at_ p.len p.cap]) := rowNew1 wr _ 41 [.int .i64 x.level, .slice p.at_ p.len p.cap]
            have HE : Hid (Below wr.heap.size wr (World.alloc (World.alloc wr (.cells #[.int .i64 y.level, .slice q.at_ q.len q.cap] 41)) (.cells #[.int .i64 x.level, .slice p.at_ p.len p.cap] 41)).drew) := by show Below _ _ _; go_grown
            clear h0 h1 g0 g1 hz hz' k0 k1 k2 kl m0 m1 m2 ml
            revert RY RX HE
            generalize (World.alloc (World.alloc wr (.cells #[.int .i64 y.level, .slice q.at_ q.len q.cap] 41)) (.cells #[.int .i64 x.level, .slice p.at_ p.len p.cap] 41)).drew = wE
            intro RY RX HE
            have u0 := RX.out.cell 0
            have u1 := RX.out.cell 1
            have ul := RX.out.lt
            simp only [List.getElem?_cons_zero, List.getElem?_cons_succ] at u0 u1
            have v0 := RY.out.cell 0
            have v1 := RY.out.cell 1
            have vl := RY.out.lt
            simp only [List.getElem?_cons_zero, List.getElem?_cons_succ] at v0 v1
            by_cases hq : x.level = y.level ∧ p.len = q.len
            case neg =>
              have HF : Hid (sameT a b = false) := decide_eq_false (fun h => hq (by
                have e := h.2.2
                rw [e] at HXY
                have e2 := HXY.out.1.symm.trans HXY.out.2
                subst e2
                exact ⟨rfl, by rw [← LP.out, ← LQ.out]⟩))
              by_cases hl : x.level = y.level
              · have hn1 : p.len ≠ q.len := fun e => hq ⟨hl, e⟩
                have hn2 : ((p.len : Int) != (q.len : Int)) = true := by rw [bne_iff_ne]; omega
                have hn3 : (x.level != y.level) = false := by simp [hl]
                clear hl hq
                go_wp2
                go_ret
                exact ⟨ret_bool HF.out.symm, below_on2 HB1.out (below_on2 BW.out HE.out)⟩
              · have hn3 : (x.level != y.level) = true := by rw [bne_iff_ne]; exact hl
                clear hl hq
                go_wp2
                go_ret
                exact ⟨ret_bool HF.out.symm, below_on2 HB1.out (below_on2 BW.out HE.out)⟩
            case pos =>
              have HL : Hid (x.level = y.level) := hq.1
              have hn3 : (x.level != y.level) = false := by simp [hq.1]
              have hpq : p.len = q.len := hq.2
              have hn2 : ((p.len : Int) != (q.len : Int)) = false := by rw [hpq]; simp
              generalize hm : p.len = m at hpq RX HX LP u0 u1 hn2
              have HPQ : Hid (m = q.len) := hpq
              have hm63 := HX.out.2
              unfold maxLen at hm63
              rw [← hpq] at RY HY LQ v1 hn2
              clear hq hm hpq
              go_wp2
              clear hn2 hn3 u0 u1 ul v0 v1 vl
              obtain ⟨wo, rfl⟩ : ∃ wo : World, wo = wr := ⟨_, rfl⟩
              go_loopg [9] m (fun gg s9 wi => ∃ ss : Nat, ss ≤ m ∧ m - ss ≤ gg ∧ s9 = .int .i64 ss ∧ Aside (Below wE.heap.size wE wi) ∧ Aside (∀ j, j < ss → x.next.getD j 0 = y.next.getD j 0))
              case atStart => exact ⟨0, Nat.zero_le _, by omega, rfl, Below.refl _ _, fun j hj => absurd hj (Nat.not_lt_zero _)⟩
              case round =>
                obtain ⟨ss, hss, hgs, rfl, BE, AE⟩ := hrel
                have RXi : Hid (Row wr _ _ _) := rowCells RX.out BE.out
                have RYi : Hid (Row wr _ _ _) := rowCells RY.out BE.out
                have HBo : Hid (Below wo.heap.size wo wr) := below_on2 HE.out BE.out
                have u0 := RXi.out.cell 0
                have u1 := RXi.out.cell 1
                have ul := RXi.out.lt
                simp only [List.getElem?_cons_zero, List.getElem?_cons_succ] at u0 u1
                have v0 := RYi.out.cell 0
                have v1 := RYi.out.cell 1
                have vl := RYi.out.lt
                simp only [List.getElem?_cons_zero, List.getElem?_cons_succ] at v0 v1
                by_cases hlts : ss < m
                · have hltsz : (ss : Int) < (m : Int) := by omega
                  obtain ⟨xd, hxe, hxb, hxc⟩ := (HX.out.1.up HBo.out).int hlts
                  obtain ⟨yd, hye, hyb, hyc⟩ := (HY.out.1.up HBo.out).int hlts
                  rw [hxe] at u1
                  rw [hye] at v1
                  generalize h1 : x.next.getD ss 0 = c at hxc
                  generalize h2 : y.next.getD ss 0 = d at hyc
                  have HC : Hid (x.next.getD ss 0 = c ∧ y.next.getD ss 0 = d) := ⟨h1, h2⟩
                  clear h1 h2 hxe hye
                  cases hcd : (c != d)
                  · go_wp2_with fail
                    go_quiet (fail)
                    go_wp2
                    go_roundg (m - (ss + 1))
                    case measure => omega
                    case rel =>
                      refine ⟨ss + 1, by omega, by omega, by go_num, (show Below _ _ _ from below_drewN BE.out _), (show Aside _ from fun j hj => ?_)⟩
                      by_cases e : j = ss
                      · subst e
                        rw [HC.out.1, HC.out.2]
                        simpa using hcd
                      · exact AE.out j (by omega)
                  · have HF : Hid (sameT a b = false) := decide_eq_false (fun h => by
                      have e := h.2.2
                      rw [e] at HXY
                      have e2 := HXY.out.1.symm.trans HXY.out.2
                      rw [e2] at HC
                      have := HC.out.1.symm.trans HC.out.2
                      simp [this] at hcd)
                    go_wp2_with fail
                    go_quiet (fail)
                    go_wp2
                    go_ret
                    exact ⟨ret_bool HF.out.symm, below_drewN (below_on2 HB1.out (below_on2 BW.out HBo.out)) _⟩
                · have hltsz : ¬ (ss : Int) < (m : Int) := by omega
                  obtain rfl : m = ss := by omega
                  have HXYE : Hid (x = y) := by
                    show x = y
                    have e1 := HL.out
                    have e2 : x.next = y.next := list_eq_of_getD (LP.out.trans LQ.out.symm) 0 (fun k hk => AE.out k (by rw [LP.out] at hk; exact hk))
                    cases x; cases y
                    simp only at e1 e2
                    rw [e1, e2]
                  go_wp2
                  go_roundg (na - (kk + 1))
                  case measure => omega
                  case rel =>
                    refine ⟨kk + 1, by omega, by omega, by go_num, (show Below _ _ _ from below_on2 BW.out HBo.out), (show Aside _ from fun j hj => ?_)⟩
                    by_cases e : j = kk
                    · subst e
                      rw [HXY.out.1, HXY.out.2, HXYE.out]
                    · exact AA.out j (by omega)
        · have hltz : ¬ (kk : Int) < (na : Int) := by omega
          obtain rfl : kk = na := by omega
          go_wp2
          go_ret
          refine ⟨ret_bool ?_, HBr.out⟩
          symm
          exact decide_eq_true ⟨HS.out, HHD.out, list_eq_of_getD (LNA.out.trans LNB.out.symm) default (fun k hk => AA.out k (by rw [LNA.out] at hk; exact hk))⟩
end Go.Proofs.Ytjacgoipfmiaiaa
