/-
  Comparing lists and formulas, and the sizes that the laws ask for, walked.
-/
import Derived.Test.YtofflkfkakddkaaEMem
import Derived.Test.YtofflkfkakddkaaListEq
import Derived.Test.YtofflkfkakddkaaWalk
namespace Go.Proofs.Ytofflkfkakddkaa
open Go.RowKit
set_option linter.unusedSimpArgs false
set_option linter.unusedVariables false
set_option maxRecDepth 100000 in
set_option maxHeartbeats 1000000 in
theorem rSameInts_any (A B : Option Addr) (n c m d : Nat) (xs ys : List Int) (w : World) (hx : Rd w w.heap.size 1 A n (ints xs)) (hy : Rd w w.heap.size 1 B m (ints ys)) (hn : n ≤ maxLen) (hm : m ≤ maxLen) :
    Calls Try.prog 17 #[.slice A n c, .slice B m d] w fun e w' => e = .returned (.bool (decide (xs = ys))) ∧ Below w.heap.size w w' := by
  have HX : Hid (Rd w w.heap.size 1 A n (ints xs)) := hx
  have HY : Hid (Rd w w.heap.size 1 B m (ints ys)) := hy
  have LX : Hid (xs.length = n) := by have := hx.1; rw [ints_length, Nat.mul_one] at this; exact this
  have LY : Hid (ys.length = m) := by have := hy.1; rw [ints_length, Nat.mul_one] at this; exact this
  unfold maxLen at hn hm
  clear hx hy
  by_cases hnm : n = m
  case neg =>
    have HF : Hid (decide (xs = ys) = false) := decide_eq_false (fun h => hnm (by rw [← LX.out, ← LY.out, h]))
    have hns : ((n : Int) != (m : Int)) = true := by rw [bne_iff_ne]; omega
    clear hnm
    go_enter Try.func17, Try.ntmps17
    go_wp2
    go_ret
    exact ⟨ret_bool HF.out.symm, Below.refl _ _⟩
  subst hnm
  have hns : ((n : Int) != (n : Int)) = false := by simp
  go_enter Try.func17, Try.ntmps17
  go_wp2
  clear hns
  go_loopg [5] n (fun gg s5 wr => ∃ ss : Nat, ss ≤ n ∧ n - ss ≤ gg ∧ s5 = .int .i64 ss ∧ Aside (Below w.heap.size w wr) ∧ Aside (∀ j, j < ss → xs.getD j 0 = ys.getD j 0))
  case atStart => exact ⟨0, Nat.zero_le _, by omega, rfl, Below.refl _ _, fun j hj => absurd hj (Nat.not_lt_zero _)⟩
  case round =>
    obtain ⟨ss, hss, hgs, rfl, BW, AE⟩ := hrel
    by_cases hlts : ss < n
    · have hltsz : (ss : Int) < (n : Int) := by omega
      obtain ⟨xd, rfl, hxb, hxc⟩ := (HX.out.up BW.out).int hlts
      obtain ⟨yd, rfl, hyb, hyc⟩ := (HY.out.up BW.out).int hlts
      generalize e1 : xs.getD ss 0 = u at hxc
      generalize e2 : ys.getD ss 0 = v at hyc
      have HC : Hid (xs.getD ss 0 = u ∧ ys.getD ss 0 = v) := ⟨e1, e2⟩
      clear e1 e2
      cases huv : (u != v)
      · go_wp2_with fail
        go_quiet (fail)
        go_wp2
        go_roundg (n - (ss + 1))
        case measure => omega
        case rel =>
          refine ⟨ss + 1, by omega, by omega, by go_num, (show Below _ _ _ from below_drewN BW.out _), (show Aside _ from fun j hj => ?_)⟩
          by_cases e : j = ss
          · subst e
            rw [HC.out.1, HC.out.2]
            simpa using huv
          · exact AE.out j (by omega)
      · have HF : Hid (decide (xs = ys) = false) := decide_eq_false (fun h => by
          rw [h] at HC
          have := HC.out.1.symm.trans HC.out.2
          simp [this] at huv)
        go_wp2_with fail
        go_quiet (fail)
        go_wp2
        go_ret
        exact ⟨ret_bool HF.out.symm, below_drewN BW.out _⟩
    · have hltsz : ¬ (ss : Int) < (n : Int) := by omega
      obtain rfl : n = ss := by omega
      have HT : Hid (decide (xs = ys) = true) := decide_eq_true (list_eq_of_getD (LX.out.trans LY.out.symm) 0 (fun k hk => AE.out k (by rw [LX.out] at hk; exact hk)))
      go_wp2
      go_ret
      exact ⟨ret_bool HT.out.symm, BW.out⟩

set_option maxRecDepth 100000 in
set_option maxHeartbeats 2000000 in
theorem rEqualF_any (a b : Fml) (A B : Option Addr) (n c m d : Nat) (sl sm : List Sl) (w : World) (h1 : FAt w a A n sl) (h2 : FAt w b B m sm) :
    Calls Try.prog 13 #[.agg #[.int .i64 a.vars, .slice A n c], .agg #[.int .i64 b.vars, .slice B m d]] w fun e w' => e = .returned (.bool (sameF a b)) ∧ Below w.heap.size w w' := by
  have H1 : Hid (FAt w a A n sl) := h1
  have H2 : Hid (FAt w b B m sm) := h2
  have LX : Hid (a.cls.length = n) := h1.wl
  have LY : Hid (b.cls.length = m) := h2.wl
  have hm1 := h1.n63
  have hm2 := h2.n63
  unfold maxLen at hm1 hm2
  clear h1 h2
  by_cases hs : a.vars = b.vars
  case neg =>
    have HF : Hid (sameF a b = false) := decide_eq_false (fun h => hs h.1)
    have hst : (a.vars != b.vars) = true := by simpa using hs
    clear hs
    go_enter Try.func13, Try.ntmps13
    go_wp2
    go_ret
    exact ⟨ret_bool HF.out.symm, by go_grown⟩
  have HS0 : Hid (a.vars = b.vars) := hs
  have hst : (a.vars != b.vars) = false := by simpa using hs
  clear hs
  by_cases hnm : n = m
  case neg =>
    have HF : Hid (sameF a b = false) := decide_eq_false (fun h => hnm (by rw [← LX.out, ← LY.out, h.2]))
    have hns : ((n : Int) != (m : Int)) = true := by rw [bne_iff_ne]; omega
    clear hnm
    go_enter Try.func13, Try.ntmps13
    go_wp2
    go_ret
    exact ⟨ret_bool HF.out.symm, by go_grown⟩
  subst hnm
  have hns : ((n : Int) != (n : Int)) = false := by simp
  go_enter Try.func13, Try.ntmps13
  go_wp2
  have RA : Hid (Row (World.alloc (World.alloc w _) _) w.heap.size 30 [.int .i64 a.vars, .slice A n c]) := (Row.new w 30 [.int .i64 a.vars, .slice A n c]).alloc (.cells #[.int .i64 b.vars, .slice B n d] 30)
  have RB : Hid (Row (World.alloc (World.alloc w (.cells #[.int .i64 a.vars, .slice A n c] 30)) _) (w.heap.size + 1) 30 [.int .i64 b.vars, .slice B n d]) := rowNew1 w _ 30 [.int .i64 b.vars, .slice B n d]
  have HB1 : Hid (Below w.heap.size w (World.alloc (World.alloc w (.cells #[.int .i64 a.vars, .slice A n c] 30)) (.cells #[.int .i64 b.vars, .slice B n d] 30))) := by show Below _ _ _; go_grown
  revert RA RB HB1
  generalize World.alloc (World.alloc w (.cells #[.int .i64 a.vars, .slice A n c] 30)) (.cells #[.int .i64 b.vars, .slice B n d] 30) = w1
  intro RA RB HB1
  clear hst hns
  go_loopg [5, 6, 7, 8] n (fun gg s5 _ _ _ wr => ∃ kk : Nat, kk ≤ n ∧ n - kk ≤ gg ∧ s5 = .int .i64 kk ∧ Aside (Below w1.heap.size w1 wr) ∧ Aside (∀ j, j < kk → a.cls.getD j [] = b.cls.getD j []))
  case atStart => exact ⟨0, Nat.zero_le _, by omega, rfl, Below.refl _ _, fun j hj => absurd hj (Nat.not_lt_zero _)⟩
  case round =>
    obtain ⟨kk, hkk, hg, rfl, BW, AA⟩ := hrel
    have RAi : Hid (Row wr _ _ _) := rowCells RA.out BW.out
    have RBi : Hid (Row wr _ _ _) := rowCells RB.out BW.out
    have HBr : Hid (Below w.heap.size w wr) := below_on2 HB1.out BW.out
    have k0 := RAi.out.cell 0
    have k1 := RAi.out.cell 1
    have kl := RAi.out.lt
    simp only [List.getElem?_cons_zero, List.getElem?_cons_succ] at k0 k1
    have m0 := RBi.out.cell 0
    have m1 := RBi.out.cell 1
    have ml := RBi.out.lt
    simp only [List.getElem?_cons_zero, List.getElem?_cons_succ] at m0 m1
    by_cases hlt : kk < n
    · have hltz : (kk : Int) < (n : Int) := by omega
      obtain ⟨ad, rfl, hb, h0, hx1, hx2, hx3⟩ := (H1.out.up HBr.out).row hlt
      obtain ⟨ad', rfl, hb', g0, hy1, hy2, hy3⟩ := (H2.out.up HBr.out).row hlt
      have HXA : Hid (∀ w9, Below wr.heap.size wr w9 → Rd w9 w9.heap.size 1 (sl.getD kk default).at_ (sl.getD kk default).len (ints (a.cls.getD kk []))) := fun w9 h9 => hx1.up h9
      have HYA : Hid (∀ w9, Below wr.heap.size wr w9 → Rd w9 w9.heap.size 1 (sm.getD kk default).at_ (sm.getD kk default).len (ints (b.cls.getD kk []))) := fun w9 h9 => hy1.up h9
      clear hx1 hy1
      generalize hz1 : a.cls.getD kk [] = x at HXA hx3
      generalize hz2 : b.cls.getD kk [] = y at HYA hy3
      generalize sl.getD kk default = p at h0 HXA hx2 hx3
      generalize sm.getD kk default = q at g0 HYA hy2 hy3
      have HE : Aside (a.cls.getD kk [] = x ∧ b.cls.getD kk [] = y) := ⟨hz1, hz2⟩
      have HX3 : Hid (x.length = p.len) := hx3
      have HY3 : Hid (y.length = q.len) := hy3
      clear hz1 hz2 hx3 hy3
      obtain ⟨pa, pl, pc⟩ := p
      obtain ⟨qa, ql, qc⟩ := q
      dsimp only at h0 g0 hx2 hy2
      unfold maxLen at hx2 hy2
      by_cases hpq : pl = ql
      case neg =>
        have HF : Hid (sameF a b = false) := decide_eq_false (fun h => hpq (by
          have e := h.2
          rw [e] at HE
          have e2 := HE.out.1.symm.trans HE.out.2
          have e3 := HX3.out
          have e4 := HY3.out
          rw [e2] at e3
          exact e3.symm.trans e4))
        have hp2 : ((pl : Int) != (ql : Int)) = true := by rw [bne_iff_ne]; omega
        clear hpq
        go_wp2_with fail
        go_quiet (fail)
        go_wp2
        go_ret
        exact ⟨ret_bool HF.out.symm, below_drewN HBr.out _⟩
      subst hpq
      have hp2 : ((pl : Int) != (pl : Int)) = false := by simp
      go_wp2_with fail
      go_quiet (fail)
      go_wp2
      clear h0 g0 k0 k1 kl m0 m1 ml hp2 RAi RBi hb hb'
      have BWo : Hid (Below w1.heap.size w1 (wr.drewN nq)) := below_drewN BW.out nq
      have HXN : Hid (∀ w9, Below (wr.drewN nq).heap.size (wr.drewN nq) w9 → Rd w9 w9.heap.size 1 pa pl (ints x)) := fun w9 h9 => HXA.out w9 ⟨h9.os, h9.tape, h9.output, h9.size, h9.block⟩
      have HYN : Hid (∀ w9, Below (wr.drewN nq).heap.size (wr.drewN nq) w9 → Rd w9 w9.heap.size 1 qa pl (ints y)) := fun w9 h9 => HYA.out w9 ⟨h9.os, h9.tape, h9.output, h9.size, h9.block⟩
      clear HXA HYA BW HBr
      revert BWo HXN HYN
      generalize wr.drewN nq = wo
      intro BWo HXN HYN
      go_loopg [8] pl (fun gg s8 wr => ∃ ss : Nat, ss ≤ pl ∧ pl - ss ≤ gg ∧ s8 = .int .i64 ss ∧ Aside (Below wo.heap.size wo wr) ∧ Aside (∀ j, j < ss → x.getD j 0 = y.getD j 0))
      case atStart => exact ⟨0, Nat.zero_le _, by omega, rfl, Below.refl _ _, fun j hj => absurd hj (Nat.not_lt_zero _)⟩
      case round =>
        obtain ⟨ss, hss, hgs, rfl, BW, AE⟩ := hrel
        have BWi : Hid (Below w1.heap.size w1 wr) := below_on2 BWo.out BW.out
        have HBi : Hid (Below w.heap.size w wr) := below_on2 HB1.out BWi.out
        by_cases hlts : ss < pl
        · have hltsz : (ss : Int) < (pl : Int) := by omega
          obtain ⟨xd, rfl, hxb, hxc⟩ := (HXN.out wr BW.out).int hlts
          obtain ⟨yd, rfl, hyb, hyc⟩ := (HYN.out wr BW.out).int hlts
          generalize e1 : x.getD ss 0 = u at hxc
          generalize e2 : y.getD ss 0 = v at hyc
          have HC : Hid (x.getD ss 0 = u ∧ y.getD ss 0 = v) := ⟨e1, e2⟩
          clear e1 e2
          cases huv : (u != v)
          · go_wp2_with fail
            go_quiet (fail)
            go_wp2
            go_roundg (pl - (ss + 1))
            case measure => omega
            case rel =>
              refine ⟨ss + 1, by omega, by omega, by go_num, (show Below _ _ _ from below_drewN BW.out _), (show Aside _ from fun j hj => ?_)⟩
              by_cases e : j = ss
              · subst e
                rw [HC.out.1, HC.out.2]
                simpa using huv
              · exact AE.out j (by omega)
          · have HF : Hid (sameF a b = false) := decide_eq_false (fun h => by
              have e := h.2
              rw [e] at HE
              have e2 := HE.out.1.symm.trans HE.out.2
              rw [e2] at HC
              have := HC.out.1.symm.trans HC.out.2
              simp [this] at huv)
            go_wp2_with fail
            go_quiet (fail)
            go_wp2
            go_ret
            exact ⟨ret_bool HF.out.symm, below_drewN HBi.out _⟩
        · have hltsz : ¬ (ss : Int) < (pl : Int) := by omega
          obtain rfl : pl = ss := by omega
          have HXY : Hid (x = y) := (show x = y from list_eq_of_getD (HX3.out.trans HY3.out.symm) 0 (fun k hk => AE.out k (by have h9 := HX3.out; (try dsimp only at h9); omega)))
          go_wp2
          go_roundg (n - (kk + 1))
          case measure => omega
          case rel =>
            refine ⟨kk + 1, by omega, by omega, by go_num, BWi.out, (show Aside _ from fun j hj => ?_)⟩
            by_cases e : j = kk
            · subst e
              rw [HE.out.1, HE.out.2, HXY.out]
            · exact AA.out j (by omega)
    · have hltz : ¬ (kk : Int) < (n : Int) := by omega
      obtain rfl : kk = n := by omega
      have HT : Hid (sameF a b = true) := decide_eq_true ⟨HS0.out, list_eq_of_getD (LX.out.trans LY.out.symm) [] (fun k hk => AA.out k (by rw [LX.out] at hk; exact hk))⟩
      go_wp2
      go_ret
      exact ⟨ret_bool HT.out.symm, HBr.out⟩

def fewC (c : Circ) : Bool := decide (c.gates.length ≤ 2000 ∧ c.inputs ≤ 1100 ∧ c.outs.length ≤ 1100)
set_option maxHeartbeats 400000 in
theorem few17_any (c : Circ) (GA OA : Option Addr) (gn gc on oc : Nat) (w : World) (h : CAt w c GA OA gn on) :
    Calls Try.prog 9 #[.agg #[.int .i64 c.inputs, .slice GA gn gc, .slice OA on oc]] w fun e w' => e = .returned (.bool (fewC c)) ∧ Below w.heap.size w w' := by
  have HG : Hid (c.gates.length = gn) := h.gl
  have HO : Hid (c.outs.length = on) := h.ol
  have h1 := h.g63
  have h2 := h.o63
  unfold maxLen at h1 h2
  clear h
  go_enter Try.func9, Try.ntmps9
  go_wp2
  all_goals go_ret
  all_goals refine ⟨ret_bool ?_, by go_grown⟩
  all_goals (unfold fewC; rw [HG.out, HO.out]; rw [Bool.eq_iff_iff]; simp; omega)

def fewF (f : Fml) : Bool := decide (f.cls.length ≤ 1000) && f.cls.all (fun l => decide (l.length ≤ 50))
theorem all_false_row {α} (p : List α → Bool) (l : List (List α)) (k : Nat) (hk : k < l.length) (h : p (l.getD k []) = false) : l.all p = false := by
  rw [List.all_eq_false]
  refine ⟨l[k], List.getElem_mem hk, ?_⟩
  simp [List.getD_eq_getElem?_getD, List.getElem?_eq_getElem hk] at h
  simp [h]
theorem all_true_row {α} (p : List α → Bool) (l : List (List α)) (h : ∀ k, k < l.length → p (l.getD k []) = true) : l.all p = true := by
  rw [List.all_eq_true]
  intro x hx
  obtain ⟨j, hj, rfl⟩ := List.getElem_of_mem hx
  have := h j hj
  simpa [List.getD_eq_getElem?_getD, List.getElem?_eq_getElem hj] using this
set_option maxRecDepth 100000 in
set_option maxHeartbeats 2000000 in
theorem fewF_any (a : Fml) (A : Option Addr) (n c : Nat) (sl : List Sl) (w : World) (h : FAt w a A n sl) :
    Calls Try.prog 15 #[.agg #[.int .i64 a.vars, .slice A n c]] w fun e w' => e = .returned (.bool (fewF a)) ∧ Below w.heap.size w w' := by
  have H : Hid (FAt w a A n sl) := h
  have HWL : Hid (a.cls.length = n) := h.wl
  have HF : Hid (fewF a = (decide (n ≤ 1000) && a.cls.all (fun l => decide (l.length ≤ 50)))) := by show _ = _; unfold fewF; rw [HWL.out]
  have hm := h.n63
  unfold maxLen at hm
  clear h
  go_enter Try.func15, Try.ntmps15
  go_wp2
  have RA : Hid (Row (World.alloc w (.cells #[.int .i64 a.vars, .slice A n c] 30)) w.heap.size 30 [.int .i64 a.vars, .slice A n c]) := Row.new w 30 [.int .i64 a.vars, .slice A n c]
  have HB : Hid (Below w.heap.size w (World.alloc w (.cells #[.int .i64 a.vars, .slice A n c] 30))) := (show Below _ _ _ by go_grown)
  revert RA HB
  generalize World.alloc w (.cells #[.int .i64 a.vars, .slice A n c] 30) = w1
  intro RA HB
  have k0 := RA.out.cell 0
  have k1 := RA.out.cell 1
  have kl := RA.out.lt
  simp only [List.getElem?_cons_zero, List.getElem?_cons_succ] at k0 k1
  go_loopg [3, 7] n (fun gg _ s7 wr => ∃ kk : Nat, kk ≤ n ∧ n - kk ≤ gg ∧ s7 = .int .i64 kk ∧ wr = w1 ∧ Aside (∀ j, j < kk → (a.cls.getD j []).length ≤ 50))
  case atStart => exact ⟨0, Nat.zero_le _, by omega, rfl, rfl, fun j hj => absurd hj (Nat.not_lt_zero _)⟩
  case round =>
    obtain ⟨kk, hkk, hgg, rfl, rfl, AA⟩ := hrel
    by_cases hlt : kk < n
    · have hltz : (kk : Int) < (n : Int) := by omega
      obtain ⟨ad, rfl, hbl, hc, hrd, hlm, hle⟩ := (H.out.up HB.out).row hlt
      generalize sl.getD kk default = s at hc hrd hlm hle
      obtain ⟨sa, sn, sc⟩ := s
      dsimp only at hc hrd hlm hle
      have HLE : Hid ((a.cls.getD kk []).length = sn) := hle
      unfold maxLen at hlm
      clear hle hrd
      by_cases hb : 50 < sn
      · have hbz : (50 : Int) < (sn : Int) := by omega
        go_wp2
        go_ret
        refine ⟨ret_bool ?_, HB.out⟩
        rw [HF.out, all_false_row _ _ kk (by rw [HWL.out]; exact hlt) (decide_eq_false (by rw [HLE.out]; omega))]; simp
      · have hbz : ¬ (50 : Int) < (sn : Int) := by omega
        go_wp2
        go_roundg (n - (kk + 1))
        case measure => omega
        case rel =>
          refine ⟨kk + 1, by omega, by omega, by go_num, rfl, (show Aside _ from fun j hj => ?_)⟩
          by_cases e : j = kk
          · subst e; rw [HLE.out]; omega
          · exact AA.out j (by omega)
    · have hltz : ¬ (kk : Int) < (n : Int) := by omega
      obtain rfl : kk = n := by omega
      go_wp2
      go_ret
      refine ⟨ret_bool ?_, HB.out⟩
      rw [HF.out, all_true_row _ _ (fun j hj => decide_eq_true (AA.out j (by rw [HWL.out] at hj; exact hj))), Bool.and_true, Bool.eq_iff_iff]; simp; omega
end Go.Proofs.Ytofflkfkakddkaa
