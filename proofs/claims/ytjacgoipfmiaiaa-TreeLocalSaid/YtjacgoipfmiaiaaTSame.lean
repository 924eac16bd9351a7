/-
  Rule trees: tree.Same, hood.Same, slices.Equal at points, slices.EqualFunc at nodes, walked.
-/
import Derived.Test.YtjacgoipfmiaiaaTSPlain
import Derived.Test.YtjacgoipfmiaiaaListEq
import Derived.Test.YtjacgoipfmiaiaaEqInts
import Derived.Test.YtjacgoipfmiaiaaWalk
import Derived.Deep.QuietTactic
import Derived.BigQuiet
namespace Go.Proofs.Ytjacgoipfmiaiaa
open Go.RowKit
set_option linter.unusedSimpArgs false
set_option linter.unusedVariables false
def ptEq (x y : Pt) : Bool := (x.x == y.x) && (x.y == y.y)
theorem ptEq_iff (x y : Pt) : ptEq x y = true ↔ x = y := by
  cases x; cases y
  simp [ptEq]
theorem pt_neq (x y : Pt) (W : World) : (binOp .neq 43 (.agg #[.int .i64 x.x, .int .i64 x.y]) (.agg #[.int .i64 y.x, .int .i64 y.y])).run Try.prog W = .ok (.bool (!ptEq x y)) W := by
  unfold ptEq
  cases h1 : (x.x == y.x) <;> cases h2 : (x.y == y.y) <;> (simp only [beq_eq_false_iff_ne, beq_iff_eq] at h1 h2; go_simp)
theorem Rd.pt {w : World} {B n : Nat} {A : Option Addr} {l : List Pt} (h : Rd w B 2 A n (hoodCells l)) {k : Nat} (hk : k < n) :
    ∃ ad, A = some ad ∧ ad.block < B ∧ w.cell? (ad.add (k * 2)) = some (.int .i64 (l.getD k default).x) ∧ w.cell? ⟨(ad.add (k * 2)).block, (ad.add (k * 2)).off + 1, none⟩ = some (.int .i64 (l.getD k default).y) := by
  have hl : l.length = n := by have := h.1; rw [hoodCells, flat2_length _ (fun _ => rfl)] at this; omega
  obtain ⟨h0, h1⟩ := flat2_get ptCells (fun _ => rfl) l k (by omega)
  exact h.row2 hk h0 h1

set_option maxHeartbeats 400000 in
theorem equal_pts (A A' : Option Addr) (n m c c' : Nat) (xs ys : List Pt) (w : World)
    (hx : Rd w w.heap.size 2 A n (hoodCells xs)) (hy : Rd w w.heap.size 2 A' m (hoodCells ys)) (hn : n ≤ maxLen) (hm : m ≤ maxLen) :
    Calls Try.prog 43 #[.slice A n c, .slice A' m c'] w fun e w' => e = .returned (.bool (decide (xs = ys))) ∧ Below w.heap.size w w' := by
  unfold maxLen at hn hm
  have HX : Hid (Rd w w.heap.size 2 A n (hoodCells xs)) := hx
  have HY : Hid (Rd w w.heap.size 2 A' m (hoodCells ys)) := hy
  have LX : Hid (xs.length = n) := by have := hx.1; rw [hoodCells, flat2_length _ (fun _ => rfl)] at this; show _ = _; omega
  have LY : Hid (ys.length = m) := by have := hy.1; rw [hoodCells, flat2_length _ (fun _ => rfl)] at this; show _ = _; omega
  clear hx hy
  by_cases hnm : n = m
  · subst hnm
    go_enter Try.func43, Try.ntmps43
    go_wp2
    go_loopg [5, 13] n (fun gg _ s13 wr => ∃ kk : Nat, kk ≤ n ∧ n - kk ≤ gg ∧ s13 = .int .i64 kk ∧ Aside (Below w.heap.size w wr) ∧ Aside (∀ j, j < kk → xs.getD j default = ys.getD j default))
    case atStart => exact ⟨0, Nat.zero_le _, by omega, rfl, Below.refl _ _, fun j hj => absurd hj (Nat.not_lt_zero _)⟩
    case round =>
      obtain ⟨kk, hkk, hg, rfl, BW, AA⟩ := hrel
      by_cases hlt : kk < n
      · have hltz : (kk : Int) < (n : Int) := by omega
        obtain ⟨ad, rfl, hb, h0, h1⟩ := (HX.out.below BW.out (Nat.le_refl _)).pt hlt
        obtain ⟨ad', rfl, hb', g0, g1⟩ := (HY.out.below BW.out (Nat.le_refl _)).pt hlt
        generalize hz1 : xs.getD kk default = x at h0 h1
        generalize hz2 : ys.getD kk default = y at g0 g1
        have HE : Aside (xs.getD kk default = x ∧ ys.getD kk default = y) := ⟨hz1, hz2⟩
        clear hz1 hz2
        have hq := pt_neq x y
        cases hxy : !ptEq x y
        all_goals rw [hxy] at hq
        · go_wp2_with fail
          go_quiet (fail)
          go_wp2
          go_roundg (n - (kk + 1))
          case measure => omega
          case rel =>
            refine ⟨kk + 1, by omega, by omega, by go_num, (show Below _ _ _ from below_drewN BW.out _), (show Aside _ from fun j hj => ?_)⟩
            by_cases e : j = kk
            · subst e
              rw [HE.out.1, HE.out.2]
              exact (ptEq_iff x y).1 (by simpa using hxy)
            · exact AA.out j (by omega)
        · go_wp2_with fail
          go_quiet (fail)
          go_wp2
          go_ret
          refine ⟨ret_bool ?_, below_drewN BW.out _⟩
          symm
          rw [decide_eq_false_iff_not]
          rintro rfl
          have := HE.out.1.symm.trans HE.out.2
          rw [(ptEq_iff x y).2 this] at hxy
          cases hxy
      · have hltz : ¬ (kk : Int) < (n : Int) := by omega
        obtain rfl : kk = n := by omega
        go_wp2
        go_ret
        refine ⟨ret_bool ?_, BW.out⟩
        symm
        rw [decide_eq_true_iff]
        exact list_eq_of_getD (LX.out.trans LY.out.symm) default (fun k hk => AA.out k (by rw [LX.out] at hk; exact hk))
  · have hnm' : ((n : Int) != (m : Int)) = true := by rw [bne_iff_ne]; omega
    go_enter Try.func43, Try.ntmps43
    go_wp2
    go_ret
    refine ⟨ret_bool ?_, Below.refl _ _⟩
    symm
    rw [decide_eq_false_iff_not]
    rintro rfl
    exact hnm (LX.out.symm.trans LY.out)

theorem hoodSame_any (A A' : Option Addr) (n m c c' : Nat) (xs ys : List Pt) (w : World)
    (hx : Rd w w.heap.size 2 A n (hoodCells xs)) (hy : Rd w w.heap.size 2 A' m (hoodCells ys)) (hn : n ≤ maxLen) (hm : m ≤ maxLen) :
    Calls Try.prog 35 #[.slice A n c, .slice A' m c'] w fun e w' => e = .returned (.bool (decide (xs = ys))) ∧ Below w.heap.size w w' := by
  have HX : Hid (Rd w w.heap.size 2 A n (hoodCells xs)) := hx
  have HY : Hid (Rd w w.heap.size 2 A' m (hoodCells ys)) := hy
  have h1 : Hid (n ≤ maxLen) := hn
  have h2 : Hid (m ≤ maxLen) := hm
  clear hx hy hn hm
  go_enter Try.func35, Try.ntmps35
  go_wp2_with fail
  refine (equal_pts A A' n m c c' xs ys _ HX.out HY.out h1.out h2.out).mono ?_
  rintro e w1 ⟨rfl, hb⟩
  go_wp2
  go_ret
  exact ⟨rfl, hb⟩

/-- Two nodes are equal. -/
theorem nodeEq_any (x y : Nd) (p q : Sl) (w : World) (hx : Rd w w.heap.size 1 p.at_ p.len (ints x.next)) (hy : Rd w w.heap.size 1 q.at_ q.len (ints y.next)) (hn : p.len ≤ maxLen) (hm : q.len ≤ maxLen) :
    Calls Try.prog 37 #[.agg #[.int .i64 x.level, .slice p.at_ p.len p.cap], .agg #[.int .i64 y.level, .slice q.at_ q.len q.cap]] w fun e w' => e = .returned (.bool (decide (x = y))) ∧ Below w.heap.size w w' := by
  obtain ⟨lx, nx⟩ := x
  obtain ⟨ly, ny⟩ := y
  obtain ⟨pa, pl, pc⟩ := p
  obtain ⟨qa, ql, qc⟩ := q
  dsimp only at hx hy hn hm ⊢
  have HX : Hid (Rd w w.heap.size 1 pa pl (ints nx)) := hx
  have HY : Hid (Rd w w.heap.size 1 qa ql (ints ny)) := hy
  have h1 : Hid (pl ≤ maxLen) := hn
  have h2 : Hid (ql ≤ maxLen) := hm
  clear hx hy hn hm
  by_cases hl : lx = ly
  · subst hl
    have hll : (lx == lx) = true := by simp
    have HK : Hid (decide ((⟨lx, nx⟩ : Nd) = ⟨lx, ny⟩) = decide (nx = ny)) := by show _ = _; rw [Bool.eq_iff_iff]; simp
    rw [HK.out]
    go_enter Try.func37, Try.ntmps37
    go_wp2_with fail
    refine (equal_ints pa qa pl ql pc qc nx ny _ (HX.out.up (by go_grown)) (HY.out.up (by go_grown)) h1.out h2.out).mono ?_
    rintro e w1 ⟨rfl, hb⟩
    have HB : Hid (Below w.heap.size w w1) := below_next hb (by go_grown)
    clear hb
    go_wp2
    go_ret
    exact ⟨rfl, HB.out⟩
  · have hll : (lx == ly) = false := by simpa using hl
    have HK : Hid (decide ((⟨lx, nx⟩ : Nd) = ⟨ly, ny⟩) = false) := by show _ = _; simp [hl]
    rw [HK.out]
    clear hl
    go_enter Try.func37, Try.ntmps37
    go_wp2
    go_ret
    exact ⟨rfl, by go_grown⟩

set_option maxRecDepth 100000 in
set_option maxHeartbeats 1000000 in
theorem equalNodes_any (a b : Tre) (HA NA HB NB : Option Addr) (hn nn nc hm nm mc : Nat) (sl sm : List Sl) (w : World) (ha : TAt w a HA NA hn nn sl) (hb : TAt w b HB NB hm nm sm) :
    Calls Try.prog 36 #[.slice NA nn nc, .slice NB nm mc, .func (.func 37) #[] #[]] w fun e w' => e = .returned (.bool (decide (a.nodes = b.nodes))) ∧ Below w.heap.size w w' := by
  have H1 : Hid (TAt w a HA NA hn nn sl) := ha
  have H2 : Hid (TAt w b HB NB hm nm sm) := hb
  have LX : Hid (a.nodes.length = nn) := ha.nl
  have LY : Hid (b.nodes.length = nm) := hb.nl
  have hm1 := ha.n63
  have hm2 := hb.n63
  clear ha hb
  unfold maxLen at hm1 hm2
  by_cases hnm : nn = nm
  · subst hnm
    go_enter Try.func36, Try.ntmps36
    go_wp2
    go_loopg [7, 8, 9, 17] nn (fun gg _ _ _ s17 wr => ∃ kk : Nat, kk ≤ nn ∧ nn - kk ≤ gg ∧ s17 = .int .i64 kk ∧ Aside (Below w.heap.size w wr) ∧ Aside (∀ j, j < kk → a.nodes.getD j default = b.nodes.getD j default))
    case atStart => exact ⟨0, Nat.zero_le _, by omega, rfl, Below.refl _ _, fun j hj => absurd hj (Nat.not_lt_zero _)⟩
    case round =>
      obtain ⟨kk, hkk, hg, rfl, BW, AA⟩ := hrel
      by_cases hlt : kk < nn
      · have hltz : (kk : Int) < (nn : Int) := by omega
        obtain ⟨ad, rfl, hb, h0, h1⟩ := (H1.out.up BW.out).node hlt
        obtain ⟨ad', rfl, hb', g0, g1⟩ := (H2.out.up BW.out).node hlt
        have HX : Hid _ := (H1.out.up BW.out).next kk (by rw [LX.out]; exact hlt)
        have HY : Hid _ := (H2.out.up BW.out).next kk (by rw [LY.out]; exact hlt)
        generalize hz1 : a.nodes.getD kk default = x at h0 HX
        generalize hz2 : b.nodes.getD kk default = y at g0 HY
        generalize sl.getD kk default = p at h1 HX
        generalize sm.getD kk default = q at g1 HY
        have HE : Aside (a.nodes.getD kk default = x ∧ b.nodes.getD kk default = y) := ⟨hz1, hz2⟩
        clear hz1 hz2
        have hz : (ad.add (kk * 2)).block < wr.heap.size := by rw [add_block]; exact hb
        have hz' : (ad'.add (kk * 2)).block < wr.heap.size := by rw [add_block]; exact hb'
        go_wp2_with fail
        refine (nodeEq_any x y p q _ (HX.out.1.up (by go_grown)) (HY.out.1.up (by go_grown)) HX.out.2 HY.out.2).mono ?_
        rintro e w1 ⟨rfl, hb1⟩
        have HB1 : Hid (Below w.heap.size w w1) := below_on2 BW.out (below_next hb1 (by go_grown))
        clear hb1
        cases hxy : decide (x = y)
        · go_wp2
          go_ret
          refine ⟨ret_bool ?_, HB1.out⟩
          symm
          rw [decide_eq_false_iff_not]
          intro he
          rw [he] at HE
          have := HE.out.1.symm.trans HE.out.2
          rw [decide_eq_true this] at hxy
          cases hxy
        · have HQ : Hid (x = y) := (show x = y from of_decide_eq_true hxy)
          clear hxy
          go_wp2
          go_roundg (nn - (kk + 1))
          case measure => omega
          case rel =>
            refine ⟨kk + 1, by omega, by omega, by go_num, HB1.out, (show Aside _ from fun j hj => ?_)⟩
            by_cases e : j = kk
            · subst e
              rw [HE.out.1, HE.out.2, HQ.out]
            · exact AA.out j (by omega)
      · have hltz : ¬ (kk : Int) < (nn : Int) := by omega
        obtain rfl : kk = nn := by omega
        go_wp2
        go_ret
        refine ⟨ret_bool ?_, BW.out⟩
        symm
        rw [decide_eq_true_iff]
        exact list_eq_of_getD (LX.out.trans LY.out.symm) default (fun k hk => AA.out k (by rw [LX.out] at hk; exact hk))
  · have hnm' : ((nn : Int) != (nm : Int)) = true := by rw [bne_iff_ne]; omega
    have HK : Hid (a.nodes ≠ b.nodes) := fun e => hnm (by rw [← LX.out, ← LY.out, e])
    go_enter Try.func36, Try.ntmps36
    go_wp2
    go_ret
    refine ⟨ret_bool ?_, Below.refl _ _⟩
    symm
    rw [decide_eq_false_iff_not]
    exact HK.out

set_option maxRecDepth 100000 in
set_option maxHeartbeats 1000000 in
theorem treeSame_any (a b : Tre) (HA NA HB NB : Option Addr) (ha ca na da hb cb nb db : Nat) (sl sm : List Sl) (w : World) (h1 : TAt w a HA NA ha na sl) (h2 : TAt w b HB NB hb nb sm) :
    Calls Try.prog 25 #[.agg #[.int .i64 a.states, .slice HA ha ca, .slice NA na da], .agg #[.int .i64 b.states, .slice HB hb cb, .slice NB nb db]] w fun e w' => e = .returned (.bool (sameT a b)) ∧ Below w.heap.size w w' := by
  have H1 : Hid (TAt w a HA NA ha na sl) := h1
  have H2 : Hid (TAt w b HB NB hb nb sm) := h2
  clear h1 h2
  by_cases hs : a.states = b.states
  · have hss : (a.states == b.states) = true := by simpa using hs
    have HS : Hid (a.states = b.states) := hs
    clear hs
    go_enter Try.func25, Try.ntmps25
    go_wp2_with fail
    refine (hoodSame_any HA HB ha hb ca cb a.hood b.hood _ (H1.out.up (by go_grown)).hood (H2.out.up (by go_grown)).hood H1.out.h63 H2.out.h63).mono ?_
    rintro e w1 ⟨rfl, hb1⟩
    have HB1 : Hid (Below w.heap.size w w1) := below_next hb1 (by go_grown)
    have RA : Hid (Row w1 w.heap.size 25 [.int .i64 a.states, .slice HA ha ca, .slice NA na da]) := rowCells ((Row.new w 25 [.int .i64 a.states, .slice HA ha ca, .slice NA na da]).alloc _) hb1
    have RB : Hid (Row w1 (w.heap.size + 1) 25 [.int .i64 b.states, .slice HB hb cb, .slice NB nb db]) := rowCells (rowNew1 w _ 25 [.int .i64 b.states, .slice HB hb cb, .slice NB nb db]) hb1
    clear hb1
    have k0 := RA.out.cell 0
    have k1 := RA.out.cell 1
    have k2 := RA.out.cell 2
    have kl := RA.out.lt
    simp only [List.getElem?_cons_zero, List.getElem?_cons_succ] at k0 k1 k2
    have m0 := RB.out.cell 0
    have m1 := RB.out.cell 1
    have m2 := RB.out.cell 2
    have ml := RB.out.lt
    simp only [List.getElem?_cons_zero, List.getElem?_cons_succ] at m0 m1 m2
    cases hh : decide (a.hood = b.hood)
    · have HH : Hid (a.hood ≠ b.hood) := (show a.hood ≠ b.hood from of_decide_eq_false hh)
      clear hh
      go_wp2
      go_ret
      exact ⟨ret_bool (decide_eq_false (fun h => HH.out h.2.1)).symm, HB1.out⟩
    · have HH : Hid (a.hood = b.hood) := (show a.hood = b.hood from of_decide_eq_true hh)
      clear hh
      go_wp2_with fail
      refine (equalNodes_any a b HA NA HB NB ha na da hb nb db sl sm _ (H1.out.up HB1.out) (H2.out.up HB1.out)).mono ?_
      rintro e w2 ⟨rfl, hb1⟩
      have HB2 : Hid (Below w.heap.size w w2) := below_on2 HB1.out hb1
      clear hb1
      go_wp2
      go_ret
      refine ⟨ret_bool ?_, HB2.out⟩
      rw [sameT, Bool.eq_iff_iff]
      simp [HS.out, HH.out]
  · have hss : (a.states == b.states) = false := by simpa using hs
    have HS : Hid (a.states ≠ b.states) := hs
    clear hs
    go_enter Try.func25, Try.ntmps25
    go_wp2
    go_ret
    exact ⟨ret_bool (decide_eq_false (fun h => HS.out h.1)).symm, by go_grown⟩
end Go.Proofs.Ytjacgoipfmiaiaa
