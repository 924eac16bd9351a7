/-
  Bit planes in memory; Same of the program and of the reference, walked.
-/
import Derived.Test.YtfknooffjhncgaaPPlain
import Derived.Test.YtfknooffjhncgaaTPlain
import Derived.Test.YtfknooffjhncgaaPEqW
import Derived.Test.YtfknooffjhncgaaWalk
namespace Go.Proofs.Ytfknooffjhncgaa
open Go.RowKit
set_option linter.unusedSimpArgs false
set_option linter.unusedVariables false
def slCells (sl : List Sl) : List Value := sl.map (fun s => Value.slice s.at_ s.len s.cap)
theorem slCells_length (sl : List Sl) : (slCells sl).length = sl.length := by simp [slCells]
theorem slCells_get (sl : List Sl) (k : Nat) (h : k < sl.length) : (slCells sl)[k]? = some (.slice (sl.getD k default).at_ (sl.getD k default).len (sl.getD k default).cap) := by
  simp [slCells, List.getElem?_map, List.getElem?_eq_getElem h, List.getD_eq_getElem?_getD]
/-- Bit planes' rows as they lie in memory. -/
structure PAt (w : World) (p : Pln) (A : Option Addr) (n : Nat) (sl : List Sl) : Prop where
  rows : Rd w w.heap.size 1 A n (slCells sl)
  sll : sl.length = p.words.length
  next : ∀ i, i < p.words.length → Rd w w.heap.size 1 (sl.getD i default).at_ (sl.getD i default).len (w64s (p.words.getD i [])) ∧ (sl.getD i default).len ≤ maxLen
  n63 : n ≤ maxLen
  cap : ∀ i, i < p.words.length → (sl.getD i default).len ≤ (sl.getD i default).cap ∧ (sl.getD i default).cap ≤ maxLen
theorem PAt.up {w w' : World} {p : Pln} {A : Option Addr} {n : Nat} {sl : List Sl} (h : PAt w p A n sl) (hb : Below w.heap.size w w') : PAt w' p A n sl :=
  ⟨h.rows.up hb, h.sll, fun i hi => ⟨(h.next i hi).1.up hb, (h.next i hi).2⟩, h.n63, h.cap⟩
theorem PAt.wl {w : World} {p : Pln} {A : Option Addr} {n : Nat} {sl : List Sl} (h : PAt w p A n sl) : p.words.length = n := by
  have h1 := h.rows.1
  have h2 := h.sll
  rw [slCells_length] at h1; omega
theorem PAt.row {w : World} {p : Pln} {A : Option Addr} {n : Nat} {sl : List Sl} (h : PAt w p A n sl) {k : Nat} (hk : k < n) :
    ∃ ad, A = some ad ∧ ad.block < w.heap.size ∧ w.cell? (ad.add k) = some (.slice (sl.getD k default).at_ (sl.getD k default).len (sl.getD k default).cap) ∧
      Rd w w.heap.size 1 (sl.getD k default).at_ (sl.getD k default).len (w64s (p.words.getD k [])) ∧ (sl.getD k default).len ≤ maxLen ∧ (p.words.getD k []).length = (sl.getD k default).len := by
  have hl := h.wl
  have hs := h.sll
  obtain ⟨ad, u, e, hb, hu, hc⟩ := h.rows.get1 hk
  rw [slCells_get sl k (by omega)] at hu
  injection hu with hu
  obtain ⟨h1, h2⟩ := h.next k (by omega)
  refine ⟨ad, e, hb, by rw [hc, hu], h1, h2, ?_⟩
  have := h1.1
  rw [w64s_length, Nat.mul_one] at this
  exact this
theorem noPln_at (w : World) : PAt w noPln none 0 [] := ⟨Rd.empty none, rfl, fun i hi => absurd hi (Nat.not_lt_zero _), by unfold maxLen; omega, fun i hi => absurd hi (Nat.not_lt_zero _)⟩

set_option maxHeartbeats 400000 in
theorem rowEq_any (A A' : Option Addr) (n m c c' : Nat) (xs ys : List (BitVec 64)) (w : World)
    (hx : Rd w w.heap.size 1 A n (w64s xs)) (hy : Rd w w.heap.size 1 A' m (w64s ys)) (hn : n ≤ maxLen) (hm : m ≤ maxLen) :
    Calls Try.prog 36 #[.slice A n c, .slice A' m c'] w fun e w' => e = .returned (.bool (decide (xs = ys))) ∧ Below w.heap.size w w' := by
  have HX : Hid (Rd w w.heap.size 1 A n (w64s xs)) := hx
  have HY : Hid (Rd w w.heap.size 1 A' m (w64s ys)) := hy
  have h1 : Hid (n ≤ maxLen) := hn
  have h2 : Hid (m ≤ maxLen) := hm
  clear hx hy hn hm
  go_enter Try.func36, Try.ntmps36
  go_wp2_with fail
  refine (equal_words A A' n m c c' xs ys _ HX.out HY.out h1.out h2.out).mono ?_
  rintro e w1 ⟨rfl, hb⟩
  go_wp2
  go_ret
  exact ⟨rfl, hb⟩

set_option maxRecDepth 100000 in
set_option maxHeartbeats 1000000 in
theorem equalRows_any (a b : Pln) (A B : Option Addr) (n c m d : Nat) (sl sm : List Sl) (w : World) (ha : PAt w a A n sl) (hb : PAt w b B m sm) :
    Calls Try.prog 35 #[.slice A n c, .slice B m d, .func (.func 36) #[] #[]] w fun e w' => e = .returned (.bool (decide (a.words = b.words))) ∧ Below w.heap.size w w' := by
  have H1 : Hid (PAt w a A n sl) := ha
  have H2 : Hid (PAt w b B m sm) := hb
  have LX : Hid (a.words.length = n) := ha.wl
  have LY : Hid (b.words.length = m) := hb.wl
  have hm1 := ha.n63
  have hm2 := hb.n63
  clear ha hb
  unfold maxLen at hm1 hm2
  by_cases hnm : n = m
  · subst hnm
    go_enter Try.func35, Try.ntmps35
    go_wp2
    go_loopg [7, 8, 9, 17] n (fun gg _ _ _ s17 wr => ∃ kk : Nat, kk ≤ n ∧ n - kk ≤ gg ∧ s17 = .int .i64 kk ∧ Aside (Below w.heap.size w wr) ∧ Aside (∀ j, j < kk → a.words.getD j [] = b.words.getD j []))
    case atStart => exact ⟨0, Nat.zero_le _, by omega, rfl, Below.refl _ _, fun j hj => absurd hj (Nat.not_lt_zero _)⟩
    case round =>
      obtain ⟨kk, hkk, hg, rfl, BW, AA⟩ := hrel
      by_cases hlt : kk < n
      · have hltz : (kk : Int) < (n : Int) := by omega
        obtain ⟨ad, rfl, hb, h0, hx1, hx2, _⟩ := (H1.out.up BW.out).row hlt
        obtain ⟨ad', rfl, hb', g0, hy1, hy2, _⟩ := (H2.out.up BW.out).row hlt
        have HX : Hid _ := And.intro hx1 hx2
        have HY : Hid _ := And.intro hy1 hy2
        clear hx1 hx2 hy1 hy2
        generalize hz1 : a.words.getD kk [] = x at HX
        generalize hz2 : b.words.getD kk [] = y at HY
        generalize sl.getD kk default = p at h0 HX
        generalize sm.getD kk default = q at g0 HY
        have HE : Aside (a.words.getD kk [] = x ∧ b.words.getD kk [] = y) := ⟨hz1, hz2⟩
        clear hz1 hz2
        go_wp2_with fail
        refine (rowEq_any p.at_ q.at_ p.len q.len p.cap q.cap x y _ HX.out.1 HY.out.1 HX.out.2 HY.out.2).mono ?_
        rintro e w1 ⟨rfl, hb1⟩
        have HB1 : Hid (Below w.heap.size w w1) := below_on2 BW.out hb1
        clear hb1
        cases hxy : decide (x = y)
        · go_wp2
          go_ret
          refine ⟨ret_bool ?_, HB1.out⟩
          symm
          rw [decide_eq_false_iff_not]
          intro he
          rw [he] at HE
          have := HE.out.1.symm.trans HE.out.2
          rw [decide_eq_true this] at hxy
          cases hxy
        · have HQ : Hid (x = y) := (show x = y from of_decide_eq_true hxy)
          clear hxy
          go_wp2
          go_roundg (n - (kk + 1))
          case measure => omega
          case rel =>
            refine ⟨kk + 1, by omega, by omega, by go_num, HB1.out, (show Aside _ from fun j hj => ?_)⟩
            by_cases e : j = kk
            · subst e
              rw [HE.out.1, HE.out.2, HQ.out]
            · exact AA.out j (by omega)
      · have hltz : ¬ (kk : Int) < (n : Int) := by omega
        obtain rfl : kk = n := by omega
        go_wp2
        go_ret
        refine ⟨ret_bool ?_, BW.out⟩
        symm
        rw [decide_eq_true_iff]
        exact list_eq_of_getD (LX.out.trans LY.out.symm) [] (fun k hk => AA.out k (by rw [LX.out] at hk; exact hk))
  · have hnm' : ((n : Int) != (m : Int)) = true := by rw [bne_iff_ne]; omega
    have HK : Hid (a.words ≠ b.words) := fun e => hnm (by rw [← LX.out, ← LY.out, e])
    go_enter Try.func35, Try.ntmps35
    go_wp2
    go_ret
    refine ⟨ret_bool ?_, Below.refl _ _⟩
    symm
    rw [decide_eq_false_iff_not]
    exact HK.out

set_option maxRecDepth 100000 in
set_option maxHeartbeats 1000000 in
theorem plSame_any (a b : Pln) (A B : Option Addr) (n c m d : Nat) (sl sm : List Sl) (w : World) (h1 : PAt w a A n sl) (h2 : PAt w b B m sm) :
    Calls Try.prog 18 #[.agg #[.int .i64 a.w, .int .i64 a.h, .int .i64 a.edge, .slice A n c], .agg #[.int .i64 b.w, .int .i64 b.h, .int .i64 b.edge, .slice B m d]] w fun e w' => e = .returned (.bool (samePl a b)) ∧ Below w.heap.size w w' := by
  have H1 : Hid (PAt w a A n sl) := h1
  have H2 : Hid (PAt w b B m sm) := h2
  clear h1 h2
  by_cases hs : a.w = b.w
  case neg =>
    have HF : Hid (samePl a b = false) := decide_eq_false (fun h => hs h.1)
    have hss : (a.w == b.w) = false := by simpa using hs
    have hst : (a.w != b.w) = true := by simpa using hs
    clear hs
    go_enter Try.func18, Try.ntmps18
    go_wp2
    go_ret
    exact ⟨ret_bool HF.out.symm, by go_grown⟩
  have HS0 : Hid (a.w = b.w) := hs
  have hss0 : (a.w == b.w) = true := by simpa using hs
  have hst0 : (a.w != b.w) = false := by simpa using hs
  clear hs
  by_cases hs : a.h = b.h
  case neg =>
    have HF : Hid (samePl a b = false) := decide_eq_false (fun h => hs h.2.1)
    have hss : (a.h == b.h) = false := by simpa using hs
    have hst : (a.h != b.h) = true := by simpa using hs
    clear hs
    go_enter Try.func18, Try.ntmps18
    go_wp2
    go_ret
    exact ⟨ret_bool HF.out.symm, by go_grown⟩
  have HS1 : Hid (a.h = b.h) := hs
  have hss1 : (a.h == b.h) = true := by simpa using hs
  have hst1 : (a.h != b.h) = false := by simpa using hs
  clear hs
  by_cases hs : a.edge = b.edge
  case neg =>
    have HF : Hid (samePl a b = false) := decide_eq_false (fun h => hs h.2.2.1)
    have hss : (a.edge == b.edge) = false := by simpa using hs
    have hst : (a.edge != b.edge) = true := by simpa using hs
    clear hs
    go_enter Try.func18, Try.ntmps18
    go_wp2
    go_ret
    exact ⟨ret_bool HF.out.symm, by go_grown⟩
  have HS2 : Hid (a.edge = b.edge) := hs
  have hss2 : (a.edge == b.edge) = true := by simpa using hs
  have hst2 : (a.edge != b.edge) = false := by simpa using hs
  clear hs
  go_enter Try.func18, Try.ntmps18
  go_wp2_with fail
  refine (equalRows_any a b A B n c m d sl sm _ (H1.out.up (by go_grown)) (H2.out.up (by go_grown))).mono ?_
  rintro e w1 ⟨rfl, hb⟩
  have HB : Hid (Below w.heap.size w w1) := below_next hb (by go_grown)
  clear hb
  go_wp2
  go_ret
  refine ⟨ret_bool ?_, HB.out⟩
  rw [samePl, Bool.eq_iff_iff]
  simp [HS0.out, HS1.out, HS2.out]

set_option maxRecDepth 100000 in
set_option maxHeartbeats 2000000 in
theorem rPlSame_any (a b : Pln) (A B : Option Addr) (n c m d : Nat) (sl sm : List Sl) (w : World) (h1 : PAt w a A n sl) (h2 : PAt w b B m sm) :
    Calls Try.prog 12 #[.agg #[.int .i64 a.w, .int .i64 a.h, .int .i64 a.edge, .slice A n c], .agg #[.int .i64 b.w, .int .i64 b.h, .int .i64 b.edge, .slice B m d]] w fun e w' => e = .returned (.bool (samePl a b)) ∧ Below w.heap.size w w' := by
  have H1 : Hid (PAt w a A n sl) := h1
  have H2 : Hid (PAt w b B m sm) := h2
  have LX : Hid (a.words.length = n) := h1.wl
  have LY : Hid (b.words.length = m) := h2.wl
  have hm1 := h1.n63
  have hm2 := h2.n63
  unfold maxLen at hm1 hm2
  clear h1 h2
  by_cases hs : a.w = b.w
  case neg =>
    have HF : Hid (samePl a b = false) := decide_eq_false (fun h => hs h.1)
    have hss : (a.w == b.w) = false := by simpa using hs
    have hst : (a.w != b.w) = true := by simpa using hs
    clear hs
    go_enter Try.func12, Try.ntmps12
    go_wp2
    go_ret
    exact ⟨ret_bool HF.out.symm, by go_grown⟩
  have HS0 : Hid (a.w = b.w) := hs
  have hss0 : (a.w == b.w) = true := by simpa using hs
  have hst0 : (a.w != b.w) = false := by simpa using hs
  clear hs
  by_cases hs : a.h = b.h
  case neg =>
    have HF : Hid (samePl a b = false) := decide_eq_false (fun h => hs h.2.1)
    have hss : (a.h == b.h) = false := by simpa using hs
    have hst : (a.h != b.h) = true := by simpa using hs
    clear hs
    go_enter Try.func12, Try.ntmps12
    go_wp2
    go_ret
    exact ⟨ret_bool HF.out.symm, by go_grown⟩
  have HS1 : Hid (a.h = b.h) := hs
  have hss1 : (a.h == b.h) = true := by simpa using hs
  have hst1 : (a.h != b.h) = false := by simpa using hs
  clear hs
  by_cases hs : a.edge = b.edge
  case neg =>
    have HF : Hid (samePl a b = false) := decide_eq_false (fun h => hs h.2.2.1)
    have hss : (a.edge == b.edge) = false := by simpa using hs
    have hst : (a.edge != b.edge) = true := by simpa using hs
    clear hs
    go_enter Try.func12, Try.ntmps12
    go_wp2
    go_ret
    exact ⟨ret_bool HF.out.symm, by go_grown⟩
  have HS2 : Hid (a.edge = b.edge) := hs
  have hss2 : (a.edge == b.edge) = true := by simpa using hs
  have hst2 : (a.edge != b.edge) = false := by simpa using hs
  clear hs
  by_cases hnm : n = m
  case neg =>
    have HF : Hid (samePl a b = false) := decide_eq_false (fun h => hnm (by rw [← LX.out, ← LY.out, h.2.2.2]))
    have hns : ((n : Int) != (m : Int)) = true := by rw [bne_iff_ne]; omega
    clear hnm
    go_enter Try.func12, Try.ntmps12
    go_wp2
    go_ret
    exact ⟨ret_bool HF.out.symm, by go_grown⟩
  subst hnm
  have hns : ((n : Int) != (n : Int)) = false := by simp
  go_enter Try.func12, Try.ntmps12
  go_wp2
  have RA : Hid (Row (World.alloc (World.alloc w _) _) w.heap.size 28 [.int .i64 a.w, .int .i64 a.h, .int .i64 a.edge, .slice A n c]) := (Row.new w 28 [.int .i64 a.w, .int .i64 a.h, .int .i64 a.edge, .slice A n c]).alloc (.cells #[.int .i64 b.w, .int .i64 b.h, .int .i64 b.edge, .slice B n d] 28)
  have RB : Hid (Row (World.alloc (World.alloc w (.cells #[.int .i64 a.w, .int .i64 a.h, .int .i64 a.edge, .slice A n c] 28)) _) (w.heap.size + 1) 28 [.int .i64 b.w, .int .i64 b.h, .int .i64 b.edge, .slice B n d]) := rowNew1 w _ 28 [.int .i64 b.w, .int .i64 b.h, .int .i64 b.edge, .slice B n d]
  have HB1 : Hid (Below w.heap.size w (World.alloc (World.alloc w (.cells #[.int .i64 a.w, .int .i64 a.h, .int .i64 a.edge, .slice A n c] 28)) (.cells #[.int .i64 b.w, .int .i64 b.h, .int .i64 b.edge, .slice B n d] 28))) := by show Below _ _ _; go_grown
  revert RA RB HB1
  generalize World.alloc (World.alloc w (.cells #[.int .i64 a.w, .int .i64 a.h, .int .i64 a.edge, .slice A n c] 28)) (.cells #[.int .i64 b.w, .int .i64 b.h, .int .i64 b.edge, .slice B n d] 28) = w1
  intro RA RB HB1
  clear hss0 hss1 hss2 hst0 hst1 hst2 hns
  go_loopg [5, 6] n (fun gg s5 _ wr => ∃ kk : Nat, kk ≤ n ∧ n - kk ≤ gg ∧ s5 = .int .i64 kk ∧ Aside (Below w1.heap.size w1 wr) ∧ Aside (∀ j, j < kk → a.words.getD j [] = b.words.getD j []))
  case atStart => exact ⟨0, Nat.zero_le _, by omega, rfl, Below.refl _ _, fun j hj => absurd hj (Nat.not_lt_zero _)⟩
  case round =>
    obtain ⟨kk, hkk, hg, rfl, BW, AA⟩ := hrel
    have RAi : Hid (Row wr _ _ _) := rowCells RA.out BW.out
    have RBi : Hid (Row wr _ _ _) := rowCells RB.out BW.out
    have HBr : Hid (Below w.heap.size w wr) := below_on2 HB1.out BW.out
    have k0 := RAi.out.cell 0
    have k1 := RAi.out.cell 1
    have k2 := RAi.out.cell 2
    have k3 := RAi.out.cell 3
    have kl := RAi.out.lt
    simp only [List.getElem?_cons_zero, List.getElem?_cons_succ] at k0 k1 k2 k3
    have m0 := RBi.out.cell 0
    have m1 := RBi.out.cell 1
    have m2 := RBi.out.cell 2
    have m3 := RBi.out.cell 3
    have ml := RBi.out.lt
    simp only [List.getElem?_cons_zero, List.getElem?_cons_succ] at m0 m1 m2 m3
    by_cases hlt : kk < n
    · have hltz : (kk : Int) < (n : Int) := by omega
      obtain ⟨ad, rfl, hb, h0, hx1, hx2, hx3⟩ := (H1.out.up HBr.out).row hlt
      obtain ⟨ad', rfl, hb', g0, hy1, hy2, hy3⟩ := (H2.out.up HBr.out).row hlt
      have HXA : Hid (∀ w9, Below w.heap.size w w9 → w9.cell? (ad.add kk) = some (.slice (sl.getD kk default).at_ (sl.getD kk default).len (sl.getD kk default).cap) ∧ Rd w9 w9.heap.size 1 (sl.getD kk default).at_ (sl.getD kk default).len (w64s (a.words.getD kk []))) := fun w9 h9 => by
        obtain ⟨ad2, e, _, c1, c2, _⟩ := (H1.out.up h9).row hlt
        cases e
        exact ⟨c1, c2⟩
      have HYA : Hid (∀ w9, Below w.heap.size w w9 → w9.cell? (ad'.add kk) = some (.slice (sm.getD kk default).at_ (sm.getD kk default).len (sm.getD kk default).cap) ∧ Rd w9 w9.heap.size 1 (sm.getD kk default).at_ (sm.getD kk default).len (w64s (b.words.getD kk []))) := fun w9 h9 => by
        obtain ⟨ad2, e, _, c1, c2, _⟩ := (H2.out.up h9).row hlt
        cases e
        exact ⟨c1, c2⟩
      clear hx1 hy1
      generalize hz1 : a.words.getD kk [] = x at HXA hx3
      generalize hz2 : b.words.getD kk [] = y at HYA hy3
      generalize sl.getD kk default = p at h0 HXA hx2 hx3
      generalize sm.getD kk default = q at g0 HYA hy2 hy3
      have HE : Aside (a.words.getD kk [] = x ∧ b.words.getD kk [] = y) := ⟨hz1, hz2⟩
      have HX3 : Hid (x.length = p.len) := hx3
      have HY3 : Hid (y.length = q.len) := hy3
      clear hz1 hz2 hx3 hy3
      obtain ⟨pa, pl, pc⟩ := p
      obtain ⟨qa, ql, qc⟩ := q
      dsimp only at h0 g0 hx2 hy2
      unfold maxLen at hx2 hy2
      by_cases hpq : pl = ql
      case neg =>
        have HF : Hid (samePl a b = false) := decide_eq_false (fun h => hpq (by
          have e := h.2.2.2
          rw [e] at HE
          have e2 := HE.out.1.symm.trans HE.out.2
          have e3 := HX3.out
          have e4 := HY3.out
          rw [e2] at e3
          exact e3.symm.trans e4))
        have hp2 : ((pl : Int) != (ql : Int)) = true := by rw [bne_iff_ne]; omega
        clear hpq
        go_wp2_with fail
        go_quiet (fail)
        go_wp2
        go_ret
        exact ⟨ret_bool HF.out.symm, below_drewN HBr.out _⟩
      subst hpq
      have hp2 : ((pl : Int) != (pl : Int)) = false := by simp
      go_wp2_with fail
      go_quiet (fail)
      go_wp2
      clear h0 g0 k0 k1 k2 k3 kl m0 m1 m2 m3 ml hp2 RAi RBi hb hb'
      have BWo : Hid (Below w1.heap.size w1 wr) := BW.out
      obtain ⟨wo, rfl⟩ : ∃ wo : World, wo = wr := ⟨_, rfl⟩
      go_loopg [6] pl (fun gg s6 wr => ∃ ss : Nat, ss ≤ pl ∧ pl - ss ≤ gg ∧ s6 = .int .i64 ss ∧ Aside (Below w1.heap.size w1 wr) ∧ Aside (∀ j, j < ss → x.getD j 0#64 = y.getD j 0#64))
      case atStart => exact ⟨0, Nat.zero_le _, by omega, rfl, (by first | exact BWo.out | exact below_drewN BWo.out _), fun j hj => absurd hj (Nat.not_lt_zero _)⟩
      case round =>
        clear BWo BW
        obtain ⟨ss, hss, hgs, rfl, BW, AE⟩ := hrel
        have RAi : Hid (Row wr _ _ _) := rowCells RA.out BW.out
        have RBi : Hid (Row wr _ _ _) := rowCells RB.out BW.out
        have HBi : Hid (Below w.heap.size w wr) := below_on2 HB1.out BW.out
        have k0 := RAi.out.cell 0
        have k1 := RAi.out.cell 1
        have k2 := RAi.out.cell 2
        have k3 := RAi.out.cell 3
        have kl := RAi.out.lt
        simp only [List.getElem?_cons_zero, List.getElem?_cons_succ] at k0 k1 k2 k3
        have m0 := RBi.out.cell 0
        have m1 := RBi.out.cell 1
        have m2 := RBi.out.cell 2
        have m3 := RBi.out.cell 3
        have ml := RBi.out.lt
        simp only [List.getElem?_cons_zero, List.getElem?_cons_succ] at m0 m1 m2 m3
        obtain ⟨h0, hx1⟩ := HXA.out wr HBi.out
        obtain ⟨g0, hy1⟩ := HYA.out wr HBi.out
        (try dsimp only at h0); (try dsimp only at hx1); (try dsimp only at g0); (try dsimp only at hy1)
        by_cases hlts : ss < pl
        · have hltsz : (ss : Int) < (pl : Int) := by omega
          obtain ⟨xd, rfl, hxb, hxc⟩ := hx1.word hlts
          obtain ⟨yd, rfl, hyb, hyc⟩ := hy1.word hlts
          clear hx1 hy1
          generalize e1 : x.getD ss 0#64 = u at hxc
          generalize e2 : y.getD ss 0#64 = v at hyc
          have HC : Hid (x.getD ss 0#64 = u ∧ y.getD ss 0#64 = v) := ⟨e1, e2⟩
          clear e1 e2
          have hq := u_neq u v
          unfold w64 at hxc hyc
          cases huv : (u != v)
          all_goals rw [huv] at hq
          · go_wp2_with fail
            go_quiet (fail)
            go_wp2
            go_roundg (pl - (ss + 1))
            case measure => omega
            case rel =>
              refine ⟨ss + 1, by omega, by omega, by go_num, (show Below _ _ _ from below_drewN BW.out _), (show Aside _ from fun j hj => ?_)⟩
              by_cases e : j = ss
              · subst e
                rw [HC.out.1, HC.out.2]
                simpa using huv
              · exact AE.out j (by omega)
          · have HF : Hid (samePl a b = false) := decide_eq_false (fun h => by
              have e := h.2.2.2
              rw [e] at HE
              have e2 := HE.out.1.symm.trans HE.out.2
              rw [e2] at HC
              have := HC.out.1.symm.trans HC.out.2
              simp [this] at huv)
            go_wp2_with fail
            go_quiet (fail)
            go_wp2
            go_ret
            exact ⟨ret_bool HF.out.symm, below_drewN HBi.out _⟩
        · have hltsz : ¬ (ss : Int) < (pl : Int) := by omega
          obtain rfl : pl = ss := by omega
          have HXY : Hid (x = y) := (show x = y from list_eq_of_getD (HX3.out.trans HY3.out.symm) 0#64 (fun k hk => AE.out k (by have h9 := HX3.out; (try dsimp only at h9); omega)))
          clear hx1 hy1
          go_wp2
          go_roundg (n - (kk + 1))
          case measure => omega
          case rel =>
            refine ⟨kk + 1, by omega, by omega, by go_num, BW.out, (show Aside _ from fun j hj => ?_)⟩
            by_cases e : j = kk
            · subst e
              rw [HE.out.1, HE.out.2, HXY.out]
            · exact AA.out j (by omega)
    · have hltz : ¬ (kk : Int) < (n : Int) := by omega
      obtain rfl : kk = n := by omega
      go_wp2
      go_ret
      refine ⟨ret_bool ?_, HBr.out⟩
      symm
      exact decide_eq_true ⟨HS0.out, HS1.out, HS2.out, list_eq_of_getD (LX.out.trans LY.out.symm) [] (fun k hk => AA.out k (by rw [LX.out] at hk; exact hk))⟩
end Go.Proofs.Ytfknooffjhncgaa
