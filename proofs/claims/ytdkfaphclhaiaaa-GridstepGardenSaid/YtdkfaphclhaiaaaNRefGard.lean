/-
  Garden of the reference, walked.
-/
import Derived.Test.YtdkfaphclhaiaaaNGardP
import Derived.Test.YtdkfaphclhaiaaaNGard
import Derived.Test.YtdkfaphclhaiaaaNRefNext
import Derived.Test.YtdkfaphclhaiaaaNFits
import Derived.Test.YtdkfaphclhaiaaaGPost
import Derived.Test.YtdkfaphclhaiaaaEqInts
import Derived.Test.YtdkfaphclhaiaaaRegL
import Derived.BigQuiet
namespace Go.Proofs.Ytdkfaphclhaiaaa
open Go.RowKit
set_option linter.unusedSimpArgs false
set_option linter.unusedVariables false
theorem same_leads {t : Tre} {g : Grd} (v : Int) : sameG (nextG t (digG t g v)) g = leads t g v := by
  have h1 : nextG t (digG t g v) = g ↔ (nextG t (digG t g v)).cells = g.cells := ⟨fun h => by rw [h], fun h => by
    obtain ⟨a, b, c, d⟩ := g
    have h2 : nextG t (digG t ⟨a, b, c, d⟩ v) = ⟨a, b, c, (nextG t (digG t ⟨a, b, c, d⟩ v)).cells⟩ := rfl
    rw [h2, h]⟩
  unfold leads
  rw [Bool.eq_iff_iff, sameG_iff, decide_eq_true_iff]
  exact h1
set_option maxRecDepth 100000 in
set_option maxHeartbeats 4000000 in
theorem rGard_any (t : Tre) (g : Grd) (HA NA A : Option Addr) (hn hc nn nc n ac : Nat) (sl : List Sl) (w : World) (ht : TAt w t HA NA hn nn sl) (hg : GAt w g A n) :
    Calls Try.prog 19 #[.agg #[.int .i64 t.states, .slice HA hn hc, .slice NA nn nc], .agg #[.int .i64 g.w, .int .i64 g.h, .int .i64 g.edge, .slice A n ac]] w fun e w' => e = .returned (.tuple #[.bool (gardR t g), .int .i64 (gardErr t g)]) ∧ Below w.heap.size w w' := by
  have HT : Hid (TAt w t HA NA hn nn sl) := ht
  have HG : Hid (GAt w g A n) := hg
  have HL : Hid (∀ _ : Unit, g.cells.length = n) := fun _ => hg.cl
  clear ht hg
  go_enter Try.func19, Try.ntmps19
  go_wp2_with fail
  have RT : Hid (Row (World.alloc (World.alloc w (.cells #[.int .i64 t.states, .slice HA hn hc, .slice NA nn nc] 25)) (.cells #[.int .i64 g.w, .int .i64 g.h, .int .i64 g.edge, .slice A n ac] 28)) (w.heap.size) 25 [.int .i64 t.states, .slice HA hn hc, .slice NA nn nc]) := by
    have h0 := Row.new w 25 [.int .i64 t.states, .slice HA hn hc, .slice NA nn nc]
    try simp only [World.size_alloc] at h0
    exact (h0.alloc _)
  have RG : Hid (Row (World.alloc (World.alloc w (.cells #[.int .i64 t.states, .slice HA hn hc, .slice NA nn nc] 25)) (.cells #[.int .i64 g.w, .int .i64 g.h, .int .i64 g.edge, .slice A n ac] 28)) (w.heap.size + 1) 28 [.int .i64 g.w, .int .i64 g.h, .int .i64 g.edge, .slice A n ac]) := by
    have h0 := Row.new (World.alloc w (.cells #[.int .i64 t.states, .slice HA hn hc, .slice NA nn nc] 25)) 28 [.int .i64 g.w, .int .i64 g.h, .int .i64 g.edge, .slice A n ac]
    try simp only [World.size_alloc] at h0
    exact h0
  have hgr9 : Below w.heap.size w (World.alloc (World.alloc w (.cells #[.int .i64 t.states, .slice HA hn hc, .slice NA nn nc] 25)) (.cells #[.int .i64 g.w, .int .i64 g.h, .int .i64 g.edge, .slice A n ac] 28)) := by go_grown
  have B_w : Hid (Below w.heap.size w (World.alloc (World.alloc w (.cells #[.int .i64 t.states, .slice HA hn hc, .slice NA nn nc] 25)) (.cells #[.int .i64 g.w, .int .i64 g.h, .int .i64 g.edge, .slice A n ac] 28))) := hgr9
  clear hgr9
  revert RT RG B_w
  generalize (World.alloc (World.alloc w (.cells #[.int .i64 t.states, .slice HA hn hc, .slice NA nn nc] 25)) (.cells #[.int .i64 g.w, .int .i64 g.h, .int .i64 g.edge, .slice A n ac] 28)) = wa
  intro RT RG B_w
  have hwa : w.heap.size + 1 < wa.heap.size := RG.out.lt
  refine (rCheck_any t g HA NA A hn hc nn nc n ac sl wa (HT.out.up B_w.out) (HG.out.up B_w.out)).mono ?_
  rintro e w1 ⟨rfl, hb⟩
  have hwb : wa.heap.size ≤ w1.heap.size := hb.size
  have B_w : Hid (Below w.heap.size w w1) := below_on2 B_w.out hb
  have B_wa : Hid (Below wa.heap.size wa w1) := hb
  clear hb
  obtain ⟨fe, hfe⟩ : ∃ fe, fitsN t g = fe := ⟨_, rfl⟩
  have HFE : Hid (∀ _ : Unit, fitsN t g = fe) := fun _ => hfe
  rw [hfe]
  clear hfe
  by_cases hf : fe = 0
  · subst hf
    have HOK : Hid (OkTG t g) := fits_ok (HFE.out ())
    obtain ⟨hs1, hs2⟩ := states_bd HOK.out.rt
    have hn4 : 1 ≤ n ∧ n ≤ 4096 := by
      obtain ⟨h1, h2, _⟩ := rightG_parts HOK.out.rg
      obtain ⟨⟨s1, _⟩, ⟨s3, _⟩, s5, _⟩ := sizedF_parts h1
      have h6 : 1 ≤ g.w * g.h := Int.mul_pos s1 s3
      rw [← h2, HL.out ()] at s5 h6
      omega
    have RT1 : Hid (Row w1 w.heap.size 25 [.int .i64 t.states, .slice HA hn hc, .slice NA nn nc]) := (rowCells RT.out B_wa.out)
    have RG1 : Hid (Row w1 (w.heap.size + 1) 28 [.int .i64 g.w, .int .i64 g.h, .int .i64 g.edge, .slice A n ac]) := (rowCells RG.out B_wa.out)
    have BW1 : Hid (Below w.heap.size w w1) := B_w
    clear B_w B_wa RT RG
    have p0 := RT1.out.cell 0
    have p1 := RT1.out.cell 1
    have p2 := RT1.out.cell 2
    have pl := RT1.out.lt
    simp only [List.getElem?_cons_zero, List.getElem?_cons_succ] at p0 p1 p2
    have q0 := RG1.out.cell 0
    have q1 := RG1.out.cell 1
    have q2 := RG1.out.cell 2
    have q3 := RG1.out.cell 3
    have ql := RG1.out.lt
    simp only [List.getElem?_cons_zero, List.getElem?_cons_succ] at q0 q1 q2 q3
    go_wp2_with fail
    go_loopg [7, 8] n (fun gg s7 s20 wr => ∃ k : Nat, k ≤ n ∧ n - k ≤ gg ∧ s20 = .int .i64 k ∧ wr = w1 ∧ ∃ p : Int, s7 = .int .i64 p ∧ 1 ≤ p ∧ p ≤ 4096 ∧ Aside (∀ _ : Unit, p = t.states ^ k))
    case atStart => exact ⟨0, Nat.zero_le _, by omega, rfl, rfl, 1, rfl, by omega, by omega, fun _ => by simp⟩
    case round =>
      obtain ⟨k, hk, hgg, rfl, rfl, p, rfl, hp1, hp2, HP⟩ := hrel
      by_cases hlt : k < n
      · have hlz : (k : Int) < (n : Int) := by omega
        have hq : 1 ≤ p * t.states ∧ p * t.states ≤ 32768 := by
          refine ⟨Int.mul_pos hp1 (by omega), ?_⟩
          calc p * t.states ≤ 4096 * t.states := Int.mul_le_mul_of_nonneg_right hp2 (by omega)
            _ ≤ 4096 * 8 := Int.mul_le_mul_of_nonneg_left hs2 (by omega)
        have HQ : Hid (∀ _ : Unit, p * t.states = t.states ^ (k + 1)) := fun _ => by rw [HP.out (), Int.pow_succ]
        by_cases hbig : 4096 < p * t.states
        · have HER : Hid (∀ _ : Unit, gardErr t g = 14) := fun _ => gardErr_many (HFE.out ()) (by
            have h1 := pow_grow (s := t.states) (by omega) (show k + 1 ≤ n by omega)
            rw [← HQ.out ()] at h1
            rw [manyN, HL.out ()]; omega)
          go_wp2_with fail
          refine bodyPost_ret (v := .tuple #[.bool false, .int .i64 14]) (by simp [results, Try.results19, go_sem]) rfl ?_
          exact ⟨by rw [gardR_err (HER.out ()) (by decide), HER.out ()], BW1.out⟩
        · go_wp2_with fail
          go_roundg (n - (k + 1))
          case measure => omega
          case rel => exact ⟨k + 1, by omega, by omega, by go_num, rfl, p * t.states, by go_num, hq.1, by omega, HQ.out⟩
      · have hlz : ¬ (k : Int) < (n : Int) := by omega
        obtain rfl : n = k := by omega
        obtain ⟨mm, rfl⟩ : ∃ mm : Nat, p = (mm : Int) := ⟨p.toNat, by omega⟩
        have HM : Hid (∀ _ : Unit, manyN t g = (mm : Int)) := fun _ => by rw [manyN, HL.out ()]; exact (HP.out ()).symm
        have HER : Hid (∀ _ : Unit, gardErr t g = 0) := fun _ => gardErr_ok (HFE.out ()) (by rw [HM.out ()]; exact hp2)
        have hm4 : mm ≤ 4096 := by omega
        clear hgg hlt hlz HFE HP hp1 hp2
        rename World => wp
        go_wp2_with fail
        clear p0 p1 p2 pl q0 q1 q2 q3 ql
        go_loopg [9, 10, 11, 12] mm (fun gg s9 _ _ _ wx => ∃ v : Nat, v ≤ mm ∧ mm - v ≤ gg ∧ s9 = .int .i64 v ∧ wp.heap.size ≤ wx.heap.size ∧ Aside (Below w.heap.size w wx) ∧ Aside (Row wx w.heap.size 25 [.int .i64 t.states, .slice HA hn hc, .slice NA nn nc]) ∧ Aside (Row wx (w.heap.size + 1) 28 [.int .i64 g.w, .int .i64 g.h, .int .i64 g.edge, .slice A n ac]) ∧ Aside (∀ j, j < v → leads t g (j : Int) = false))
        case atStart => exact ⟨0, Nat.zero_le _, by omega, rfl, Nat.le_refl _, BW1.out, RT1.out, RG1.out, fun j hj => absurd hj (Nat.not_lt_zero _)⟩
        case round =>
          clear RT1 RG1 BW1
          obtain ⟨v, hv, hgg, rfl, hws, BW, RT, RG, HN⟩ := hrel
          by_cases hlt : v < mm
          · have hlz : (v : Int) < (mm : Int) := by omega
            have p0 := RT.out.cell 0
            have p1 := RT.out.cell 1
            have p2 := RT.out.cell 2
            have pl := RT.out.lt
            simp only [List.getElem?_cons_zero, List.getElem?_cons_succ] at p0 p1 p2
            have q0 := RG.out.cell 0
            have q1 := RG.out.cell 1
            have q2 := RG.out.cell 2
            have q3 := RG.out.cell 3
            have ql := RG.out.lt
            simp only [List.getElem?_cons_zero, List.getElem?_cons_succ] at q0 q1 q2 q3
            go_wp2_with fail
            rename World => wx
            have RT6 : Hid (Row (World.alloc wx (.cells #[.int .i64 g.w, .int .i64 g.h, .int .i64 g.edge, .slice none 0 0] 28)) w.heap.size 25 [.int .i64 t.states, .slice HA hn hc, .slice NA nn nc]) := RT.out.alloc _
            have RG6 : Hid (Row (World.alloc wx (.cells #[.int .i64 g.w, .int .i64 g.h, .int .i64 g.edge, .slice none 0 0] 28)) (w.heap.size + 1) 28 [.int .i64 g.w, .int .i64 g.h, .int .i64 g.edge, .slice A n ac]) := RG.out.alloc _
            have RX6 : Hid (Row (World.alloc wx (.cells #[.int .i64 g.w, .int .i64 g.h, .int .i64 g.edge, .slice none 0 0] 28)) wx.heap.size 28 [.int .i64 g.w, .int .i64 g.h, .int .i64 g.edge, .slice none 0 0]) := Row.new wx 28 [.int .i64 g.w, .int .i64 g.h, .int .i64 g.edge, .slice none 0 0]
            have BW6 : Hid (Below w.heap.size w (World.alloc wx (.cells #[.int .i64 g.w, .int .i64 g.h, .int .i64 g.edge, .slice none 0 0] 28))) := BW.out.alloc BW.out.size _
            clear p0 p1 p2 pl q0 q1 q2 q3 ql RT RG BW
            revert RT6 RG6 RX6 BW6
            generalize (World.alloc wx (.cells #[.int .i64 g.w, .int .i64 g.h, .int .i64 g.edge, .slice none 0 0] 28)) = w6
            intro RT6 RG6 RX6 BW6
            go_loopg [11, 12] n (fun gg s11 s12 wy => ∃ (k : Nat) (u : Value), k ≤ n ∧ n - k ≤ gg ∧ s12 = .int .i64 k ∧ wx.heap.size < wy.heap.size ∧ Aside (Below w.heap.size w wy) ∧ Aside (Row wy w.heap.size 25 [.int .i64 t.states, .slice HA hn hc, .slice NA nn nc]) ∧ Aside (Row wy (w.heap.size + 1) 28 [.int .i64 g.w, .int .i64 g.h, .int .i64 g.edge, .slice A n ac]) ∧ Aside (Row wy wx.heap.size 28 [.int .i64 g.w, .int .i64 g.h, .int .i64 g.edge, u]) ∧ Aside (World.ownsRow wy (wx.heap.size + 1) 3 1 u k (ints (digTo t.states (v : Int) k))) ∧ ∃ d : Int, s11 = .int .i64 d ∧ 0 ≤ d ∧ d ≤ 4096 ∧ Aside (∀ _ : Unit, d = (v : Int) / t.states ^ k))
            case atStart => exact ⟨0, _, Nat.zero_le _, by omega, rfl, RX6.out.lt, BW6.out, RT6.out, RG6.out, RX6.out, World.ownsRow_nil _ _ _ _, v, rfl, by omega, by omega, fun _ => by simp⟩
            case round =>
              clear RT6 RG6 RX6 BW6
              obtain ⟨k, u, hk, hg2, rfl, hxl, BW, RT, RG, RX, OW, d, rfl, hd0, hd1, HD⟩ := hrel
              obtain ⟨XA, xc, rfl, _⟩ := Rd.own OW.out
              by_cases hlk : k < n
              · have hlkz : (k : Int) < (n : Int) := by omega
                have p0 := RT.out.cell 0
                have p1 := RT.out.cell 1
                have p2 := RT.out.cell 2
                have pl := RT.out.lt
                simp only [List.getElem?_cons_zero, List.getElem?_cons_succ] at p0 p1 p2
                have q0 := RG.out.cell 0
                have q1 := RG.out.cell 1
                have q2 := RG.out.cell 2
                have q3 := RG.out.cell 3
                have ql := RG.out.lt
                simp only [List.getElem?_cons_zero, List.getElem?_cons_succ] at q0 q1 q2 q3
                have hvc : ints (digTo t.states (v : Int) (k + 1)) = ints (digTo t.states (v : Int) k) ++ [.int .i64 (d % t.states)] := by rw [digTo_succ, ← HD.out ()]; simp [ints]
                have HVC : Hid (∀ _ : Unit, ints (digTo t.states (v : Int) (k + 1)) = ints (digTo t.states (v : Int) k) ++ [.int .i64 (d % t.states)]) := fun _ => hvc
                have RTr : Hid (Row wr w.heap.size 25 [.int .i64 t.states, .slice HA hn hc, .slice NA nn nc]) := RT.out
                have RGr : Hid (Row wr (w.heap.size + 1) 28 [.int .i64 g.w, .int .i64 g.h, .int .i64 g.edge, .slice A n ac]) := RG.out
                have RXr : Hid (Row wr wx.heap.size 28 [.int .i64 g.w, .int .i64 g.h, .int .i64 g.edge, .slice XA k xc]) := RX.out
                have OWr : Hid (World.ownsRow wr (wx.heap.size + 1) 3 1 (.slice XA k xc) k (ints (digTo t.states (v : Int) k))) := OW.out
                have BWr : Hid (Below w.heap.size w wr) := BW.out
                clear hvc RT RG RX OW BW
                have hrm : d.tmod t.states = d % t.states := Int.tmod_eq_emod_of_nonneg hd0
                have hs0 : (t.states = 0) = False := by simp; omega
                go_wp2_with fail
                refine wp_region_L (fun w' => Row w' w.heap.size 25 [.int .i64 t.states, .slice HA hn hc, .slice NA nn nc] ∧ Row w' wx.heap.size 28 [.int .i64 g.w, .int .i64 g.h, .int .i64 g.edge, .slice XA k xc]) [7, 8, 9] (by kernel_rfl) (by exact ⟨RTr.out.drew, RXr.out.drew⟩) (fun hHeld => ?_)
                have RTd : Hid (Row wr.drew w.heap.size 25 [.int .i64 t.states, .slice HA hn hc, .slice NA nn nc]) := hHeld.1
                have RXd : Hid (Row wr.drew wx.heap.size 28 [.int .i64 g.w, .int .i64 g.h, .int .i64 g.edge, .slice XA k xc]) := hHeld.2
                have RGd : Hid (Row wr.drew (w.heap.size + 1) 28 [.int .i64 g.w, .int .i64 g.h, .int .i64 g.edge, .slice A n ac]) := RGr.out.drew
                have BNd : Hid (Below w.heap.size w wr.drew) := BWr.out.drew
                have OUd : Hid (World.ownsRow wr.drew (wx.heap.size + 1) 3 1 (.slice XA k xc) k (ints (digTo t.states (v : Int) k))) := OWr.out
                have hszd : wx.heap.size < wr.drew.heap.size := hxl
                clear p0 p1 p2 pl q0 q1 q2 q3 ql RTr RGr RXr BWr OWr
                revert hHeld RTd RXd RGd BNd OUd hszd
                generalize wr.drew = wQ
                intro hHeld RTd RXd RGd BNd OUd hszd
                refine restL_pure (i := 0) (v := ?vb1) rfl (by kernel_rfl) (by kernel_rfl) (by kernel_rfl) (fun _ _ _ h => h) (Or.inl ⟨by rfl, ?yb1⟩) ?rb1
                case yb1 => intro w' hSw; clear hSw; go_simp; try (with_reducible rfl)
                go_simp
                refine restL_pure (i := 2) (v := ?vb2) rfl (by kernel_rfl) (by kernel_rfl) (by kernel_rfl) (fun _ _ _ h => h) (Or.inl ⟨by rfl, ?yb2⟩) ?rb2
                case yb2 => intro w' hSw; clear hSw; go_simp; try (with_reducible rfl)
                go_simp
                refine restL_pure (i := 3) (v := ?vb3) rfl (by kernel_rfl) (by kernel_rfl) (by kernel_rfl) (fun _ _ _ h => h) (Or.inl ⟨by rfl, ?yb3⟩) ?rb3
                case yb3 => intro w' hSw; clear hSw; go_simp; try (with_reducible rfl)
                go_simp
                refine restL_take (i := 1) (v := ?vb4) [[7], [8], [9]] rfl (by kernel_rfl) (by kernel_rfl) (by kernel_rfl) (by kernel_rfl) (fun _ _ _ h => h) (Or.inl ⟨by rfl, ?yb4⟩) hHeld ?rb4
                case yb4 =>
                  intro w' hSw
                  have hSh : Hid (Row w' w.heap.size 25 [.int .i64 t.states, .slice HA hn hc, .slice NA nn nc]) := hSw.1
                  have hSp : Hid (Row w' wx.heap.size 28 [.int .i64 g.w, .int .i64 g.h, .int .i64 g.edge, .slice XA k xc]) := hSw.2
                  clear hSw
                  have z0 := hSh.out.cell 0
                  have z1 := hSh.out.cell 1
                  have z2 := hSh.out.cell 2
                  have zl := hSh.out.lt
                  simp only [List.getElem?_cons_zero, List.getElem?_cons_succ] at z0 z1 z2
                  have y0 := hSp.out.cell 0
                  have y1 := hSp.out.cell 1
                  have y2 := hSp.out.cell 2
                  have y3 := hSp.out.cell 3
                  have yl := hSp.out.lt
                  simp only [List.getElem?_cons_zero, List.getElem?_cons_succ] at y0 y1 y2 y3
                  go_simp
                  try (with_reducible rfl)
                go_simp
                refine restL_take (i := 4) (v := ?vb5) [[7, 6, 5], [8], [9]] rfl (by kernel_rfl) (by kernel_rfl) (by kernel_rfl) (by kernel_rfl) (fun _ _ _ h => h) (Or.inl ⟨by rfl, ?yb5⟩) hHeld ?rb5
                case yb5 =>
                  intro w' hSw
                  have hSh : Hid (Row w' w.heap.size 25 [.int .i64 t.states, .slice HA hn hc, .slice NA nn nc]) := hSw.1
                  have hSp : Hid (Row w' wx.heap.size 28 [.int .i64 g.w, .int .i64 g.h, .int .i64 g.edge, .slice XA k xc]) := hSw.2
                  clear hSw
                  have z0 := hSh.out.cell 0
                  have z1 := hSh.out.cell 1
                  have z2 := hSh.out.cell 2
                  have zl := hSh.out.lt
                  simp only [List.getElem?_cons_zero, List.getElem?_cons_succ] at z0 z1 z2
                  have y0 := hSp.out.cell 0
                  have y1 := hSp.out.cell 1
                  have y2 := hSp.out.cell 2
                  have y3 := hSp.out.cell 3
                  have yl := hSp.out.lt
                  simp only [List.getElem?_cons_zero, List.getElem?_cons_succ] at y0 y1 y2 y3
                  go_simp
                  try (with_reducible rfl)
                go_simp
                refine restL_pure (i := 5) (v := ?vb6) rfl (by kernel_rfl) (by kernel_rfl) (by kernel_rfl) (fun _ _ _ h => h) (Or.inl ⟨by rfl, ?yb6⟩) ?rb6
                case yb6 => intro w' hSw; clear hSw; go_simp; try (with_reducible rfl)
                go_simp
                refine restL_one (i := 6) (by kernel_rfl) rfl (fun K hK => ?_)
                go_simp
                refine hK.out _ _ (fun _ => ?keep) (fun hHeld => ?_)
                case keep => exact ⟨RTd.out.alloc _, RXd.out.alloc _⟩
                have hHeld := hHeld rfl
                clear hK K
                try go_simp
                refine restL_one (i := 7) (by kernel_rfl) rfl (fun K hK => ?_)
                refine step_app rfl (.tmp 53) (.tmp 58) 26 rfl (wx.heap.size + 1) 3 (.int .i64 0) 1 8 Try.underlying26 int_infoN rfl (by decide) (by decide) (.slice XA k xc) k (ints (digTo t.states (v : Int) k)) rfl ?own (wQ.heap.size + 1) (some ⟨wQ.heap.size, 0, none⟩) 1 1 [.int .i64 (d % t.states)] rfl ?rd ?one ?hb ?hbase ?_
                case own => exact OUd.out.alloc _
                case rd => exact Rd.lit wQ #[.int .i64 (d % t.states)] 3 (sz := 1) (m := 1) rfl
                case one => first | (intro u hu; simp at hu; subst hu; rfl) | rfl
                case hb => omega
                case hbase => first | (simp; omega) | omega
                intro v' w5 hown' hgrow' hat'
                obtain ⟨VB, vd, rfl, _⟩ := Rd.own hown'
                have OU5 : Hid (World.ownsRow w5 (wx.heap.size + 1) 3 1 (.slice VB (k + 1) vd) (k + 1) (ints (digTo t.states (v : Int) (k + 1)))) := (by show World.ownsRow _ _ _ _ _ _ _; rw [HVC.out ()]; exact hown')
                have RX5 : Hid (Row w5 wx.heap.size 28 [.int .i64 g.w, .int .i64 g.h, .int .i64 g.edge, .slice XA k xc]) := (RXd.out.alloc _).grown hgrow' (fun e => own_ne_row OUd.out RXd.out (by decide) e.symm)
                have RT5 : Hid (Row w5 w.heap.size 25 [.int .i64 t.states, .slice HA hn hc, .slice NA nn nc]) := (RTd.out.alloc _).grown hgrow' (fun e => own_ne_row OUd.out RTd.out (by decide) e.symm)
                have RG5 : Hid (Row w5 (w.heap.size + 1) 28 [.int .i64 g.w, .int .i64 g.h, .int .i64 g.edge, .slice A n ac]) := (RGd.out.alloc _).grown hgrow' (fun e => own_ne_row OUd.out RGd.out (by decide) e.symm)
                have BW5 : Hid (Below w.heap.size w w5) := (BNd.out.alloc BNd.out.size _).grown hgrow' (by have := BNd.out.size; simp; omega) (fun q hq => by have := (OUd.out.lt q hq).1; omega)
                have hsz5 : wx.heap.size < w5.heap.size := Nat.lt_of_lt_of_le hszd (Nat.le_trans (by simp) hgrow'.size)
                have q3 := RX5.out.cell 3
                have qf := RX5.out.frozen 3
                have ql := RX5.out.lt
                simp only [List.getElem?_cons_zero, List.getElem?_cons_succ] at q3
                clear hown' hgrow' hat' RTd RXd RGd BNd OUd hszd
                refine hK.out _ _ (fun h => absurd h (by decide)) (fun _ => ?_)
                clear hK K
                try go_simp
                refine restL_pure (i := 8) (v := ?vb7) rfl (by kernel_rfl) (by kernel_rfl) (by kernel_rfl) (fun _ _ _ h => h) (Or.inl ⟨by rfl, ?yb7⟩) ?rb7
                case yb7 => intro w' hSw; clear hSw; go_simp; try (with_reducible rfl)
                go_simp
                refine restL_one (i := 9) (by kernel_rfl) rfl (fun K hK => ?_)
                go_simp
                refine hK.out _ _ (fun h => absurd h (by decide)) (fun _ => ?_)
                clear hK K
                try go_simp
                refine restL_done (by kernel_rfl) ?_ _
                clear hrm hs0
                have RX8 : Hid (Row (World.setCell w5 ⟨wx.heap.size, 3, none⟩ (.slice VB (k + 1) vd)) wx.heap.size 28 [.int .i64 g.w, .int .i64 g.h, .int .i64 g.edge, .slice VB (k + 1) vd]) := RX5.out.set 3 _
                have RT8 : Hid (Row (World.setCell w5 ⟨wx.heap.size, 3, none⟩ (.slice VB (k + 1) vd)) w.heap.size 25 [.int .i64 t.states, .slice HA hn hc, .slice NA nn nc]) := RT5.out.far (p := ⟨wx.heap.size, 3, none⟩) (by show w.heap.size ≠ wx.heap.size; omega) _
                have RG8 : Hid (Row (World.setCell w5 ⟨wx.heap.size, 3, none⟩ (.slice VB (k + 1) vd)) (w.heap.size + 1) 28 [.int .i64 g.w, .int .i64 g.h, .int .i64 g.edge, .slice A n ac]) := RG5.out.far (p := ⟨wx.heap.size, 3, none⟩) (by show (w.heap.size + 1) ≠ wx.heap.size; omega) _
                have BW8 : Hid (Below w.heap.size w (World.setCell w5 ⟨wx.heap.size, 3, none⟩ (.slice VB (k + 1) vd))) := BW5.out.setCell (p := ⟨wx.heap.size, 3, none⟩) (by show _ ≤ wx.heap.size; omega) _
                have OU8 : Hid (World.ownsRow (World.setCell w5 ⟨wx.heap.size, 3, none⟩ (.slice VB (k + 1) vd)) (wx.heap.size + 1) 3 1 (.slice VB (k + 1) vd) (k + 1) (ints (digTo t.states (v : Int) (k + 1)))) := own_set (p := ⟨wx.heap.size, 3, none⟩) OU5.out RX5.out (by decide) _
                have hsz8 : wx.heap.size < ((World.setCell w5 ⟨wx.heap.size, 3, none⟩ (.slice VB (k + 1) vd))).heap.size := by rw [World.size_setCell]; exact hsz5
                clear RX5 RT5 RG5 BW5 OU5 q3 qf ql hsz5
                revert RX8 RT8 RG8 BW8 OU8 hsz8
                generalize (World.setCell w5 ⟨wx.heap.size, 3, none⟩ (.slice VB (k + 1) vd)) = w8
                intro RX8 RT8 RG8 BW8 OU8 hsz8
                have p0 := RT8.out.cell 0
                have p1 := RT8.out.cell 1
                have p2 := RT8.out.cell 2
                have pl := RT8.out.lt
                simp only [List.getElem?_cons_zero, List.getElem?_cons_succ] at p0 p1 p2
                go_wp2_with fail
                go_roundg (n - (k + 1))
                case measure => omega
                case rel =>
                  refine ⟨k + 1, _, by omega, by omega, by go_num, hsz8, BW8.out, RT8.out, RG8.out, RX8.out, OU8.out, d / t.states, by go_num, Int.ediv_nonneg hd0 (by omega), Int.le_trans (Int.ediv_le_self _ hd0) hd1, fun _ => ?_⟩
                  rw [HD.out ()]; exact div_step (by omega) k
              · have hlkz : ¬ (k : Int) < (n : Int) := by omega
                obtain rfl : n = k := by omega
                have p0 := RT.out.cell 0
                have p1 := RT.out.cell 1
                have p2 := RT.out.cell 2
                have pl := RT.out.lt
                simp only [List.getElem?_cons_zero, List.getElem?_cons_succ] at p0 p1 p2
                have q0 := RG.out.cell 0
                have q1 := RG.out.cell 1
                have q2 := RG.out.cell 2
                have q3 := RG.out.cell 3
                have ql := RG.out.lt
                simp only [List.getElem?_cons_zero, List.getElem?_cons_succ] at q0 q1 q2 q3
                have HTr : Hid (TAt wr t HA NA hn nn sl) := HT.out.up BW.out
                have HGr : Hid (GAt wr g A n) := HG.out.up BW.out
                have HXr : Hid (GAt wr (digG t g (v : Int)) XA n) := ⟨(by
                    show Rd _ _ _ _ _ (ints (digTo t.states (v : Int) g.cells.length))
                    rw [HL.out ()]
                    exact Rd.of_own OW.out), by unfold maxLen; omega⟩
                obtain ⟨lb, hlb⟩ : ∃ lb, leads t g (v : Int) = lb := ⟨_, rfl⟩
                have HLB : Hid (∀ _ : Unit, leads t g (v : Int) = lb) := fun _ => hlb
                clear hlb OW
                have B_w : Hid (Below w.heap.size w wr) := BW.out
                clear BW p0 p1 p2 pl q0 q1 q2 q3 ql
                have q0 := RG.out.cell 0
                have q1 := RG.out.cell 1
                have q2 := RG.out.cell 2
                have q3 := RG.out.cell 3
                have ql := RG.out.lt
                simp only [List.getElem?_cons_zero, List.getElem?_cons_succ] at q0 q1 q2 q3
                go_wp2_with fail
                clear q0 q1 q2 q3 ql
                refine wp_region_L (fun w' => Row w' (w.heap.size) 25 [.int .i64 t.states, .slice HA hn hc, .slice NA nn nc] ∧ Row w' ((w.heap.size + 1)) 28 [.int .i64 g.w, .int .i64 g.h, .int .i64 g.edge, .slice A n ac] ∧ Row w' (wx.heap.size) 28 [.int .i64 g.w, .int .i64 g.h, .int .i64 g.edge, .slice XA n xc]) [] (by kernel_rfl) (by exact ⟨Row.drew RT.out, Row.drew RG.out, Row.drew RX.out⟩) (fun hHeld => ?_)
                have B_w : Hid (Below w.heap.size w (World.drew wr)) := B_w.out.drew
                have B_wr : Hid (Below wr.heap.size wr (World.drew wr)) := (Below.refl _ _).drew
                revert hHeld B_w B_wr
                generalize World.drew wr = wrq
                intro hHeld B_w B_wr
                refine restL_take (i := 0) (v := ?va1) [] rfl (by kernel_rfl) (by kernel_rfl) (by kernel_rfl) (by kernel_rfl) (fun _ _ _ h => h) (Or.inl ⟨by rfl, ?ya1⟩) hHeld ?ra1
                case ya1 =>
                  intro w' hSw
                  obtain ⟨hS0, hS1, hS2⟩ := hSw
                  have hT0 : Hid (Row w' (w.heap.size) 25 [.int .i64 t.states, .slice HA hn hc, .slice NA nn nc]) := hS0
                  clear hS0
                  have z0_0 := hT0.out.cell 0
                  have z0_1 := hT0.out.cell 1
                  have z0_2 := hT0.out.cell 2
                  have z0_l := hT0.out.lt
                  simp only [List.getElem?_cons_zero, List.getElem?_cons_succ] at z0_0 z0_1 z0_2
                  have hT1 : Hid (Row w' ((w.heap.size + 1)) 28 [.int .i64 g.w, .int .i64 g.h, .int .i64 g.edge, .slice A n ac]) := hS1
                  clear hS1
                  have z1_0 := hT1.out.cell 0
                  have z1_1 := hT1.out.cell 1
                  have z1_2 := hT1.out.cell 2
                  have z1_3 := hT1.out.cell 3
                  have z1_l := hT1.out.lt
                  simp only [List.getElem?_cons_zero, List.getElem?_cons_succ] at z1_0 z1_1 z1_2 z1_3
                  have hT2 : Hid (Row w' (wx.heap.size) 28 [.int .i64 g.w, .int .i64 g.h, .int .i64 g.edge, .slice XA n xc]) := hS2
                  clear hS2
                  have z2_0 := hT2.out.cell 0
                  have z2_1 := hT2.out.cell 1
                  have z2_2 := hT2.out.cell 2
                  have z2_3 := hT2.out.cell 3
                  have z2_l := hT2.out.lt
                  simp only [List.getElem?_cons_zero, List.getElem?_cons_succ] at z2_0 z2_1 z2_2 z2_3
                  go_simp
                  try (with_reducible rfl)
                go_simp
                refine restL_take (i := 1) (v := ?va2) [] rfl (by kernel_rfl) (by kernel_rfl) (by kernel_rfl) (by kernel_rfl) (fun _ _ _ h => h) (Or.inl ⟨by rfl, ?ya2⟩) hHeld ?ra2
                case ya2 =>
                  intro w' hSw
                  obtain ⟨hS0, hS1, hS2⟩ := hSw
                  have hT0 : Hid (Row w' (w.heap.size) 25 [.int .i64 t.states, .slice HA hn hc, .slice NA nn nc]) := hS0
                  clear hS0
                  have z0_0 := hT0.out.cell 0
                  have z0_1 := hT0.out.cell 1
                  have z0_2 := hT0.out.cell 2
                  have z0_l := hT0.out.lt
                  simp only [List.getElem?_cons_zero, List.getElem?_cons_succ] at z0_0 z0_1 z0_2
                  have hT1 : Hid (Row w' ((w.heap.size + 1)) 28 [.int .i64 g.w, .int .i64 g.h, .int .i64 g.edge, .slice A n ac]) := hS1
                  clear hS1
                  have z1_0 := hT1.out.cell 0
                  have z1_1 := hT1.out.cell 1
                  have z1_2 := hT1.out.cell 2
                  have z1_3 := hT1.out.cell 3
                  have z1_l := hT1.out.lt
                  simp only [List.getElem?_cons_zero, List.getElem?_cons_succ] at z1_0 z1_1 z1_2 z1_3
                  have hT2 : Hid (Row w' (wx.heap.size) 28 [.int .i64 g.w, .int .i64 g.h, .int .i64 g.edge, .slice XA n xc]) := hS2
                  clear hS2
                  have z2_0 := hT2.out.cell 0
                  have z2_1 := hT2.out.cell 1
                  have z2_2 := hT2.out.cell 2
                  have z2_3 := hT2.out.cell 3
                  have z2_l := hT2.out.lt
                  simp only [List.getElem?_cons_zero, List.getElem?_cons_succ] at z2_0 z2_1 z2_2 z2_3
                  go_simp
                  try (with_reducible rfl)
                go_simp
                refine restL_take (i := 3) (v := ?va3) [] rfl (by kernel_rfl) (by kernel_rfl) (by kernel_rfl) (by kernel_rfl) (fun _ _ _ h => h) (Or.inl ⟨by rfl, ?ya3⟩) hHeld ?ra3
                case ya3 =>
                  intro w' hSw
                  obtain ⟨hS0, hS1, hS2⟩ := hSw
                  have hT0 : Hid (Row w' (w.heap.size) 25 [.int .i64 t.states, .slice HA hn hc, .slice NA nn nc]) := hS0
                  clear hS0
                  have z0_0 := hT0.out.cell 0
                  have z0_1 := hT0.out.cell 1
                  have z0_2 := hT0.out.cell 2
                  have z0_l := hT0.out.lt
                  simp only [List.getElem?_cons_zero, List.getElem?_cons_succ] at z0_0 z0_1 z0_2
                  have hT1 : Hid (Row w' ((w.heap.size + 1)) 28 [.int .i64 g.w, .int .i64 g.h, .int .i64 g.edge, .slice A n ac]) := hS1
                  clear hS1
                  have z1_0 := hT1.out.cell 0
                  have z1_1 := hT1.out.cell 1
                  have z1_2 := hT1.out.cell 2
                  have z1_3 := hT1.out.cell 3
                  have z1_l := hT1.out.lt
                  simp only [List.getElem?_cons_zero, List.getElem?_cons_succ] at z1_0 z1_1 z1_2 z1_3
                  have hT2 : Hid (Row w' (wx.heap.size) 28 [.int .i64 g.w, .int .i64 g.h, .int .i64 g.edge, .slice XA n xc]) := hS2
                  clear hS2
                  have z2_0 := hT2.out.cell 0
                  have z2_1 := hT2.out.cell 1
                  have z2_2 := hT2.out.cell 2
                  have z2_3 := hT2.out.cell 3
                  have z2_l := hT2.out.lt
                  simp only [List.getElem?_cons_zero, List.getElem?_cons_succ] at z2_0 z2_1 z2_2 z2_3
                  go_simp
                  try (with_reducible rfl)
                go_simp
                refine restL_one (i := 2) (by kernel_rfl) rfl (fun K hK => ?_)
                go_simp
                go_at_call 25
                have HCT : Calls Try.prog 25 #[.agg #[.int .i64 t.states, .slice HA hn hc, .slice NA nn nc], .agg #[.int .i64 g.w, .int .i64 g.h, .int .i64 g.edge, .slice XA n xc]] wrq (GridPost (nextG t (digG t g (v : Int))) wrq) := rNext_any t (digG t g (v : Int)) HA NA XA hn hc nn nc n xc sl wrq (HTr.out.up B_wr.out) (HXr.out.up B_wr.out) (digG_ok HOK.out _)
                refine HCT.mono ?_
                clear HCT
                rintro e wn ⟨RA, rn, rc, rfl, hra, hno, hb⟩
                have HRA : Hid (GAt wn (nextG t (digG t g (v : Int))) RA rn) := hra
                clear hra hno
                have B_w : Hid (Below w.heap.size w wn) := below_on2 B_w.out hb
                have B_wr : Hid (Below wr.heap.size wr wn) := below_on2 B_wr.out hb
                have B_wrq : Hid (Below wrq.heap.size wrq wn) := hb
                clear hb
                clear hHeld
                refine hK.out _ _ (fun _ => ?keep) (fun hHeld => ?_)
                case keep => exact ⟨(rowCells RT.out B_wr.out), (rowCells RG.out B_wr.out), (rowCells RX.out B_wr.out)⟩
                have hHeld := hHeld rfl
                clear hK K
                try go_simp
                refine restL_one (i := 4) (by kernel_rfl) rfl (fun K hK => ?_)
                go_simp
                go_at_call 13
                have HCT := rGSame_any (nextG t (digG t g (v : Int))) g RA A rn rc n ac wn HRA.out (HGr.out.up B_wr.out)
                rw [same_leads, HLB.out ()] at HCT
                refine HCT.mono ?_
                clear HCT
                rintro e we ⟨rfl, hb⟩
                have B_w : Hid (Below w.heap.size w we) := below_on2 B_w.out hb
                have B_wr : Hid (Below wr.heap.size wr we) := below_on2 B_wr.out hb
                have B_wrq : Hid (Below wrq.heap.size wrq we) := below_on2 B_wrq.out hb
                have B_wn : Hid (Below wn.heap.size wn we) := hb
                clear hb
                clear hHeld
                refine hK.out _ _ (fun _ => ?keep) (fun hHeld => ?_)
                case keep => exact ⟨(rowCells RT.out B_wr.out), (rowCells RG.out B_wr.out), (rowCells RX.out B_wr.out)⟩
                have hHeld := hHeld rfl
                clear hK K
                try go_simp
                refine restL_done (by kernel_rfl) ?_ _
                have RTe : Hid (Row we w.heap.size 25 [.int .i64 t.states, .slice HA hn hc, .slice NA nn nc]) := (rowCells RT.out B_wr.out)
                have RGe : Hid (Row we (w.heap.size + 1) 28 [.int .i64 g.w, .int .i64 g.h, .int .i64 g.edge, .slice A n ac]) := (rowCells RG.out B_wr.out)
                have BWe : Hid (Below w.heap.size w we) := B_w.out
                have hsze : wp.heap.size ≤ we.heap.size := by have := B_wr.out.size; omega
                cases lb
                · go_wp2_with fail
                  go_roundg (mm - (v + 1))
                  case measure => omega
                  case rel =>
                    refine ⟨v + 1, by omega, by omega, by go_num, hsze, BWe.out, RTe.out, RGe.out, fun j hj => ?_⟩
                    rcases Nat.lt_or_ge j v with h1 | h1
                    · exact HN.out j h1
                    · obtain rfl : j = v := by omega
                      exact HLB.out ()
                · have HRR : Hid (∀ _ : Unit, gardR t g = false) := fun _ => gardR_hit (HER.out ()) (by rw [HM.out ()]; exact hlz) (HLB.out ())
                  go_wp2_with fail
                  refine bodyPost_ret (v := .tuple #[.bool false, .int .i64 0]) (by simp [results, Try.results19, go_sem]) rfl ?_
                  exact ⟨by rw [HRR.out (), HER.out ()], BWe.out⟩
          · have hlz : ¬ (v : Int) < (mm : Int) := by omega
            obtain rfl : mm = v := by omega
            have HRR : Hid (∀ _ : Unit, gardR t g = true) := fun _ => gardR_none (HER.out ()) (HM.out ()) HN.out
            go_wp2_with fail
            refine bodyPost_ret (v := .tuple #[.bool true, .int .i64 0]) (by simp [results, Try.results19, go_sem]) rfl ?_
            exact ⟨by rw [HRR.out (), HER.out ()], BW.out⟩
  · have HER : Hid (∀ _ : Unit, gardErr t g = fe ∧ fe ≠ 0) := fun _ => ⟨by rw [← HFE.out ()]; exact gardErr_fits (by rw [HFE.out ()]; exact hf), hf⟩
    clear HFE
    go_wp2_with fail
    refine bodyPost_ret (v := .tuple #[.bool false, .int .i64 fe]) (by simp [results, Try.results19, go_sem]) rfl ?_
    exact ⟨by rw [gardR_err (HER.out ()).1 (HER.out ()).2, (HER.out ()).1], B_w.out⟩
end Go.Proofs.Ytdkfaphclhaiaaa
