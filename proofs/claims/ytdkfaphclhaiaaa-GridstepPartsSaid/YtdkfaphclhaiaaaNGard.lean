/-
  Garden of package gridstep, walked.
-/
import Derived.Test.YtdkfaphclhaiaaaNGardP
import Derived.Test.YtdkfaphclhaiaaaNNext
import Derived.Test.YtdkfaphclhaiaaaNFits
import Derived.Test.YtdkfaphclhaiaaaGPost
import Derived.Test.YtdkfaphclhaiaaaEqInts
import Derived.Test.YtdkfaphclhaiaaaRegL
import Derived.BigQuiet
namespace Go.Proofs.Ytdkfaphclhaiaaa
open Go.RowKit
set_option linter.unusedSimpArgs false
set_option linter.unusedVariables false
def digZ (s v : Int) (n k : Nat) : List Int := digTo s v k ++ List.replicate (n - k) 0
theorem digZ_length {s v : Int} {n k : Nat} (h : k ≤ n) : (digZ s v n k).length = n := by simp [digZ, digTo_length]; omega
theorem digZ_set {s v : Int} {n k : Nat} (h : k < n) : (digZ s v n k).set k (v / s ^ k % s) = digZ s v n (k + 1) := by
  unfold digZ
  rw [List.set_append_right _ _ (by rw [digTo_length]; omega), digTo_length, Nat.sub_self, digTo_succ, List.append_assoc]
  congr 1
  obtain ⟨m, hm⟩ : ∃ m, n - k = m + 1 := ⟨n - k - 1, by omega⟩
  rw [hm, show n - (k + 1) = m by omega, List.replicate_succ]; rfl
theorem digZ_all {s v : Int} {n : Nat} : digZ s v n n = digTo s v n := by simp [digZ]
set_option maxRecDepth 100000 in
set_option maxHeartbeats 4000000 in
theorem gGard_any (t : Tre) (g : Grd) (HA NA A : Option Addr) (hn hc nn nc n ac : Nat) (sl : List Sl) (w : World) (ht : TAt w t HA NA hn nn sl) (hg : GAt w g A n) :
    Calls Try.prog 18 #[.agg #[.int .i64 t.states, .slice HA hn hc, .slice NA nn nc], .agg #[.int .i64 g.w, .int .i64 g.h, .int .i64 g.edge, .slice A n ac]] w fun e w' => e = .returned (.tuple #[.bool (gardR t g), .int .i64 (gardErr t g)]) ∧ Below w.heap.size w w' := by
  have HT : Hid (TAt w t HA NA hn nn sl) := ht
  have HG : Hid (GAt w g A n) := hg
  have HL : Hid (∀ _ : Unit, g.cells.length = n) := fun _ => hg.cl
  clear ht hg
  go_enter Try.func18, Try.ntmps18
  go_wp2_with fail
  have RT : Hid (Row (World.alloc (World.alloc w (.cells #[.int .i64 t.states, .slice HA hn hc, .slice NA nn nc] 25)) (.cells #[.int .i64 g.w, .int .i64 g.h, .int .i64 g.edge, .slice A n ac] 28)) (w.heap.size) 25 [.int .i64 t.states, .slice HA hn hc, .slice NA nn nc]) := by
    have h0 := Row.new w 25 [.int .i64 t.states, .slice HA hn hc, .slice NA nn nc]
    try simp only [World.size_alloc] at h0
    exact (h0.alloc _)
  have RG : Hid (Row (World.alloc (World.alloc w (.cells #[.int .i64 t.states, .slice HA hn hc, .slice NA nn nc] 25)) (.cells #[.int .i64 g.w, .int .i64 g.h, .int .i64 g.edge, .slice A n ac] 28)) (w.heap.size + 1) 28 [.int .i64 g.w, .int .i64 g.h, .int .i64 g.edge, .slice A n ac]) := by
    have h0 := Row.new (World.alloc w (.cells #[.int .i64 t.states, .slice HA hn hc, .slice NA nn nc] 25)) 28 [.int .i64 g.w, .int .i64 g.h, .int .i64 g.edge, .slice A n ac]
    try simp only [World.size_alloc] at h0
    exact h0
  have hgr9 : Below w.heap.size w (World.alloc (World.alloc w (.cells #[.int .i64 t.states, .slice HA hn hc, .slice NA nn nc] 25)) (.cells #[.int .i64 g.w, .int .i64 g.h, .int .i64 g.edge, .slice A n ac] 28)) := by go_grown
  have B_w : Hid (Below w.heap.size w (World.alloc (World.alloc w (.cells #[.int .i64 t.states, .slice HA hn hc, .slice NA nn nc] 25)) (.cells #[.int .i64 g.w, .int .i64 g.h, .int .i64 g.edge, .slice A n ac] 28))) := hgr9
  clear hgr9
  revert RT RG B_w
  generalize (World.alloc (World.alloc w (.cells #[.int .i64 t.states, .slice HA hn hc, .slice NA nn nc] 25)) (.cells #[.int .i64 g.w, .int .i64 g.h, .int .i64 g.edge, .slice A n ac] 28)) = wa
  intro RT RG B_w
  have hwa : w.heap.size + 1 < wa.heap.size := RG.out.lt
  refine (fitsN_any t g HA NA A hn hc nn nc n ac sl wa (HT.out.up B_w.out) (HG.out.up B_w.out)).mono ?_
  rintro e w1 ⟨rfl, hb⟩
  have hwb : wa.heap.size ≤ w1.heap.size := hb.size
  have B_w : Hid (Below w.heap.size w w1) := below_on2 B_w.out hb
  have B_wa : Hid (Below wa.heap.size wa w1) := hb
  clear hb
  obtain ⟨fe, hfe⟩ : ∃ fe, fitsN t g = fe := ⟨_, rfl⟩
  have HFE : Hid (∀ _ : Unit, fitsN t g = fe) := fun _ => hfe
  rw [hfe]
  clear hfe
  by_cases hf : fe = 0
  · subst hf
    have HOK : Hid (OkTG t g) := fits_ok (HFE.out ())
    obtain ⟨hs1, hs2⟩ := states_bd HOK.out.rt
    have hn4 : 1 ≤ n ∧ n ≤ 4096 := by
      obtain ⟨h1, h2, _⟩ := rightG_parts HOK.out.rg
      obtain ⟨⟨s1, _⟩, ⟨s3, _⟩, s5, _⟩ := sizedF_parts h1
      have h6 : 1 ≤ g.w * g.h := Int.mul_pos s1 s3
      rw [← h2, HL.out ()] at s5 h6
      omega
    have RT1 : Hid (Row w1 w.heap.size 25 [.int .i64 t.states, .slice HA hn hc, .slice NA nn nc]) := (rowCells RT.out B_wa.out)
    have RG1 : Hid (Row w1 (w.heap.size + 1) 28 [.int .i64 g.w, .int .i64 g.h, .int .i64 g.edge, .slice A n ac]) := (rowCells RG.out B_wa.out)
    have BW1 : Hid (Below w.heap.size w w1) := B_w
    clear B_w B_wa RT RG
    have p0 := RT1.out.cell 0
    have p1 := RT1.out.cell 1
    have p2 := RT1.out.cell 2
    have pl := RT1.out.lt
    simp only [List.getElem?_cons_zero, List.getElem?_cons_succ] at p0 p1 p2
    have q0 := RG1.out.cell 0
    have q1 := RG1.out.cell 1
    have q2 := RG1.out.cell 2
    have q3 := RG1.out.cell 3
    have ql := RG1.out.lt
    simp only [List.getElem?_cons_zero, List.getElem?_cons_succ] at q0 q1 q2 q3
    go_wp2_with fail
    go_loopg [7, 20] n (fun gg s7 s20 wr => ∃ k : Nat, k ≤ n ∧ n - k ≤ gg ∧ s20 = .int .i64 k ∧ wr = w1 ∧ ∃ p : Int, s7 = .int .i64 p ∧ 1 ≤ p ∧ p ≤ 4096 ∧ Aside (∀ _ : Unit, p = t.states ^ k))
    case atStart => exact ⟨0, Nat.zero_le _, by omega, rfl, rfl, 1, rfl, by omega, by omega, fun _ => by simp⟩
    case round =>
      obtain ⟨k, hk, hgg, rfl, rfl, p, rfl, hp1, hp2, HP⟩ := hrel
      by_cases hlt : k < n
      · have hlz : (k : Int) < (n : Int) := by omega
        have hq : 1 ≤ p * t.states ∧ p * t.states ≤ 32768 := by
          refine ⟨Int.mul_pos hp1 (by omega), ?_⟩
          calc p * t.states ≤ 4096 * t.states := Int.mul_le_mul_of_nonneg_right hp2 (by omega)
            _ ≤ 4096 * 8 := Int.mul_le_mul_of_nonneg_left hs2 (by omega)
        have HQ : Hid (∀ _ : Unit, p * t.states = t.states ^ (k + 1)) := fun _ => by rw [HP.out (), Int.pow_succ]
        by_cases hbig : 4096 < p * t.states
        · have HER : Hid (∀ _ : Unit, gardErr t g = 14) := fun _ => gardErr_many (HFE.out ()) (by
            have h1 := pow_grow (s := t.states) (by omega) (show k + 1 ≤ n by omega)
            rw [← HQ.out ()] at h1
            rw [manyN, HL.out ()]; omega)
          go_wp2_with fail
          refine bodyPost_ret (v := .tuple #[.bool false, .int .i64 14]) (by simp [results, Try.results18, go_sem]) rfl ?_
          exact ⟨by rw [gardR_err (HER.out ()) (by decide), HER.out ()], BW1.out⟩
        · go_wp2_with fail
          go_roundg (n - (k + 1))
          case measure => omega
          case rel => exact ⟨k + 1, by omega, by omega, by go_num, rfl, p * t.states, by go_num, hq.1, by omega, HQ.out⟩
      · have hlz : ¬ (k : Int) < (n : Int) := by omega
        obtain rfl : n = k := by omega
        obtain ⟨mm, rfl⟩ : ∃ mm : Nat, p = (mm : Int) := ⟨p.toNat, by omega⟩
        have HM : Hid (∀ _ : Unit, manyN t g = (mm : Int)) := fun _ => by rw [manyN, HL.out ()]; exact (HP.out ()).symm
        have HER : Hid (∀ _ : Unit, gardErr t g = 0) := fun _ => gardErr_ok (HFE.out ()) (by rw [HM.out ()]; exact hp2)
        have hm4 : mm ≤ 4096 := by omega
        clear hgg hlt hlz HFE HP hp1 hp2
        rename World => wp
        go_wp2_with fail
        clear p0 p1 p2 pl q0 q1 q2 q3 ql
        have RT2 : Hid (Row (World.alloc wp (.cells #[.int .i64 g.w, .int .i64 g.h, .int .i64 g.edge, .slice A n ac] 28)) w.heap.size 25 [.int .i64 t.states, .slice HA hn hc, .slice NA nn nc]) := RT1.out.alloc _
        have RG2 : Hid (Row (World.alloc wp (.cells #[.int .i64 g.w, .int .i64 g.h, .int .i64 g.edge, .slice A n ac] 28)) (w.heap.size + 1) 28 [.int .i64 g.w, .int .i64 g.h, .int .i64 g.edge, .slice A n ac]) := RG1.out.alloc _
        have RX2 : Hid (Row (World.alloc wp (.cells #[.int .i64 g.w, .int .i64 g.h, .int .i64 g.edge, .slice A n ac] 28)) wp.heap.size 28 [.int .i64 g.w, .int .i64 g.h, .int .i64 g.edge, .slice A n ac]) := Row.new wp 28 [.int .i64 g.w, .int .i64 g.h, .int .i64 g.edge, .slice A n ac]
        have BW2 : Hid (Below w.heap.size w (World.alloc wp (.cells #[.int .i64 g.w, .int .i64 g.h, .int .i64 g.edge, .slice A n ac] 28))) := BW1.out.alloc BW1.out.size _
        clear RT1 RG1 BW1
        revert RT2 RG2 RX2 BW2
        generalize (World.alloc wp (.cells #[.int .i64 g.w, .int .i64 g.h, .int .i64 g.edge, .slice A n ac] 28)) = w5
        intro RT2 RG2 RX2 BW2
        go_loopg [9, 10, 31, 42] mm (fun gg _ _ s31 _ wx => ∃ (v : Nat) (A' : Option Addr) (c' : Nat), v ≤ mm ∧ mm - v ≤ gg ∧ s31 = .int .i64 v ∧ Aside (Below w.heap.size w wx) ∧ Aside (Row wx w.heap.size 25 [.int .i64 t.states, .slice HA hn hc, .slice NA nn nc]) ∧ Aside (Row wx (w.heap.size + 1) 28 [.int .i64 g.w, .int .i64 g.h, .int .i64 g.edge, .slice A n ac]) ∧ Aside (Row wx wp.heap.size 28 [.int .i64 g.w, .int .i64 g.h, .int .i64 g.edge, .slice A' n c']) ∧ Aside (∀ j, j < v → leads t g (j : Int) = false))
        case atStart => exact ⟨0, A, ac, Nat.zero_le _, by omega, rfl, BW2.out, RT2.out, RG2.out, RX2.out, fun j hj => absurd hj (Nat.not_lt_zero _)⟩
        case round =>
          clear RT2 RG2 RX2 BW2
          obtain ⟨v, A', c', hv, hgg, rfl, BW, RT, RG, RX, HN⟩ := hrel
          by_cases hlt : v < mm
          · have hlz : (v : Int) < (mm : Int) := by omega
            have hmk := fun W9 => make_like (P := Try.prog) Try.underlying26 int_infoN rfl n (n : Int) rfl (by omega) (by omega) W9
            have p0 := RT.out.cell 0
            have p1 := RT.out.cell 1
            have p2 := RT.out.cell 2
            have pl := RT.out.lt
            simp only [List.getElem?_cons_zero, List.getElem?_cons_succ] at p0 p1 p2
            have q0 := RG.out.cell 0
            have q1 := RG.out.cell 1
            have q2 := RG.out.cell 2
            have q3 := RG.out.cell 3
            have ql := RG.out.lt
            simp only [List.getElem?_cons_zero, List.getElem?_cons_succ] at q0 q1 q2 q3
            have x0 := RX.out.cell 0
            have x1 := RX.out.cell 1
            have x2 := RX.out.cell 2
            have x3 := RX.out.cell 3
            have xl := RX.out.lt
            simp only [List.getElem?_cons_zero, List.getElem?_cons_succ] at x0 x1 x2 x3
            have xf0 := RX.out.frozen 0
            have xf1 := RX.out.frozen 1
            have xf2 := RX.out.frozen 2
            have xf3 := RX.out.frozen 3
            go_wp2_with fail
            rename World => wx
            have hxl : wp.heap.size < wx.heap.size := RX.out.lt
            have RT6 : Hid (Row (World.alloc (World.setCell wx ⟨wp.heap.size, 3, none⟩ (.slice (some ⟨wx.heap.size, 0, none⟩) n n)) (.cells (likeRow (Value.int .i64 0) n) 3)) w.heap.size 25 [.int .i64 t.states, .slice HA hn hc, .slice NA nn nc]) := (RT.out.far (p := ⟨wp.heap.size, 3, none⟩) (by show w.heap.size ≠ wp.heap.size; omega) _).alloc _
            have RG6 : Hid (Row (World.alloc (World.setCell wx ⟨wp.heap.size, 3, none⟩ (.slice (some ⟨wx.heap.size, 0, none⟩) n n)) (.cells (likeRow (Value.int .i64 0) n) 3)) (w.heap.size + 1) 28 [.int .i64 g.w, .int .i64 g.h, .int .i64 g.edge, .slice A n ac]) := (RG.out.far (p := ⟨wp.heap.size, 3, none⟩) (by show (w.heap.size + 1) ≠ wp.heap.size; omega) _).alloc _
            have RX6 : Hid (Row (World.alloc (World.setCell wx ⟨wp.heap.size, 3, none⟩ (.slice (some ⟨wx.heap.size, 0, none⟩) n n)) (.cells (likeRow (Value.int .i64 0) n) 3)) wp.heap.size 28 [.int .i64 g.w, .int .i64 g.h, .int .i64 g.edge, .slice (some ⟨wx.heap.size, 0, none⟩) n n]) := (RX.out.set 3 _).alloc _
            have RV6 : Hid (Row (World.alloc (World.setCell wx ⟨wp.heap.size, 3, none⟩ (.slice (some ⟨wx.heap.size, 0, none⟩) n n)) (.cells (likeRow (Value.int .i64 0) n) 3)) wx.heap.size 3 (ints (digZ t.states (v : Int) n 0))) := (by
              have h0 := Row.new (World.setCell wx ⟨wp.heap.size, 3, none⟩ (.slice (some ⟨wx.heap.size, 0, none⟩) n n)) 3 (List.replicate n (Value.int .i64 0))
              simp only [World.size_setCell] at h0
              have e : ints (digZ t.states (v : Int) n 0) = List.replicate n (Value.int .i64 0) := by simp [digZ, digTo, ints]
              show Row _ _ _ _
              rw [e]; exact h0)
            have BW6 : Hid (Below w.heap.size w (World.alloc (World.setCell wx ⟨wp.heap.size, 3, none⟩ (.slice (some ⟨wx.heap.size, 0, none⟩) n n)) (.cells (likeRow (Value.int .i64 0) n) 3))) := (BW.out.setCell (p := ⟨wp.heap.size, 3, none⟩) (by show _ ≤ wp.heap.size; omega) _).alloc (by simp only [World.size_setCell]; omega) _
            clear hmk p0 p1 p2 pl q0 q1 q2 q3 ql x0 x1 x2 x3 xl xf0 xf1 xf2 xf3 RT RG RX BW
            revert RT6 RG6 RX6 RV6 BW6
            generalize (World.alloc (World.setCell wx ⟨wp.heap.size, 3, none⟩ (.slice (some ⟨wx.heap.size, 0, none⟩) n n)) (.cells (likeRow (Value.int .i64 0) n) 3)) = w6
            intro RT6 RG6 RX6 RV6 BW6
            go_loopg [9, 10, 42] n (fun gg s9 _ s42 wy => ∃ k : Nat, k ≤ n ∧ n - k ≤ gg ∧ s42 = .int .i64 k ∧ Aside (Below w.heap.size w wy) ∧ Aside (Row wy w.heap.size 25 [.int .i64 t.states, .slice HA hn hc, .slice NA nn nc]) ∧ Aside (Row wy (w.heap.size + 1) 28 [.int .i64 g.w, .int .i64 g.h, .int .i64 g.edge, .slice A n ac]) ∧ Aside (Row wy wp.heap.size 28 [.int .i64 g.w, .int .i64 g.h, .int .i64 g.edge, .slice (some ⟨wx.heap.size, 0, none⟩) n n]) ∧ Aside (Row wy wx.heap.size 3 (ints (digZ t.states (v : Int) n k))) ∧ ∃ d : Int, s9 = .int .i64 d ∧ 0 ≤ d ∧ d ≤ 4096 ∧ Aside (∀ _ : Unit, d = (v : Int) / t.states ^ k))
            case atStart => exact ⟨0, Nat.zero_le _, by omega, rfl, BW6.out, RT6.out, RG6.out, RX6.out, RV6.out, v, rfl, by omega, by omega, fun _ => by simp⟩
            case round =>
              clear RT6 RG6 RX6 RV6 BW6
              obtain ⟨k, hk, hg2, rfl, BW, RT, RG, RX, RV, d, rfl, hd0, hd1, HD⟩ := hrel
              have hvl := RV.out.lt
              have p0 := RT.out.cell 0
              have p1 := RT.out.cell 1
              have p2 := RT.out.cell 2
              have pl := RT.out.lt
              simp only [List.getElem?_cons_zero, List.getElem?_cons_succ] at p0 p1 p2
              have q0 := RG.out.cell 0
              have q1 := RG.out.cell 1
              have q2 := RG.out.cell 2
              have q3 := RG.out.cell 3
              have ql := RG.out.lt
              simp only [List.getElem?_cons_zero, List.getElem?_cons_succ] at q0 q1 q2 q3
              have x0 := RX.out.cell 0
              have x1 := RX.out.cell 1
              have x2 := RX.out.cell 2
              have x3 := RX.out.cell 3
              have xl := RX.out.lt
              simp only [List.getElem?_cons_zero, List.getElem?_cons_succ] at x0 x1 x2 x3
              by_cases hlk : k < n
              · have hlkz : (k : Int) < (n : Int) := by omega
                have kf := RV.out.frozen k
                have kv := RV.out.cell k
                rw [show (ints (digZ t.states (v : Int) n k))[k]? = some (.int .i64 ((digZ t.states (v : Int) n k).getD k 0)) by rw [ints, List.getElem?_map, List.getD_eq_getElem?_getD, List.getElem?_eq_getElem (by rw [digZ_length hk]; exact hlk)]; rfl] at kv
                obtain ⟨oz, hoz⟩ : ∃ oz, (digZ t.states (v : Int) n k).getD k 0 = oz := ⟨_, rfl⟩
                rw [hoz] at kv
                clear hoz
                go_wp2_with fail
                go_region
                have RT7 : Hid (Row (World.drew (World.setCell wr ⟨wx.heap.size, k, none⟩ (.int .i64 (d % t.states)))) w.heap.size 25 [.int .i64 t.states, .slice HA hn hc, .slice NA nn nc]) := (RT.out.far (p := ⟨wx.heap.size, k, none⟩) (by show w.heap.size ≠ wx.heap.size; omega) _).drew
                have RG7 : Hid (Row (World.drew (World.setCell wr ⟨wx.heap.size, k, none⟩ (.int .i64 (d % t.states)))) (w.heap.size + 1) 28 [.int .i64 g.w, .int .i64 g.h, .int .i64 g.edge, .slice A n ac]) := (RG.out.far (p := ⟨wx.heap.size, k, none⟩) (by show (w.heap.size + 1) ≠ wx.heap.size; omega) _).drew
                have RX7 : Hid (Row (World.drew (World.setCell wr ⟨wx.heap.size, k, none⟩ (.int .i64 (d % t.states)))) wp.heap.size 28 [.int .i64 g.w, .int .i64 g.h, .int .i64 g.edge, .slice (some ⟨wx.heap.size, 0, none⟩) n n]) := (RX.out.far (p := ⟨wx.heap.size, k, none⟩) (by show wp.heap.size ≠ wx.heap.size; omega) _).drew
                have RV7 : Hid (Row (World.drew (World.setCell wr ⟨wx.heap.size, k, none⟩ (.int .i64 (d % t.states)))) wx.heap.size 3 (ints (digZ t.states (v : Int) n (k + 1)))) := (by
                  have h9 := RV.out.set k (.int .i64 (d % t.states))
                  rw [show (ints (digZ t.states (v : Int) n k)).set k (.int .i64 (d % t.states)) = ints (digZ t.states (v : Int) n (k + 1)) by rw [← digZ_set hlk, ← HD.out ()]; simp [ints, List.map_set]] at h9
                  exact h9.drew)
                have BW7 : Hid (Below w.heap.size w (World.drew (World.setCell wr ⟨wx.heap.size, k, none⟩ (.int .i64 (d % t.states))))) := (BW.out.setCell (p := ⟨wx.heap.size, k, none⟩) (by show _ ≤ wx.heap.size; omega) _).drew
                clear p0 p1 p2 pl q0 q1 q2 q3 ql x0 x1 x2 x3 xl kf kv RT RG RX RV BW
                revert RT7 RG7 RX7 RV7 BW7
                generalize (World.drew (World.setCell wr ⟨wx.heap.size, k, none⟩ (.int .i64 (d % t.states)))) = w7
                intro RT7 RG7 RX7 RV7 BW7
                have p0 := RT7.out.cell 0
                have p1 := RT7.out.cell 1
                have p2 := RT7.out.cell 2
                have pl := RT7.out.lt
                simp only [List.getElem?_cons_zero, List.getElem?_cons_succ] at p0 p1 p2
                go_wp2_with fail
                go_roundg (n - (k + 1))
                case measure => omega
                case rel =>
                  refine ⟨k + 1, by omega, by omega, by go_num, BW7.out, RT7.out, RG7.out, RX7.out, RV7.out, d / t.states, by go_num, Int.ediv_nonneg hd0 (by omega), Int.le_trans (Int.ediv_le_self _ hd0) hd1, fun _ => ?_⟩
                  rw [HD.out ()]; exact div_step (by omega) k
              · have hlkz : ¬ (k : Int) < (n : Int) := by omega
                obtain rfl : n = k := by omega
                have HTr : Hid (TAt wr t HA NA hn nn sl) := HT.out.up BW.out
                have HGr : Hid (GAt wr g A n) := HG.out.up BW.out
                have HXr : Hid (GAt wr (digG t g (v : Int)) (some ⟨wx.heap.size, 0, none⟩) n) := (by
                  have h9 := RV.out
                  rw [digZ_all] at h9
                  exact ⟨(by
                    show Rd _ _ _ _ _ (ints (digTo t.states (v : Int) g.cells.length))
                    rw [HL.out ()]
                    exact h9.rd (by simp [ints, digTo_length])), by unfold maxLen; omega⟩)
                have HNL : Hid (∀ _ : Unit, (nextG t (digG t g (v : Int))).cells.length = n) := fun _ => by
                  show (nextTo _ _ _ _).length = n
                  rw [nextTo_length]
                  show (digTo _ _ _).length = n
                  rw [digTo_length, HL.out ()]
                obtain ⟨lb, hlb⟩ : ∃ lb, leads t g (v : Int) = lb := ⟨_, rfl⟩
                have HLB : Hid (∀ _ : Unit, leads t g (v : Int) = lb) := fun _ => hlb
                clear hlb RV
                have B_w : Hid (Below w.heap.size w wr) := BW.out
                clear BW p0 p1 p2 pl q0 q1 q2 q3 ql x0 x1 x2 x3 xl
                go_wp2_with fail
                have hfd : ∀ (gb : Nat) (W9 : World), (Instr.field 28 (.agg #[.int .i64 g.w, .int .i64 g.h, .int .i64 g.edge, .slice (some ⟨gb, 0, none⟩) n n]) 3).run Try.prog W9 = .ok (.slice (some ⟨gb, 0, none⟩) n n) W9 := fun _ _ => by kernel_rfl
                refine wp_region_L (fun w' => Row w' (w.heap.size) 25 [.int .i64 t.states, .slice HA hn hc, .slice NA nn nc] ∧ Row w' ((w.heap.size + 1)) 28 [.int .i64 g.w, .int .i64 g.h, .int .i64 g.edge, .slice A n ac] ∧ Row w' (wp.heap.size) 28 [.int .i64 g.w, .int .i64 g.h, .int .i64 g.edge, .slice (some ⟨wx.heap.size, 0, none⟩) n n]) [] (by kernel_rfl) (by exact ⟨Row.drew RT.out, Row.drew RG.out, Row.drew RX.out⟩) (fun hHeld => ?_)
                have B_w : Hid (Below w.heap.size w (World.drew wr)) := B_w.out.drew
                have B_wr : Hid (Below wr.heap.size wr (World.drew wr)) := (Below.refl _ _).drew
                revert hHeld B_w B_wr
                generalize World.drew wr = wrq
                intro hHeld B_w B_wr
                refine restL_pure (i := 4) (v := ?va1) rfl (by kernel_rfl) (by kernel_rfl) (by kernel_rfl) (fun _ _ _ h => h) (Or.inl ⟨by rfl, ?ya1⟩) ?ra1
                case ya1 => intro w' hSw; clear hSw; go_simp; try (with_reducible rfl)
                go_simp
                refine restL_take (i := 0) (v := ?va2) [] rfl (by kernel_rfl) (by kernel_rfl) (by kernel_rfl) (by kernel_rfl) (fun _ _ _ h => h) (Or.inl ⟨by rfl, ?ya2⟩) hHeld ?ra2
                case ya2 =>
                  intro w' hSw
                  obtain ⟨hS0, hS1, hS2⟩ := hSw
                  have hT0 : Hid (Row w' (w.heap.size) 25 [.int .i64 t.states, .slice HA hn hc, .slice NA nn nc]) := hS0
                  clear hS0
                  have z0_0 := hT0.out.cell 0
                  have z0_1 := hT0.out.cell 1
                  have z0_2 := hT0.out.cell 2
                  have z0_l := hT0.out.lt
                  simp only [List.getElem?_cons_zero, List.getElem?_cons_succ] at z0_0 z0_1 z0_2
                  have hT1 : Hid (Row w' ((w.heap.size + 1)) 28 [.int .i64 g.w, .int .i64 g.h, .int .i64 g.edge, .slice A n ac]) := hS1
                  clear hS1
                  have z1_0 := hT1.out.cell 0
                  have z1_1 := hT1.out.cell 1
                  have z1_2 := hT1.out.cell 2
                  have z1_3 := hT1.out.cell 3
                  have z1_l := hT1.out.lt
                  simp only [List.getElem?_cons_zero, List.getElem?_cons_succ] at z1_0 z1_1 z1_2 z1_3
                  have hT2 : Hid (Row w' (wp.heap.size) 28 [.int .i64 g.w, .int .i64 g.h, .int .i64 g.edge, .slice (some ⟨wx.heap.size, 0, none⟩) n n]) := hS2
                  clear hS2
                  have z2_0 := hT2.out.cell 0
                  have z2_1 := hT2.out.cell 1
                  have z2_2 := hT2.out.cell 2
                  have z2_3 := hT2.out.cell 3
                  have z2_l := hT2.out.lt
                  simp only [List.getElem?_cons_zero, List.getElem?_cons_succ] at z2_0 z2_1 z2_2 z2_3
                  go_simp
                  try (with_reducible rfl)
                go_simp
                refine restL_take (i := 1) (v := ?va3) [] rfl (by kernel_rfl) (by kernel_rfl) (by kernel_rfl) (by kernel_rfl) (fun _ _ _ h => h) (Or.inl ⟨by rfl, ?ya3⟩) hHeld ?ra3
                case ya3 =>
                  intro w' hSw
                  obtain ⟨hS0, hS1, hS2⟩ := hSw
                  have hT0 : Hid (Row w' (w.heap.size) 25 [.int .i64 t.states, .slice HA hn hc, .slice NA nn nc]) := hS0
                  clear hS0
                  have z0_0 := hT0.out.cell 0
                  have z0_1 := hT0.out.cell 1
                  have z0_2 := hT0.out.cell 2
                  have z0_l := hT0.out.lt
                  simp only [List.getElem?_cons_zero, List.getElem?_cons_succ] at z0_0 z0_1 z0_2
                  have hT1 : Hid (Row w' ((w.heap.size + 1)) 28 [.int .i64 g.w, .int .i64 g.h, .int .i64 g.edge, .slice A n ac]) := hS1
                  clear hS1
                  have z1_0 := hT1.out.cell 0
                  have z1_1 := hT1.out.cell 1
                  have z1_2 := hT1.out.cell 2
                  have z1_3 := hT1.out.cell 3
                  have z1_l := hT1.out.lt
                  simp only [List.getElem?_cons_zero, List.getElem?_cons_succ] at z1_0 z1_1 z1_2 z1_3
                  have hT2 : Hid (Row w' (wp.heap.size) 28 [.int .i64 g.w, .int .i64 g.h, .int .i64 g.edge, .slice (some ⟨wx.heap.size, 0, none⟩) n n]) := hS2
                  clear hS2
                  have z2_0 := hT2.out.cell 0
                  have z2_1 := hT2.out.cell 1
                  have z2_2 := hT2.out.cell 2
                  have z2_3 := hT2.out.cell 3
                  have z2_l := hT2.out.lt
                  simp only [List.getElem?_cons_zero, List.getElem?_cons_succ] at z2_0 z2_1 z2_2 z2_3
                  go_simp
                  try (with_reducible rfl)
                go_simp
                refine restL_take (i := 5) (v := ?va4) [] rfl (by kernel_rfl) (by kernel_rfl) (by kernel_rfl) (by kernel_rfl) (fun _ _ _ h => h) (Or.inl ⟨by rfl, ?ya4⟩) hHeld ?ra4
                case ya4 =>
                  intro w' hSw
                  obtain ⟨hS0, hS1, hS2⟩ := hSw
                  have hT0 : Hid (Row w' (w.heap.size) 25 [.int .i64 t.states, .slice HA hn hc, .slice NA nn nc]) := hS0
                  clear hS0
                  have z0_0 := hT0.out.cell 0
                  have z0_1 := hT0.out.cell 1
                  have z0_2 := hT0.out.cell 2
                  have z0_l := hT0.out.lt
                  simp only [List.getElem?_cons_zero, List.getElem?_cons_succ] at z0_0 z0_1 z0_2
                  have hT1 : Hid (Row w' ((w.heap.size + 1)) 28 [.int .i64 g.w, .int .i64 g.h, .int .i64 g.edge, .slice A n ac]) := hS1
                  clear hS1
                  have z1_0 := hT1.out.cell 0
                  have z1_1 := hT1.out.cell 1
                  have z1_2 := hT1.out.cell 2
                  have z1_3 := hT1.out.cell 3
                  have z1_l := hT1.out.lt
                  simp only [List.getElem?_cons_zero, List.getElem?_cons_succ] at z1_0 z1_1 z1_2 z1_3
                  have hT2 : Hid (Row w' (wp.heap.size) 28 [.int .i64 g.w, .int .i64 g.h, .int .i64 g.edge, .slice (some ⟨wx.heap.size, 0, none⟩) n n]) := hS2
                  clear hS2
                  have z2_0 := hT2.out.cell 0
                  have z2_1 := hT2.out.cell 1
                  have z2_2 := hT2.out.cell 2
                  have z2_3 := hT2.out.cell 3
                  have z2_l := hT2.out.lt
                  simp only [List.getElem?_cons_zero, List.getElem?_cons_succ] at z2_0 z2_1 z2_2 z2_3
                  go_simp
                  try (with_reducible rfl)
                go_simp
                refine restL_one (i := 2) (by kernel_rfl) rfl (fun K hK => ?_)
                go_simp
                go_at_call 30
                have HCT : Calls Try.prog 30 #[.agg #[.int .i64 t.states, .slice HA hn hc, .slice NA nn nc], .agg #[.int .i64 g.w, .int .i64 g.h, .int .i64 g.edge, .slice (some ⟨wx.heap.size, 0, none⟩) n n]] wrq (NewGrid (nextG t (digG t g (v : Int))) wrq) := next_any t (digG t g (v : Int)) HA NA (some ⟨wx.heap.size, 0, none⟩) hn hc nn nc n n sl wrq (HTr.out.up B_wr.out) (HXr.out.up B_wr.out) (digG_ok HOK.out _)
                refine HCT.mono ?_
                clear HCT
                rintro e wn ⟨gb, he, hrow, hgb, hb⟩
                have he2 : e = .returned (.agg #[.int .i64 g.w, .int .i64 g.h, .int .i64 g.edge, .slice (some ⟨gb, 0, none⟩) n n]) := by rw [he, HNL.out ()]; rfl
                subst he2
                clear he
                have HRN : Hid (Row wn gb 3 (ints (nextG t (digG t g (v : Int))).cells)) := hrow
                clear hrow hgb
                have B_w : Hid (Below w.heap.size w wn) := below_on2 B_w.out hb
                have B_wr : Hid (Below wr.heap.size wr wn) := below_on2 B_wr.out hb
                have B_wrq : Hid (Below wrq.heap.size wrq wn) := hb
                clear hb
                clear hHeld
                refine hK.out _ _ (fun _ => ?keep) (fun hHeld => ?_)
                case keep => exact ⟨(rowCells RT.out B_wr.out), (rowCells RG.out B_wr.out), (rowCells RX.out B_wr.out)⟩
                have hHeld := hHeld rfl
                clear hK K
                try go_simp
                refine restL_pure (i := 3) (v := ?va5) rfl (by kernel_rfl) (by kernel_rfl) (by kernel_rfl) (fun _ _ _ h => h) (Or.inl ⟨by rfl, ?ya5⟩) ?ra5
                case ya5 => intro w' hSw; clear hSw; go_simp; try (with_reducible rfl)
                go_simp
                refine restL_one (i := 6) (by kernel_rfl) rfl (fun K hK => ?_)
                go_simp
                go_at_call 29
                have HCT := equal_ints (some ⟨gb, 0, none⟩) A n n n ac (nextG t (digG t g (v : Int))).cells g.cells wn ((show Row _ _ _ _ from rowCells HRN.out (Below.refl _ _)).rd (by simp [ints, HNL.out ()])) (HGr.out.up B_wr.out).cells (by unfold maxLen; omega) (by unfold maxLen; omega)
                refine HCT.mono ?_
                clear HCT
                rintro e we ⟨he, hb⟩
                have he2 : e = .returned (.bool lb) := by rw [he]; exact congrArg (fun b => Ending.returned (Value.bool b)) (HLB.out ())
                subst he2
                clear he
                have B_w : Hid (Below w.heap.size w we) := below_on2 B_w.out hb
                have B_wr : Hid (Below wr.heap.size wr we) := below_on2 B_wr.out hb
                have B_wrq : Hid (Below wrq.heap.size wrq we) := below_on2 B_wrq.out hb
                have B_wn : Hid (Below wn.heap.size wn we) := hb
                clear hb
                clear hHeld
                refine hK.out _ _ (fun _ => ?keep) (fun hHeld => ?_)
                case keep => exact ⟨(rowCells RT.out B_wr.out), (rowCells RG.out B_wr.out), (rowCells RX.out B_wr.out)⟩
                have hHeld := hHeld rfl
                clear hK K
                try go_simp
                refine restL_done (by kernel_rfl) ?_ _
                have RTe : Hid (Row we w.heap.size 25 [.int .i64 t.states, .slice HA hn hc, .slice NA nn nc]) := (rowCells RT.out B_wr.out)
                have RGe : Hid (Row we (w.heap.size + 1) 28 [.int .i64 g.w, .int .i64 g.h, .int .i64 g.edge, .slice A n ac]) := (rowCells RG.out B_wr.out)
                have RXe : Hid (Row we wp.heap.size 28 [.int .i64 g.w, .int .i64 g.h, .int .i64 g.edge, .slice (some ⟨wx.heap.size, 0, none⟩) n n]) := (rowCells RX.out B_wr.out)
                have BWe : Hid (Below w.heap.size w we) := B_w.out
                cases lb
                · go_wp2_with fail
                  go_roundg (mm - (v + 1))
                  case measure => omega
                  case rel =>
                    refine ⟨v + 1, _, _, by omega, by omega, by go_num, BWe.out, RTe.out, RGe.out, RXe.out, fun j hj => ?_⟩
                    rcases Nat.lt_or_ge j v with h1 | h1
                    · exact HN.out j h1
                    · obtain rfl : j = v := by omega
                      exact HLB.out ()
                · have HRR : Hid (∀ _ : Unit, gardR t g = false) := fun _ => gardR_hit (HER.out ()) (by rw [HM.out ()]; exact hlz) (HLB.out ())
                  go_wp2_with fail
                  refine bodyPost_ret (v := .tuple #[.bool false, .int .i64 0]) (by simp [results, Try.results18, go_sem]) rfl ?_
                  exact ⟨by rw [HRR.out (), HER.out ()], BWe.out⟩
          · have hlz : ¬ (v : Int) < (mm : Int) := by omega
            obtain rfl : mm = v := by omega
            have HRR : Hid (∀ _ : Unit, gardR t g = true) := fun _ => gardR_none (HER.out ()) (HM.out ()) HN.out
            go_wp2_with fail
            refine bodyPost_ret (v := .tuple #[.bool true, .int .i64 0]) (by simp [results, Try.results18, go_sem]) rfl ?_
            exact ⟨by rw [HRR.out (), HER.out ()], BW.out⟩
  · have HER : Hid (∀ _ : Unit, gardErr t g = fe ∧ fe ≠ 0) := fun _ => ⟨by rw [← HFE.out ()]; exact gardErr_fits (by rw [HFE.out ()]; exact hf), hf⟩
    clear HFE
    go_wp2_with fail
    refine bodyPost_ret (v := .tuple #[.bool false, .int .i64 fe]) (by simp [results, Try.results18, go_sem]) rfl ?_
    exact ⟨by rw [gardR_err (HER.out ()).1 (HER.out ()).2, (HER.out ()).1], B_w.out⟩
end Go.Proofs.Ytdkfaphclhaiaaa
