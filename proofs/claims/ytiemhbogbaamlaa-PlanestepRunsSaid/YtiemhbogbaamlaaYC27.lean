/-
 A part.
-/
import Derived.Test.YtiemhbogbaamlaaYC1
import Derived.Test.YtiemhbogbaamlaaYC26
namespace Go.Proofs.Ytiemhbogbaamlaa
open Go.RowKit
set_option linter.unusedSimpArgs false
set_option linter.unusedVariables false
theorem int_infoR : (Try.prog.info? 3).map (fun i => (i.zero, i.size, i.bytes)) = some (some (.int .i64 0), 1, 8) := by kernel_rfl
def cellsTo (W : Nat) (ws : List (List (BitVec 64))) (n k : Nat) : List Int := (List.range k).map (fun j => stateTo (wpr W) ws (j % W) (j / W) n)
theorem cellsTo_snoc (W : Nat) (ws : List (List (BitVec 64))) (n x y k : Nat) (hx : x < W) (hk : k = y * W + x) : ints (cellsTo W ws n k) ++ [.int .i64 (stateTo (wpr W) ws x y n)] = ints (cellsTo W ws n (k + 1)) := by
 subst hk
 unfold cellsTo
 rw [List.range_succ, List.map_append, List.map_singleton, (row_at hx).1, (row_at hx).2]
 simp [ints]
theorem put4own {wr : World} {b base sz n : Nat} {e T : TypeId} {v u0 u1 u2 u3 : Value} {xs : List Value} (v0 v1 v2 v3 : Value) (h : Row wr b T [u0, u1, u2, u3]) (ho : wr.ownsRow base e sz v n xs) (hne : e ≠ T) :
 World.ownsRow ((((wr.setCell ⟨b, 0, none⟩ v0).setCell ⟨b, 1, none⟩ v1).setCell ⟨b, 2, none⟩ v2).setCell ⟨b, 3, none⟩ v3) base e sz v n xs :=
 own_set (p := ⟨b, 3, none⟩) (own_set (p := ⟨b, 2, none⟩) (own_set (p := ⟨b, 1, none⟩) (own_set (p := ⟨b, 0, none⟩) ho h hne v0) (h.set 0 v0) hne v1) ((h.set 0 v0).set 1 v1) hne v2) (((h.set 0 v0).set 1 v1).set 2 v2) hne v3
set_option maxRecDepth 100000 in
set_option maxHeartbeats 4000000 in
theorem rPlUnpack_any (p : Pln) (A : Option Addr) (n c : Nat) (sl : List Sl) (w : World) (h : PAt w p A n sl) :
 Calls Try.prog 36 #[.agg #[.int .i64 p.w, .int .i64 p.h, .int .i64 p.edge, .slice A n c]] w (UPost (unpackR p) (unpackErr p) w) := by
 have H : Hid (PAt w p A n sl) := h
 have HWL : Hid (p.words.length = n) := h.wl
 have hm := h.n63
 unfold maxLen at hm
 clear h
 cases hr : rightPl p
 ·have HR : Hid (rightPl p = false) := hr
  have HCE : Hid (unpackR p = noGrd ∧ unpackErr p = 2) := ⟨by unfold unpackR; rw [hr]; rfl, by unfold unpackErr; rw [hr]; rfl⟩
  clear hr
  go_enter Try.func36, Try.ntmps36
  go_wp2_with fail
  refine (rPlRight_any p A n c sl _ (H.out.up (by go_grown))).mono ?_
  rw [HR.out]
  rintro e w1 ⟨rfl, hb⟩
  have HB : Hid (Below w.heap.size w w1) := below_next hb (by go_grown)
  have RZ : Hid (Row w1 (w.heap.size + 1) 54 [.int .i64 0, .int .i64 0, .int .i64 0, .slice none 0 0]) := rowCells (rowNew1 w _ 54 [.int .i64 0, .int .i64 0, .int .i64 0, .slice none 0 0]) hb
  clear hb
  obtain ⟨d0, d1, d2, d3, dl⟩ := RZ.out.cells4
  have f0 := RZ.out.frozen 0
  have f1 := RZ.out.frozen 1
  have f2 := RZ.out.frozen 2
  have f3 := RZ.out.frozen 3
  have BB := HB.out
  go_wp2
  exact bodyPost_ret (v := .tuple #[.agg #[.int .i64 0, .int .i64 0, .int .i64 0, .slice none 0 0], .int .i64 2]) (by simp [results, Try.results36, go_sem, d0, d1, d2, d3]) rfl (upost_err HCE.out.1 HCE.out.2 (by go_grown))
 have HR : Hid (rightPl p = true) := hr
 have HCE : Hid (unpackR p = unpackG p ∧ unpackErr p = 0) := ⟨by unfold unpackR; rw [hr]; rfl, by unfold unpackErr; rw [hr]; rfl⟩
 obtain ⟨hs, ⟨hn1, hn3⟩, hpl0⟩ := rightPl_parts hr
 obtain ⟨⟨s1, s2⟩, ⟨s3, s4⟩, s5, _⟩ := sizedF_parts hs
 obtain ⟨W, hW⟩ : ∃ W : Nat, p.w = (W : Int) := ⟨p.w.toNat, by omega⟩
 obtain ⟨Hh, hH⟩ : ∃ Hh : Nat, p.h = (Hh : Int) := ⟨p.h.toNat, by omega⟩
 have HW : Hid (p.w = (W : Int)) := hW
 have HH : Hid (p.h = (Hh : Int)) := hH
 rw [hW, hH, Int.toNat_natCast, Int.toNat_natCast] at hpl0
 have hW1 : 1 ≤ W ∧ W ≤ 256 := by omega
 have hH1 : 1 ≤ Hh ∧ Hh ≤ 256 := by omega
 obtain ⟨w1', w2', w3'⟩ := wpr_bd hW1.1
 have hn4 : wpr W ≤ 4 := by omega
 have HPL : Hid (∀ b, b < p.words.length → (p.words.getD b []).length = Hh * wpr W) := fun b hb => (planeOk_parts (hpl0 b hb)).1
 rw [HWL.out] at hn1 hn3
 have hcb : Hh * W ≤ 4096 := by
  have h9 : ((W * Hh : Nat) : Int) ≤ 4096 := by rw [Int.natCast_mul, ← hW, ← hH]; exact s5
  rw [Nat.mul_comm]; omega
 clear hr hs s1 s2 s3 s4 s5 hW hH hpl0
 go_enter Try.func36, Try.ntmps36
 go_wp2_with fail
 refine (rPlRight_any p A n c sl _ (H.out.up (by go_grown))).mono ?_
 rw [HR.out]
 rintro e w1 ⟨rfl, hb⟩
 have HB : Hid (Below w.heap.size w w1) := below_next hb (by go_grown)
 have RA : Hid (Row w1 w.heap.size 42 [.int .i64 p.w, .int .i64 p.h, .int .i64 p.edge, .slice A n c]) := rowCells ((Row.new w 42 [.int .i64 p.w, .int .i64 p.h, .int .i64 p.edge, .slice A n c]).alloc _) hb
 have RZ : Hid (Row w1 (w.heap.size + 1) 54 [.int .i64 0, .int .i64 0, .int .i64 0, .slice none 0 0]) := rowCells (rowNew1 w _ 54 [.int .i64 0, .int .i64 0, .int .i64 0, .slice none 0 0]) hb
 clear hb
 obtain ⟨k0, k1, k2, k3, kl⟩ := RA.out.cells4
 go_wp2
 have RX0 : Hid (Row (World.alloc w1 (.cells #[.int .i64 p.w, .int .i64 p.h, .int .i64 p.edge, .slice none 0 0] 54)) w1.heap.size 54 [.int .i64 p.w, .int .i64 p.h, .int .i64 p.edge, .slice none 0 0]) := Row.new w1 54 [.int .i64 p.w, .int .i64 p.h, .int .i64 p.edge, .slice none 0 0]
 have HB3 : Hid (Below w1.heap.size w1 (World.alloc w1 (.cells #[.int .i64 p.w, .int .i64 p.h, .int .i64 p.edge, .slice none 0 0] 54))) := (show Below _ _ _ by go_grown)
 clear k0 k1 k2 k3 kl
 revert RX0 HB3
 generalize World.alloc w1 (.cells #[.int .i64 p.w, .int .i64 p.h, .int .i64 p.edge, .slice none 0 0] 54) = w3
 intro RX0 HB3
 go_loopg [5, 6] Hh (fun gg s5 _ wr => ∃ (y : Nat) (v : Value), y ≤ Hh ∧ Hh - y ≤ gg ∧ s5 = .int .i64 y ∧ Aside (Below w1.heap.size w1 wr) ∧ Aside (Row wr w1.heap.size 54 [.int .i64 p.w, .int .i64 p.h, .int .i64 p.edge, v]) ∧ Aside (wr.ownsRow w1.heap.size 3 1 v (y * W) (ints (cellsTo W p.words n (y * W)))))
 case atStart =>
  refine ⟨0, .slice none 0 0, Nat.zero_le _, by omega, rfl, HB3.out, RX0.out, (show World.ownsRow _ _ _ _ _ _ _ from ?_)⟩
  rw [Nat.zero_mul]
  exact World.ownsRow_nil _ _ _ _
 case round =>
  clear RX0 HB3
  obtain ⟨y, v, hy, hgg, rfl, BW, RX, OW⟩ := hrel
  have RP : Hid (Row wr w.heap.size 42 [.int .i64 p.w, .int .i64 p.h, .int .i64 p.edge, .slice A n c]) := rowCells RA.out BW.out
  obtain ⟨k0, k1, k2, k3, kl⟩ := RP.out.cells4
  by_cases hlt : y < Hh
  ·have hltz : (y : Int) < p.h := by have := HH.out; omega
   go_wp2
   clear k0 k1 k2 k3 kl RP
   go_loopg [6] W (fun gg s6 wr => ∃ (x : Nat) (v : Value), x ≤ W ∧ W - x ≤ gg ∧ s6 = .int .i64 x ∧ Aside (Below w1.heap.size w1 wr) ∧ Aside (Row wr w1.heap.size 54 [.int .i64 p.w, .int .i64 p.h, .int .i64 p.edge, v]) ∧ Aside (wr.ownsRow w1.heap.size 3 1 v (y * W + x) (ints (cellsTo W p.words n (y * W + x)))))
   case atStart => exact ⟨0, v, Nat.zero_le _, by omega, rfl, BW, RX, OW⟩
   case round =>
    clear BW RX OW
    obtain ⟨x, v, hx, hgx, rfl, BW, RX, OW⟩ := hrel
    have RP : Hid (Row wr w.heap.size 42 [.int .i64 p.w, .int .i64 p.h, .int .i64 p.edge, .slice A n c]) := rowCells RA.out BW.out
    by_cases hlx : x < W
    ·have hlxz : (x : Int) < p.w := by have := HW.out; omega
     obtain ⟨kk, hkk⟩ : ∃ kk, kk = y * W + x := ⟨_, rfl⟩
     have OWk : Hid (wr.ownsRow w1.heap.size 3 1 v kk (ints (cellsTo W p.words n kk))) := by rw [hkk]; exact OW.out
     have hkb : kk < 4096 := by
      have := row_ltP (n := W) (H := Hh) (i := x) hlx hlt
      omega
     have HSN := cellsTo_snoc W p.words n x y kk hlx hkk
     have HSN : Hid (ints (cellsTo W p.words n kk) ++ [.int .i64 (stateTo (wpr W) p.words x y n)] = ints (cellsTo W p.words n (kk + 1))) := HSN
     have hqn : x / 64 < wpr W := by omega
     have HI : Hid (∀ b, b < n → y * wpr W + x / 64 < (p.words.getD b []).length) := fun b hb => by rw [HPL.out b (by rw [HWL.out]; exact hb)]; exact row_ltP hqn hlt
     have hx2 : x ≤ 100000 := by omega
     have hy3 : y ≤ 100000 := by omega
     have hy2 : y * wpr W ≤ 100000 := Nat.le_trans (Nat.mul_le_mul (show y ≤ 256 by omega) hn4) (by decide)
     have HKK : Hid (kk = y * W + x) := hkk
     clear hkk hqn
     obtain ⟨XA, xc, rfl, _⟩ := Rd.own OWk.out
     have RX : Hid (Row wr w1.heap.size 54 [.int .i64 p.w, .int .i64 p.h, .int .i64 p.edge, .slice XA kk xc]) := RX.out
     obtain ⟨k0, k1, k2, k3, kl⟩ := RP.out.cells4
     go_wp2_with fail
     refine wp_region_L (fun w' => Row w' w1.heap.size 54 [.int .i64 p.w, .int .i64 p.h, .int .i64 p.edge, .slice XA kk xc] ∧ Row w' w.heap.size 42 [.int .i64 p.w, .int .i64 p.h, .int .i64 p.edge, .slice A n c]) [7, 8, 9] (by kernel_rfl) (by exact ⟨RX.out.drew, RP.out.drew⟩) (fun hHeld => ?_)
     have HROWd : Hid (Row wr.drew w1.heap.size 54 [.int .i64 p.w, .int .i64 p.h, .int .i64 p.edge, .slice XA kk xc]) := hHeld.1
     have HPLd : Hid (Row wr.drew w.heap.size 42 [.int .i64 p.w, .int .i64 p.h, .int .i64 p.edge, .slice A n c]) := hHeld.2
     have HOWd : Hid (wr.drew.ownsRow w1.heap.size 3 1 (.slice XA kk xc) kk (ints (cellsTo W p.words n kk))) := OWk.out
     have BWd : Hid (Below w1.heap.size w1 wr.drew) := BW.out.drew
     clear RX RP OWk BW OW k0 k1 k2 k3 kl
     revert hHeld HROWd HPLd HOWd BWd
     generalize wr.drew = wQ
     intro hHeld HROWd HPLd HOWd BWd
     refine lPureW 0 ?va1 rfl (by rfl) ?ya1 ?ra1
     case ya1 => intro w' hSw; clear hSw; go_simp; try (with_reducible rfl)
     go_simp
     refine lPureW 3 ?va2 rfl (by rfl) ?ya2 ?ra2
     case ya2 => intro w' hSw; clear hSw; go_simp; try (with_reducible rfl)
     go_simp
     refine lPureW 4 ?va3 rfl (by rfl) ?ya3 ?ra3
     case ya3 => intro w' hSw; clear hSw; go_simp; try (with_reducible rfl)
     go_simp
     refine lTakeW 1 ?va4 [[7], [8], [9]] rfl (by rfl) ?ya4 hHeld ?ra4
     case ya4 =>
      intro w' hSw
      have hSh : Hid (Row w' w1.heap.size 54 [.int .i64 p.w, .int .i64 p.h, .int .i64 p.edge, .slice XA kk xc]) := hSw.1
      have hSp : Hid (Row w' w.heap.size 42 [.int .i64 p.w, .int .i64 p.h, .int .i64 p.edge, .slice A n c]) := hSw.2
      clear hSw
      obtain ⟨z0, z1, z2, z3, zl⟩ := hSh.out.cells4
      obtain ⟨y0, y1, y2, y3, yl⟩ := hSp.out.cells4
      go_simp
      try (with_reducible rfl)
     go_simp
     refine lTakeW 2 ?va5 [[7, 5], [8], [9]] rfl (by rfl) ?ya5 hHeld ?ra5
     case ya5 =>
      intro w' hSw
      have hSh : Hid (Row w' w1.heap.size 54 [.int .i64 p.w, .int .i64 p.h, .int .i64 p.edge, .slice XA kk xc]) := hSw.1
      have hSp : Hid (Row w' w.heap.size 42 [.int .i64 p.w, .int .i64 p.h, .int .i64 p.edge, .slice A n c]) := hSw.2
      clear hSw
      obtain ⟨z0, z1, z2, z3, zl⟩ := hSh.out.cells4
      obtain ⟨y0, y1, y2, y3, yl⟩ := hSp.out.cells4
      go_simp
      try (with_reducible rfl)
     go_simp
     refine restL_one (i := 5) (by kernel_rfl) rfl (fun K hK => ?_)
     go_simp
     go_at_call 69
     refine (rstate_any p A n c sl W x y wQ (H.out.up (below_on2 HB.out BWd.out)) HW.out hW1.2 hn3 HI.out hx2 hy2 hy3).mono ?_
     rintro e w4 ⟨rfl, hb4⟩
     have HROWp : Hid (Row w4 w1.heap.size 54 [.int .i64 p.w, .int .i64 p.h, .int .i64 p.edge, .slice XA kk xc]) := rowCells HROWd.out hb4
     have HPLp : Hid (Row w4 w.heap.size 42 [.int .i64 p.w, .int .i64 p.h, .int .i64 p.edge, .slice A n c]) := rowCells HPLd.out hb4
     have HOWp : Hid (w4.ownsRow w1.heap.size 3 1 (.slice XA kk xc) kk (ints (cellsTo W p.words n kk))) := own_below HOWd.out hb4 (Nat.le_refl _)
     have BWp : Hid (Below w1.heap.size w1 w4) := below_on2 BWd.out hb4
     have hszp := BWp.out.size
     have hbl4 := HROWp.out.lt
     clear hb4 hHeld HROWd HPLd HOWd BWd
     refine hK.out _ _ (fun _ => ?keep) (fun hHeld => ?_)
     case keep => exact ⟨HROWp.out, HPLp.out⟩
     have hHeld := hHeld rfl
     clear hK K
     try go_simp
     refine restL_one (i := 6) (by kernel_rfl) rfl (fun K hK => ?_)
     go_simp
     refine hK.out _ _ (fun _ => ?keep) (fun hHeld => ?_)
     case keep => exact ⟨HROWp.out.alloc _, HPLp.out.alloc _⟩
     have hHeld := hHeld rfl
     clear hK K
     try go_simp
     refine restL_one (i := 7) (by kernel_rfl) rfl (fun K hK => ?_)
     refine step_app rfl (.tmp 31) (.tmp 36) 35 rfl w1.heap.size 3 (.int .i64 0) 1 8 Try.underlying35 int_infoR rfl (by decide) (by decide) (.slice XA kk xc) kk (ints (cellsTo W p.words n kk)) rfl ?own (w4.heap.size + 1) (some ⟨w4.heap.size, 0, none⟩) 1 1 [.int .i64 (stateTo (wpr W) p.words x y n)] rfl ?rd ?one ?hb ?hbase ?_
     case own => exact HOWp.out.alloc _
     case rd => exact Rd.lit w4 #[.int .i64 (stateTo (wpr W) p.words x y n)] 3 (sz := 1) (m := 1) rfl
     case one => first | (intro u hu; simp at hu; subst hu; rfl) | rfl
     case hb => omega
     case hbase => first | (simp; omega) | omega
     intro v' w' hown' hgrow' hat'
     obtain ⟨VA, vc, rfl, _⟩ := Rd.own hown'
     have HROWq : Hid (Row w' w1.heap.size 54 [.int .i64 p.w, .int .i64 p.h, .int .i64 p.edge, .slice XA kk xc]) := (HROWp.out.alloc _).grown hgrow' (fun e => own_ne_row HOWp.out HROWp.out (by decide) e.symm)
     have HOWq : Hid (w'.ownsRow w1.heap.size 3 1 (.slice VA (kk + 1) vc) (kk + 1) (ints (cellsTo W p.words n (kk + 1)))) := (by show World.ownsRow _ _ _ _ _ _ _; rw [← HSN.out]; exact hown')
     have BWq : Hid (Below w1.heap.size w1 w') := (BWp.out.alloc (by omega) _).grown hgrow' (by simp; omega) (fun k hk => (HOWp.out.lt k hk).1)
     have q3 := HROWq.out.cell 3
     have qf := HROWq.out.frozen 3
     have ql := HROWq.out.lt
     simp only [List.getElem?_cons_zero, List.getElem?_cons_succ] at q3
     clear hown' hgrow' hat' HROWp HPLp HOWp BWp
     refine hK.out _ _ (fun h => absurd h (by decide)) (fun _ => ?_)
     clear hK K
     try go_simp
     refine lPureW 8 ?va6 rfl (by rfl) ?ya6 ?ra6
     case ya6 => intro w' hSw; clear hSw; go_simp; try (with_reducible rfl)
     go_simp
     refine restL_one (i := 9) (by kernel_rfl) rfl (fun K hK => ?_)
     go_simp
     refine hK.out _ _ (fun h => absurd h (by decide)) (fun _ => ?_)
     clear hK K
     try go_simp
     refine restL_done (by kernel_rfl) ?_ _
     have HX8 : Hid (Row (World.setCell w' ⟨w1.heap.size, 3, none⟩ (.slice VA (kk + 1) vc)) w1.heap.size 54 [.int .i64 p.w, .int .i64 p.h, .int .i64 p.edge, .slice VA (kk + 1) vc]) := HROWq.out.set 3 _
     have HO8 : Hid (World.ownsRow (World.setCell w' ⟨w1.heap.size, 3, none⟩ (.slice VA (kk + 1) vc)) w1.heap.size 3 1 (.slice VA (kk + 1) vc) (kk + 1) (ints (cellsTo W p.words n (kk + 1)))) := own_set (p := ⟨w1.heap.size, 3, none⟩) HOWq.out HROWq.out (by decide) _
     have HB8 : Hid (Below w1.heap.size w1 (World.setCell w' ⟨w1.heap.size, 3, none⟩ (.slice VA (kk + 1) vc))) := BWq.out.setCell (p := ⟨w1.heap.size, 3, none⟩) (Nat.le_refl _) _
     clear HROWq HOWq BWq q3 qf ql
     revert HX8 HO8 HB8
     generalize World.setCell w' ⟨w1.heap.size, 3, none⟩ (.slice VA (kk + 1) vc) = w8
     intro HX8 HO8 HB8
     go_wp2
     go_roundg (W - (x + 1))
     case measure => omega
     case rel =>
      refine ⟨x + 1, .slice VA (kk + 1) vc, by omega, by omega, by go_num, HB8.out, HX8.out, (show World.ownsRow _ _ _ _ _ _ _ from ?_)⟩
      rw [← Nat.add_assoc, ← HKK.out]
      exact HO8.out
    ·have hlxz : ¬ (x : Int) < p.w := by have := HW.out; omega
     obtain ⟨k0, k1, k2, k3, kl⟩ := RP.out.cells4
     go_wp2
     go_roundg (Hh - (y + 1))
     case measure => omega
     case rel =>
      refine ⟨y + 1, v, by omega, by omega, by go_num, BW, RX, (show World.ownsRow _ _ _ _ _ _ _ from ?_)⟩
      rw [show (y + 1) * W = y * W + x by rw [Nat.add_mul, Nat.one_mul, show x = W by omega]]
      exact OW.out
  ·have hltz : ¬ (y : Int) < p.h := by have := HH.out; omega
   obtain rfl : y = Hh := by omega
   obtain ⟨cnt, hcnt⟩ : ∃ cnt, cnt = y * W := ⟨_, rfl⟩
   have OWk : Hid (wr.ownsRow w1.heap.size 3 1 v cnt (ints (cellsTo W p.words n cnt))) := by rw [hcnt]; exact OW.out
   have HCN : Hid (cnt = y * W) := hcnt
   have hcn : cnt ≤ 4096 := by rw [hcnt]; exact hcb
   clear hcnt OW
   obtain ⟨XA, xc, rfl, _⟩ := Rd.own OWk.out
   have RZr : Hid (Row wr (w.heap.size + 1) 54 [.int .i64 0, .int .i64 0, .int .i64 0, .slice none 0 0]) := rowCells RZ.out BW.out
   have HBr : Hid (Below w.heap.size w wr) := below_on2 HB.out BW.out
   obtain ⟨d0, d1, d2, d3, dl⟩ := RZr.out.cells4
   have f0 := RZr.out.frozen 0
   have f1 := RZr.out.frozen 1
   have f2 := RZr.out.frozen 2
   have f3 := RZr.out.frozen 3
   obtain ⟨e0, e1, e2, e3, el⟩ := RX.out.cells4
   go_wp2
   have hob := put4own (.int .i64 p.w) (.int .i64 p.h) (.int .i64 p.edge) (.slice XA cnt xc) RZr.out OWk.out (by decide)
   obtain ⟨hbl, RZ4, _⟩ := put4 (.int .i64 p.w) (.int .i64 p.h) (.int .i64 p.edge) (.slice XA cnt xc) RZr.out (Nat.le_succ w.heap.size) HBr.out
   have r0 := RZ4.cell 0
   have r1 := RZ4.cell 1
   have r2 := RZ4.cell 2
   have r3 := RZ4.cell 3
   simp only [List.getElem?_cons_zero, List.getElem?_cons_succ] at r0 r1 r2 r3
   clear RZ4
   revert hbl hob r0 r1 r2 r3
   generalize World.setCell (World.setCell (World.setCell (World.setCell wr ⟨w.heap.size + 1, 0, none⟩ (.int .i64 p.w)) ⟨w.heap.size + 1, 1, none⟩ (.int .i64 p.h)) ⟨w.heap.size + 1, 2, none⟩ (.int .i64 p.edge)) ⟨w.heap.size + 1, 3, none⟩ (.slice XA cnt xc) = wz
   intro hob hbl r0 r1 r2 r3
   refine bodyPost_ret (v := .tuple #[.agg #[.int .i64 p.w, .int .i64 p.h, .int .i64 p.edge, .slice XA cnt xc], .int .i64 0]) (by simp [results, Try.results36, go_sem, r0, r1, r2, r3]) rfl ?_
   rw [HCE.out.1, HCE.out.2]
   have hcl : cellsTo W p.words n cnt = cellsP p := by
    unfold cellsTo cellsP
    rw [HW.out, HH.out, Int.toNat_natCast, Int.toNat_natCast, ← HCN.out, HWL.out]
   rw [hcl] at hob
   exact ⟨XA, cnt, xc, rfl, ⟨Rd.of_own hob, by unfold maxLen; omega⟩, hbl⟩
end Go.Proofs.Ytiemhbogbaamlaa

/-
 A part.
-/
namespace Go.Proofs.Ytiemhbogbaamlaa
open Go.RowKit
set_option linter.unusedSimpArgs false
set_option linter.unusedVariables false
def IntsPost (l : List Int) (w : World) (e : Ending) (w' : World) : Prop := ∃ A n c, e = .returned (.slice A n c) ∧ Rd w' w'.heap.size 1 A n (ints l) ∧ n ≤ maxLen ∧ Below w.heap.size w w'
def bump (l : List Int) (i : Nat) : List Int := l.set i (l.getD i 0 + 1)
theorem bump_length (l : List Int) (i : Nat) : (bump l i).length = l.length := by simp [bump]
theorem bumpAt (l : List Int) (i : Nat) : (ints l).set i (.int .i64 (l.getD i 0 + 1)) = ints (bump l i) := by
 simp [ints, bump, List.map_set]
def countTo (N : Nat) (cs : List Int) (k : Nat) : List Int := (cs.take k).foldl (fun l s => bump l s.toNat) (zeros N)
theorem countTo_zero (N : Nat) (cs : List Int) : countTo N cs 0 = zeros N := rfl
theorem countTo_snoc (N : Nat) (cs : List Int) (k : Nat) (h : k < cs.length) : countTo N cs (k + 1) = bump (countTo N cs k) (cs.getD k 0).toNat := by
 unfold countTo
 rw [List.take_add_one, List.getElem?_eq_getElem h, List.foldl_append, List.getD_eq_getElem?_getD, List.getElem?_eq_getElem h]
 rfl
theorem countTo_length (N : Nat) (cs : List Int) (k : Nat) : (countTo N cs k).length = N := by
 unfold countTo
 have : ∀ (l : List Int) (ys : List Int), (ys.foldl (fun l s => bump l s.toNat) l).length = l.length := by
  intro l ys
  induction ys generalizing l with
  | nil => rfl
  | cons y ys ih => rw [List.foldl_cons, ih, bump_length]
 rw [this]; simp [zeros]
theorem bump_get (l : List Int) (i j : Nat) : (bump l i).getD j 0 = l.getD j 0 ∨ (bump l i).getD j 0 = l.getD j 0 + 1 := by
 unfold bump
 rw [List.getD_eq_getElem?_getD, List.getElem?_set]
 split
 ·rename_i e
  subst e
  split
  ·right; rfl
  ·left; rw [List.getD_eq_getElem?_getD, List.getElem?_eq_none (by omega)]
 ·left; rw [List.getD_eq_getElem?_getD]
theorem countTo_bd (N : Nat) (cs : List Int) (k j : Nat) (h : k ≤ cs.length) : 0 ≤ (countTo N cs k).getD j 0 ∧ (countTo N cs k).getD j 0 ≤ k := by
 induction k with
 | zero =>
  rw [countTo_zero]
  have : (zeros N).getD j 0 = 0 := by unfold zeros; rw [List.getD_eq_getElem?_getD, List.getElem?_replicate]; split <;> rfl
  omega
 | succ k ih =>
  have := ih (by omega)
  rw [countTo_snoc N cs k (by omega)]
  rcases bump_get (countTo N cs k) (cs.getD k 0).toNat j with e | e <;> rw [e] <;> omega
def countF (p : Pln) : List Int := if rightPl p = true then countTo (2 ^ p.words.length) (cellsP p) (cellsP p).length else []
theorem cellsP_bd (p : Pln) (k : Nat) : 0 ≤ (cellsP p).getD k 0 ∧ (cellsP p).getD k 0 < 2 ^ p.words.length := by
 have hp : (0 : Int) < 2 ^ p.words.length := Int.pow_pos (by omega)
 by_cases hk : k < p.h.toNat * p.w.toNat
 ·have : (cellsP p).getD k 0 = stateTo (wpr p.w.toNat) p.words (k % p.w.toNat) (k / p.w.toNat) p.words.length := by
   unfold cellsP
   rw [List.getD_eq_getElem?_getD, List.getElem?_map, List.getElem?_range hk]; rfl
  rw [this]
  exact stateTo_bd _ _ _ _ _
 ·have : (cellsP p).getD k 0 = 0 := by
   rw [List.getD_eq_getElem?_getD, List.getElem?_eq_none (by rw [cellsP_length]; omega)]; rfl
  rw [this]; omega
set_option maxRecDepth 100000 in
set_option maxHeartbeats 4000000 in
theorem plCount_any (p : Pln) (A : Option Addr) (n c : Nat) (sl : List Sl) (w : World) (h : PAt w p A n sl) :
 Calls Try.prog 70 #[.agg #[.int .i64 p.w, .int .i64 p.h, .int .i64 p.edge, .slice A n c]] w (IntsPost (countF p) w) := by
 have H : Hid (PAt w p A n sl) := h
 have HWL : Hid (p.words.length = n) := h.wl
 have hm := h.n63
 unfold maxLen at hm
 clear h
 go_enter Try.func70, Try.ntmps70
 go_wp2_with fail
 refine (plUnpack_any p A n c sl _ (H.out.up (by go_grown))).mono ?_
 rintro e w1 ⟨XA, xn, xc, rfl, hg, hb⟩
 have HB : Hid (Below w.heap.size w w1) := below_next hb (by go_grown)
 have RA : Hid (Row w1 w.heap.size 42 [.int .i64 p.w, .int .i64 p.h, .int .i64 p.edge, .slice A n c]) := rowCells (Row.new w 42 [.int .i64 p.w, .int .i64 p.h, .int .i64 p.edge, .slice A n c]) hb
 clear hb
 cases hr : rightPl p
 ·have HC : Hid (countF p = []) := (by show _ = _; unfold countF; rw [hr]; rfl)
  have h1 : unpackR p = noGrd := by unfold unpackR; rw [hr]; rfl
  have h2 : unpackErr p = 2 := by unfold unpackErr; rw [hr]; rfl
  rw [h1] at hg ⊢
  rw [h2]
  clear hr h1 h2 hg
  have BB := HB.out
  have hsz := BB.size
  go_wp2
  go_ret
  rw [HC.out]
  exact ⟨none, 0, 0, rfl, Rd.empty none, by unfold maxLen; omega, by go_grown⟩
 have h1 : unpackR p = unpackG p := by unfold unpackR; rw [hr]; rfl
 have h2 : unpackErr p = 0 := by unfold unpackErr; rw [hr]; rfl
 have hn3 : 1 ≤ n ∧ n ≤ 3 := by
  have := (rightPl_parts hr).2.1
  rw [HWL.out] at this; exact this
 rw [h1] at hg ⊢
 rw [h2]
 have HC : Hid (countF p = countTo (2 ^ n) (cellsP p) (cellsP p).length) := (by show _ = _; unfold countF; rw [hr, HWL.out]; rfl)
 have HG : Hid (Rd w1 w1.heap.size 1 XA xn (ints (cellsP p))) := hg.cells
 have hxm := hg.c63
 unfold maxLen at hxm
 have HXN : Hid ((cellsP p).length = xn) := (by have := HG.out.1; rw [ints_length, Nat.mul_one] at this; exact this)
 clear h1 h2 hr hg
 unfold unpackG
 dsimp only
 obtain ⟨N, hN⟩ : ∃ N : Nat, N = 2 ^ n := ⟨_, rfl⟩
 have hN8 : N ≤ 8 ∧ wrap64 ((2 : Int) ^ n) = (N : Int) := by
  rw [hN]
  have hc : n = 1 ∨ n = 2 ∨ n = 3 := by omega
  rcases hc with rfl | rfl | rfl <;> exact ⟨by decide, by simp [wrap64]⟩
 obtain ⟨hN8, hwN⟩ := hN8
 rw [← hN] at HC
 have HSB : Hid (∀ k, 0 ≤ (cellsP p).getD k 0 ∧ (cellsP p).getD k 0 < (N : Int)) := fun k => by
  have := cellsP_bd p k
  rw [HWL.out] at this
  rw [hN, Int.natCast_pow]; exact this
 have hmk := fun W => make_like (P := Try.prog) Try.underlying35 int_infoR rfl N (N : Int) rfl (by omega) (by omega) W
 clear hN
 obtain ⟨k0, k1, k2, k3, kl⟩ := RA.out.cells4
 go_wp2
 clear hmk k0 k1 k2 k3 kl hwN
 go_loopg [7, 24] xn (fun gg _ s24 wr => ∃ kk : Nat, kk ≤ xn ∧ xn - kk ≤ gg ∧ s24 = .int .i64 kk ∧ Aside (Below w1.heap.size w1 wr) ∧ Aside (Row wr w1.heap.size 54 [.int .i64 p.w, .int .i64 p.h, .int .i64 p.edge, .slice XA xn xc]) ∧ Aside (Row wr (w1.heap.size + 1) 3 (ints (countTo N (cellsP p) kk))))
 case atStart =>
  refine ⟨0, Nat.zero_le _, by omega, rfl, (show Below _ _ _ by go_grown), (show Row _ _ _ _ from (Row.new w1 54 [.int .i64 p.w, .int .i64 p.h, .int .i64 p.edge, .slice XA xn xc]).alloc _), ?_⟩
  show Row _ _ _ _
  rw [countTo_zero, ints_zeros]
  exact rowNew1 w1 _ 3 (List.replicate N (.int .i64 0))
 case round =>
  obtain ⟨kk, hkk, hgg, rfl, BW, RX, RZ⟩ := hrel
  have HBr : Hid (Below w.heap.size w wr) := below_on2 HB.out BW.out
  have RZ : Hid (Row wr (w1.heap.size + 1) 3 (ints (countTo N (cellsP p) kk))) := RZ.out
  obtain ⟨e0, e1, e2, e3, el⟩ := RX.out.cells4
  by_cases hlt : kk < xn
  ·have hltz : (kk : Int) < (xn : Int) := by omega
   obtain ⟨ad, u, rfl, hbl, hu, hc⟩ := (HG.out.up BW.out).get1 hlt
   rw [ints_get _ kk (by rw [HXN.out]; exact hlt)] at hu
   injection hu with hu
   subst hu
   have hsb := HSB.out kk
   have HS := countTo_snoc N (cellsP p) kk (by rw [HXN.out]; exact hlt)
   have hbdk := fun j => countTo_bd N (cellsP p) kk j (by rw [HXN.out]; omega)
   generalize (cellsP p).getD kk 0 = st at hc hsb HS
   obtain ⟨pz, rfl⟩ : ∃ pz : Nat, st = (pz : Int) := ⟨st.toNat, by omega⟩
   rw [Int.toNat_natCast] at HS
   have hp1 : (pz : Int) < (N : Int) := hsb.2
   have hp0 : (0 : Int) ≤ (pz : Int) := by omega
   have hbd := hbdk pz
   have hlen := countTo_length N (cellsP p) kk
   generalize countTo N (cellsP p) kk = zs at RZ HS hbd hlen hbdk
   have hcell : wr.cell? ⟨w1.heap.size + 1, pz, none⟩ = some (.int .i64 (zs.getD pz 0)) := by rw [RZ.out.cell]; exact ints_get zs pz (by omega)
   have hfr : wr.frozen? ⟨w1.heap.size + 1, pz, none⟩ = false := RZ.out.frozen pz
   have hbz := RZ.out.lt
   have HS' : Hid (countTo N (cellsP p) (kk + 1) = bump zs pz) := HS
   generalize hv : zs.getD pz 0 = v at hcell hbd
   have HV : Hid (zs.getD pz 0 = v) := hv
   have hw1 : IntKind.i64.wrap (pz : Int) = (pz : Int) := IntWalk.i64_in _ (by omega)
   have hw2 : IntKind.i64.wrap (v + 1) = v + 1 := IntWalk.i64_in _ (by omega)
   clear hv HS hlen hbdk
   go_wp2
   go_roundg (xn - (kk + 1))
   case measure => omega
   case rel =>
    refine ⟨kk + 1, by omega, by omega, by go_num, ?_, ?_, ?_⟩
    ·show Below _ _ _
     exact BW.out.setCell (p := ⟨w1.heap.size + 1, pz, none⟩) (Nat.le_succ _) _
    ·show Row _ _ _ _
     exact RX.out.far (p := ⟨w1.heap.size + 1, pz, none⟩) (by show w1.heap.size ≠ w1.heap.size + 1; omega) _
    ·show Row _ _ _ _
     rw [HS'.out, ← bumpAt, HV.out]
     exact RZ.out.set pz _
  ·have hltz : ¬ (kk : Int) < (xn : Int) := by omega
   obtain rfl : kk = xn := by omega
   go_wp2
   go_ret
   refine ⟨_, _, _, rfl, ?_, by unfold maxLen; omega, HBr.out⟩
   rw [HC.out, HXN.out]
   exact RZ.out.rd (by rw [ints_length, countTo_length, Nat.mul_one])
end Go.Proofs.Ytiemhbogbaamlaa
