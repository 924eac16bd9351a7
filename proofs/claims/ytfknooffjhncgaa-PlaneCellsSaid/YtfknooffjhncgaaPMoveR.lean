/-
  The reference's Move, walked.
-/
import Derived.Test.YtfknooffjhncgaaPPackR
import Derived.Test.YtfknooffjhncgaaPMove
import Derived.Test.YtfknooffjhncgaaGGetB
namespace Go.Proofs.Ytfknooffjhncgaa
open Go.RowKit
set_option linter.unusedSimpArgs false
set_option linter.unusedVariables false
/-- The first cells of the moved grid. -/
def mvCells (p : Pln) (dx dy : Int) (k : Nat) : List Int := (List.range k).map (fun i => getF (unpackG p) (((i % p.w.toNat : Nat) : Int) + dx) (((i / p.w.toNat : Nat) : Int) + dy))
theorem mvCells_snoc (p : Pln) (dx dy : Int) (W x y k : Nat) (hW : p.w.toNat = W) (hx : x < W) (hk : k = y * W + x) (v : Int) (hv : getF (unpackG p) ((x : Int) + dx) ((y : Int) + dy) = v) : ints (mvCells p dx dy k) ++ [.int .i64 v] = ints (mvCells p dx dy (k + 1)) := by
  subst hk hv
  unfold mvCells
  rw [List.range_succ, List.map_append, List.map_singleton, hW, (row_at hx).1, (row_at hx).2]
  simp [ints]
theorem rGGet_anyU (g : Grd) (A : Option Addr) (n c W H E : Nat) (he : g.w = W ∧ g.h = H ∧ g.edge = E) (x y : Int) (w : World) (h : GAt w g A n) :
    Calls Try.prog 40 #[.agg #[.int .i64 W, .int .i64 H, .int .i64 E, .slice A n c], .int .i64 x, .int .i64 y] w fun e w' => e = .returned (.int .i64 (getF g x y)) ∧ Below w.heap.size w w' := by
  obtain ⟨h1, h2, h3⟩ := he
  rw [← h1, ← h2, ← h3]
  exact rGGet_any g A n c x y w h

set_option maxRecDepth 100000 in
set_option maxHeartbeats 2000000 in
theorem rMove_bad (p : Pln) (A : Option Addr) (n c : Nat) (sl : List Sl) (dx dy : Int) (w : World) (h : PAt w p A n sl) (hbad : moveErr p dx dy ≠ 0) :
    Calls Try.prog 24 #[.agg #[.int .i64 p.w, .int .i64 p.h, .int .i64 p.edge, .slice A n c], .int .i64 dx, .int .i64 dy] w (PPost (moveR p dx dy) (moveErr p dx dy) w) := by
  have H : Hid (PAt w p A n sl) := h
  have h2 : moveErr p dx dy = 2 := by unfold moveErr at hbad ⊢; split at hbad <;> simp_all
  have HCE : Hid (moveR p dx dy = noPln ∧ moveErr p dx dy = 2) := ⟨by unfold moveR; rw [if_neg hbad], h2⟩
  have hq : unpackErr p = 2 ∨ unpackErr p = 0 ∧ (dx < -256 ∨ ¬ dx < -256 ∧ (256 < dx ∨ ¬ 256 < dx ∧ (dy < -256 ∨ ¬ dy < -256 ∧ 256 < dy))) := by
    unfold unpackErr
    cases hr : rightPl p
    · exact .inl rfl
    · refine .inr ⟨rfl, ?_⟩
      unfold moveErr offOk at hbad
      rw [hr] at hbad
      simp at hbad
      omega
  clear h hbad h2
  go_enter Try.func24, Try.ntmps24
  go_wp2_with fail
  refine (rPlUnpack_any p A n c sl _ (H.out.up (by go_grown))).mono ?_
  rintro e w1 ⟨GAd, gn, gc, rfl, _, hb⟩
  have HB : Hid (Below w.heap.size w w1) := below_next hb (by go_grown)
  have RZ : Hid (Row w1 (w.heap.size + 1) 28 [.int .i64 0, .int .i64 0, .int .i64 0, .slice none 0 0]) := rowCells (rowNew1 w _ 28 [.int .i64 0, .int .i64 0, .int .i64 0, .slice none 0 0]) hb
  clear hb
  have d0 := RZ.out.cell 0
  have d1 := RZ.out.cell 1
  have d2 := RZ.out.cell 2
  have d3 := RZ.out.cell 3
  have dl := RZ.out.lt
  simp only [List.getElem?_cons_zero, List.getElem?_cons_succ] at d0 d1 d2 d3
  have f0 := RZ.out.frozen 0
  have f1 := RZ.out.frozen 1
  have f2 := RZ.out.frozen 2
  have f3 := RZ.out.frozen 3
  have BB := HB.out
  rcases hq with hr | ⟨hr, h1 | ⟨h2, h1 | ⟨h3, h1 | ⟨h4, h1⟩⟩⟩⟩
  all_goals rw [hr]; clear hr
  · go_wp2
    obtain ⟨hbl, RZ4, _⟩ := put4 (.int .i64 0) (.int .i64 0) (.int .i64 0) (.slice none 0 0) RZ.out (Nat.le_succ w.heap.size) HB.out
    have RZ5 := RZ4.alloc (.cells #[.int .i64 (unpackR p).w, .int .i64 (unpackR p).h, .int .i64 (unpackR p).edge, .slice GAd gn gc] 24)
    have hbl5 := hbl.alloc (by have := hbl.size; omega) (.cells #[.int .i64 (unpackR p).w, .int .i64 (unpackR p).h, .int .i64 (unpackR p).edge, .slice GAd gn gc] 24)
    have r0 := RZ5.cell 0
    have r1 := RZ5.cell 1
    have r2 := RZ5.cell 2
    have r3 := RZ5.cell 3
    simp only [List.getElem?_cons_zero, List.getElem?_cons_succ] at r0 r1 r2 r3
    clear RZ4 RZ5 hbl
    revert hbl5 r0 r1 r2 r3
    generalize World.alloc (World.setCell (World.setCell (World.setCell (World.setCell w1 ⟨w.heap.size + 1, 0, none⟩ (.int .i64 0)) ⟨w.heap.size + 1, 1, none⟩ (.int .i64 0)) ⟨w.heap.size + 1, 2, none⟩ (.int .i64 0)) ⟨w.heap.size + 1, 3, none⟩ (.slice none 0 0)) (.cells #[.int .i64 (unpackR p).w, .int .i64 (unpackR p).h, .int .i64 (unpackR p).edge, .slice GAd gn gc] 24) = wz
    intro hbl5 r0 r1 r2 r3
    exact bodyPost_ret (v := .tuple #[.agg #[.int .i64 0, .int .i64 0, .int .i64 0, .slice none 0 0], .int .i64 2]) (by simp [results, Try.results24, go_sem, r0, r1, r2, r3]) rfl (ppost_err HCE.out.1 HCE.out.2 hbl5)
  · go_wp2
    obtain ⟨hbl, RZ4, _⟩ := put4 (.int .i64 0) (.int .i64 0) (.int .i64 0) (.slice none 0 0) RZ.out (Nat.le_succ w.heap.size) HB.out
    have RZ5 := RZ4.alloc (.cells #[.int .i64 (unpackR p).w, .int .i64 (unpackR p).h, .int .i64 (unpackR p).edge, .slice GAd gn gc] 24)
    have hbl5 := hbl.alloc (by have := hbl.size; omega) (.cells #[.int .i64 (unpackR p).w, .int .i64 (unpackR p).h, .int .i64 (unpackR p).edge, .slice GAd gn gc] 24)
    have r0 := RZ5.cell 0
    have r1 := RZ5.cell 1
    have r2 := RZ5.cell 2
    have r3 := RZ5.cell 3
    simp only [List.getElem?_cons_zero, List.getElem?_cons_succ] at r0 r1 r2 r3
    clear RZ4 RZ5 hbl
    revert hbl5 r0 r1 r2 r3
    generalize World.alloc (World.setCell (World.setCell (World.setCell (World.setCell w1 ⟨w.heap.size + 1, 0, none⟩ (.int .i64 0)) ⟨w.heap.size + 1, 1, none⟩ (.int .i64 0)) ⟨w.heap.size + 1, 2, none⟩ (.int .i64 0)) ⟨w.heap.size + 1, 3, none⟩ (.slice none 0 0)) (.cells #[.int .i64 (unpackR p).w, .int .i64 (unpackR p).h, .int .i64 (unpackR p).edge, .slice GAd gn gc] 24) = wz
    intro hbl5 r0 r1 r2 r3
    exact bodyPost_ret (v := .tuple #[.agg #[.int .i64 0, .int .i64 0, .int .i64 0, .slice none 0 0], .int .i64 2]) (by simp [results, Try.results24, go_sem, r0, r1, r2, r3]) rfl (ppost_err HCE.out.1 HCE.out.2 hbl5)
  · go_wp2
    obtain ⟨hbl, RZ4, _⟩ := put4 (.int .i64 0) (.int .i64 0) (.int .i64 0) (.slice none 0 0) RZ.out (Nat.le_succ w.heap.size) HB.out
    have RZ5 := RZ4.alloc (.cells #[.int .i64 (unpackR p).w, .int .i64 (unpackR p).h, .int .i64 (unpackR p).edge, .slice GAd gn gc] 24)
    have hbl5 := hbl.alloc (by have := hbl.size; omega) (.cells #[.int .i64 (unpackR p).w, .int .i64 (unpackR p).h, .int .i64 (unpackR p).edge, .slice GAd gn gc] 24)
    have r0 := RZ5.cell 0
    have r1 := RZ5.cell 1
    have r2 := RZ5.cell 2
    have r3 := RZ5.cell 3
    simp only [List.getElem?_cons_zero, List.getElem?_cons_succ] at r0 r1 r2 r3
    clear RZ4 RZ5 hbl
    revert hbl5 r0 r1 r2 r3
    generalize World.alloc (World.setCell (World.setCell (World.setCell (World.setCell w1 ⟨w.heap.size + 1, 0, none⟩ (.int .i64 0)) ⟨w.heap.size + 1, 1, none⟩ (.int .i64 0)) ⟨w.heap.size + 1, 2, none⟩ (.int .i64 0)) ⟨w.heap.size + 1, 3, none⟩ (.slice none 0 0)) (.cells #[.int .i64 (unpackR p).w, .int .i64 (unpackR p).h, .int .i64 (unpackR p).edge, .slice GAd gn gc] 24) = wz
    intro hbl5 r0 r1 r2 r3
    exact bodyPost_ret (v := .tuple #[.agg #[.int .i64 0, .int .i64 0, .int .i64 0, .slice none 0 0], .int .i64 2]) (by simp [results, Try.results24, go_sem, r0, r1, r2, r3]) rfl (ppost_err HCE.out.1 HCE.out.2 hbl5)
  · go_wp2
    obtain ⟨hbl, RZ4, _⟩ := put4 (.int .i64 0) (.int .i64 0) (.int .i64 0) (.slice none 0 0) RZ.out (Nat.le_succ w.heap.size) HB.out
    have RZ5 := RZ4.alloc (.cells #[.int .i64 (unpackR p).w, .int .i64 (unpackR p).h, .int .i64 (unpackR p).edge, .slice GAd gn gc] 24)
    have hbl5 := hbl.alloc (by have := hbl.size; omega) (.cells #[.int .i64 (unpackR p).w, .int .i64 (unpackR p).h, .int .i64 (unpackR p).edge, .slice GAd gn gc] 24)
    have r0 := RZ5.cell 0
    have r1 := RZ5.cell 1
    have r2 := RZ5.cell 2
    have r3 := RZ5.cell 3
    simp only [List.getElem?_cons_zero, List.getElem?_cons_succ] at r0 r1 r2 r3
    clear RZ4 RZ5 hbl
    revert hbl5 r0 r1 r2 r3
    generalize World.alloc (World.setCell (World.setCell (World.setCell (World.setCell w1 ⟨w.heap.size + 1, 0, none⟩ (.int .i64 0)) ⟨w.heap.size + 1, 1, none⟩ (.int .i64 0)) ⟨w.heap.size + 1, 2, none⟩ (.int .i64 0)) ⟨w.heap.size + 1, 3, none⟩ (.slice none 0 0)) (.cells #[.int .i64 (unpackR p).w, .int .i64 (unpackR p).h, .int .i64 (unpackR p).edge, .slice GAd gn gc] 24) = wz
    intro hbl5 r0 r1 r2 r3
    exact bodyPost_ret (v := .tuple #[.agg #[.int .i64 0, .int .i64 0, .int .i64 0, .slice none 0 0], .int .i64 2]) (by simp [results, Try.results24, go_sem, r0, r1, r2, r3]) rfl (ppost_err HCE.out.1 HCE.out.2 hbl5)
  · go_wp2
    obtain ⟨hbl, RZ4, _⟩ := put4 (.int .i64 0) (.int .i64 0) (.int .i64 0) (.slice none 0 0) RZ.out (Nat.le_succ w.heap.size) HB.out
    have RZ5 := RZ4.alloc (.cells #[.int .i64 (unpackR p).w, .int .i64 (unpackR p).h, .int .i64 (unpackR p).edge, .slice GAd gn gc] 24)
    have hbl5 := hbl.alloc (by have := hbl.size; omega) (.cells #[.int .i64 (unpackR p).w, .int .i64 (unpackR p).h, .int .i64 (unpackR p).edge, .slice GAd gn gc] 24)
    have r0 := RZ5.cell 0
    have r1 := RZ5.cell 1
    have r2 := RZ5.cell 2
    have r3 := RZ5.cell 3
    simp only [List.getElem?_cons_zero, List.getElem?_cons_succ] at r0 r1 r2 r3
    clear RZ4 RZ5 hbl
    revert hbl5 r0 r1 r2 r3
    generalize World.alloc (World.setCell (World.setCell (World.setCell (World.setCell w1 ⟨w.heap.size + 1, 0, none⟩ (.int .i64 0)) ⟨w.heap.size + 1, 1, none⟩ (.int .i64 0)) ⟨w.heap.size + 1, 2, none⟩ (.int .i64 0)) ⟨w.heap.size + 1, 3, none⟩ (.slice none 0 0)) (.cells #[.int .i64 (unpackR p).w, .int .i64 (unpackR p).h, .int .i64 (unpackR p).edge, .slice GAd gn gc] 24) = wz
    intro hbl5 r0 r1 r2 r3
    exact bodyPost_ret (v := .tuple #[.agg #[.int .i64 0, .int .i64 0, .int .i64 0, .slice none 0 0], .int .i64 2]) (by simp [results, Try.results24, go_sem, r0, r1, r2, r3]) rfl (ppost_err HCE.out.1 HCE.out.2 hbl5)

set_option maxRecDepth 100000 in
set_option maxHeartbeats 6000000 in
theorem rMove_good (p : Pln) (A : Option Addr) (n c : Nat) (sl : List Sl) (dx dy : Int) (w : World) (h : PAt w p A n sl) (hr : rightPl p = true) (ho : offOk dx dy = true) :
    Calls Try.prog 24 #[.agg #[.int .i64 p.w, .int .i64 p.h, .int .i64 p.edge, .slice A n c], .int .i64 dx, .int .i64 dy] w (PPost (moveR p dx dy) (moveErr p dx dy) w) := by
  have H : Hid (PAt w p A n sl) := h
  have HWL : Hid (p.words.length = n) := h.wl
  have hm := h.n63
  unfold maxLen at hm
  have HR : Hid (rightPl p = true) := hr
  have HCE : Hid (moveR p dx dy = moveP p dx dy ∧ moveErr p dx dy = 0) := by
    have h2 : moveErr p dx dy = 0 := by unfold moveErr; rw [if_pos ⟨hr, ho⟩]
    exact ⟨by unfold moveR; rw [if_pos h2], h2⟩
  have ho2 : (-256 ≤ dx ∧ dx ≤ 256) ∧ (-256 ≤ dy ∧ dy ≤ 256) := by simpa [offOk] using ho
  obtain ⟨⟨o1, o2⟩, o3, o4⟩ := ho2
  obtain ⟨hs, ⟨hn1, hn3⟩, hpl0⟩ := rightPl_parts hr
  obtain ⟨⟨s1, s2⟩, ⟨s3, s4⟩, s5, s6, s7⟩ := sizedF_parts hs
  obtain ⟨W, hW⟩ : ∃ W : Nat, p.w = (W : Int) := ⟨p.w.toNat, by omega⟩
  obtain ⟨Hh, hH⟩ : ∃ Hh : Nat, p.h = (Hh : Int) := ⟨p.h.toNat, by omega⟩
  obtain ⟨E, hE⟩ : ∃ E : Nat, p.edge = (E : Int) := ⟨p.edge.toNat, by omega⟩
  have HWT : Hid (p.w.toNat = W ∧ p.h.toNat = Hh) := by rw [hW, hH]; exact ⟨Int.toNat_natCast W, Int.toNat_natCast Hh⟩
  have hW1 : 1 ≤ W ∧ W ≤ 256 := by omega
  have hH1 : 1 ≤ Hh ∧ Hh ≤ 256 := by omega
  have hcb : Hh * W ≤ 4096 := by
    have h9 : ((W * Hh : Nat) : Int) ≤ 4096 := by rw [Int.natCast_mul, ← hW, ← hH]; exact s5
    rw [Nat.mul_comm]; omega
  rw [HWL.out] at hn1 hn3
  have hU : unpackR p = unpackG p ∧ unpackErr p = 0 := ⟨by unfold unpackR; rw [hr]; rfl, by unfold unpackErr; rw [hr]; rfl⟩
  have HU : Hid (unpackR p = unpackG p ∧ unpackErr p = 0) := hU
  have HPE : Hid (packErr (movedG p dx dy) n = 0) := by show _ = _; rw [← HWL.out]; exact moved_packErr hr dx dy
  have HPP : Hid (packR (movedG p dx dy) n = moveP p dx dy) := by show _ = _; unfold packR; rw [if_pos HPE.out, Int.toNat_natCast, ← HWL.out]; rfl
  obtain ⟨g, hg⟩ : ∃ g, g = unpackG p := ⟨_, rfl⟩
  have HGG : Hid (g = unpackG p) := hg
  have HGE : Hid (g.w = W ∧ g.h = Hh ∧ g.edge = E) := by rw [hg]; exact ⟨hW, hH, hE⟩
  have HMG : Hid (movedG p dx dy = ⟨W, Hh, E, mvCells p dx dy (Hh * W)⟩) := by
    show _ = _
    unfold movedG mvCells
    rw [hW, hH, hE, Int.toNat_natCast, Int.toNat_natCast]
  clear hr ho hs s1 s2 s3 s4 s5 s6 s7 hpl0 h hU hg hW hH hE
  go_enter Try.func24, Try.ntmps24
  go_wp2_with fail
  refine (rPlUnpack_any p A n c sl _ (H.out.up (by go_grown))).mono ?_
  rw [HU.out.1, HU.out.2, ← HGG.out]
  rintro e w1 ⟨GAd, gn, gc, rfl, hga, hb⟩
  rw [HGE.out.1, HGE.out.2.1, HGE.out.2.2]
  have HG : Hid (GAt w1 g GAd gn) := hga
  have HB : Hid (Below w.heap.size w w1) := below_next hb (by go_grown)
  have RA : Hid (Row w1 w.heap.size 28 [.int .i64 p.w, .int .i64 p.h, .int .i64 p.edge, .slice A n c]) := rowCells ((Row.new w 28 [.int .i64 p.w, .int .i64 p.h, .int .i64 p.edge, .slice A n c]).alloc _) hb
  have RZ : Hid (Row w1 (w.heap.size + 1) 28 [.int .i64 0, .int .i64 0, .int .i64 0, .slice none 0 0]) := rowCells (rowNew1 w _ 28 [.int .i64 0, .int .i64 0, .int .i64 0, .slice none 0 0]) hb
  clear hb hga
  have d1 : ¬ dx < -256 := by omega
  have d2 : ¬ 256 < dx := by omega
  have d3 : ¬ dy < -256 := by omega
  have d4 : ¬ 256 < dy := by omega
  go_wp2
  have RG0 : Hid (Row (World.alloc (World.alloc w1 (.cells #[.int .i64 W, .int .i64 Hh, .int .i64 E, .slice GAd gn gc] 24)) (.cells #[.int .i64 W, .int .i64 Hh, .int .i64 E, .slice none 0 0] 24)) w1.heap.size 24 [.int .i64 W, .int .i64 Hh, .int .i64 E, .slice GAd gn gc]) := (Row.new w1 24 [.int .i64 W, .int .i64 Hh, .int .i64 E, .slice GAd gn gc]).alloc _
  have RX0 : Hid (Row (World.alloc (World.alloc w1 (.cells #[.int .i64 W, .int .i64 Hh, .int .i64 E, .slice GAd gn gc] 24)) (.cells #[.int .i64 W, .int .i64 Hh, .int .i64 E, .slice none 0 0] 24)) (w1.heap.size + 1) 24 [.int .i64 W, .int .i64 Hh, .int .i64 E, .slice none 0 0]) := rowNew1 w1 _ 24 [.int .i64 W, .int .i64 Hh, .int .i64 E, .slice none 0 0]
  have HB3 : Hid (Below w1.heap.size w1 (World.alloc (World.alloc w1 (.cells #[.int .i64 W, .int .i64 Hh, .int .i64 E, .slice GAd gn gc] 24)) (.cells #[.int .i64 W, .int .i64 Hh, .int .i64 E, .slice none 0 0] 24))) := (show Below _ _ _ by go_grown)
  have hsz3 : Hid (w1.heap.size + 2 ≤ (World.alloc (World.alloc w1 (.cells #[.int .i64 W, .int .i64 Hh, .int .i64 E, .slice GAd gn gc] 24)) (.cells #[.int .i64 W, .int .i64 Hh, .int .i64 E, .slice none 0 0] 24)).heap.size) := (by show _ ≤ _; simp)
  revert RG0 RX0 HB3 hsz3
  generalize World.alloc (World.alloc w1 (.cells #[.int .i64 W, .int .i64 Hh, .int .i64 E, .slice GAd gn gc] 24)) (.cells #[.int .i64 W, .int .i64 Hh, .int .i64 E, .slice none 0 0] 24) = w3
  intro RG0 RX0 HB3 hsz3
  go_loopg [11, 12] Hh (fun gg s11 _ wr => ∃ (y : Nat) (v : Value), y ≤ Hh ∧ Hh - y ≤ gg ∧ s11 = .int .i64 y ∧ Aside (Below w1.heap.size w1 wr) ∧ Aside (w1.heap.size + 2 ≤ wr.heap.size) ∧ Aside (Row wr w1.heap.size 24 [.int .i64 W, .int .i64 Hh, .int .i64 E, .slice GAd gn gc]) ∧ Aside (Row wr (w1.heap.size + 1) 24 [.int .i64 W, .int .i64 Hh, .int .i64 E, v]) ∧ Aside (wr.ownsRow (w1.heap.size + 2) 3 1 v (y * W) (ints (mvCells p dx dy (y * W)))))
  case atStart =>
    refine ⟨0, .slice none 0 0, Nat.zero_le _, by omega, rfl, HB3.out, hsz3.out, RG0.out, RX0.out, (show World.ownsRow _ _ _ _ _ _ _ from ?_)⟩
    rw [Nat.zero_mul]
    exact World.ownsRow_nil _ _ _ _
  case round =>
    clear RG0 RX0 HB3 hsz3
    obtain ⟨y, v, hy, hgg, rfl, BW, hsz, RG, RX, OW⟩ := hrel
    have k0 := RG.out.cell 0
    have k1 := RG.out.cell 1
    have k2 := RG.out.cell 2
    have k3 := RG.out.cell 3
    have kl := RG.out.lt
    simp only [List.getElem?_cons_zero, List.getElem?_cons_succ] at k0 k1 k2 k3
    by_cases hlt : y < Hh
    · have hltz : (y : Int) < (Hh : Int) := by omega
      go_wp2
      clear k0 k1 k2 k3 kl
      go_loopg [12] W (fun gg s12 wr => ∃ (x : Nat) (v : Value), x ≤ W ∧ W - x ≤ gg ∧ s12 = .int .i64 x ∧ Aside (Below w1.heap.size w1 wr) ∧ Aside (w1.heap.size + 2 ≤ wr.heap.size) ∧ Aside (Row wr w1.heap.size 24 [.int .i64 W, .int .i64 Hh, .int .i64 E, .slice GAd gn gc]) ∧ Aside (Row wr (w1.heap.size + 1) 24 [.int .i64 W, .int .i64 Hh, .int .i64 E, v]) ∧ Aside (wr.ownsRow (w1.heap.size + 2) 3 1 v (y * W + x) (ints (mvCells p dx dy (y * W + x)))))
      case atStart => exact ⟨0, v, Nat.zero_le _, by omega, rfl, BW, hsz, RG, RX, OW⟩
      case round =>
        clear BW RX OW RG hsz
        obtain ⟨x, v, hx, hgx, rfl, BW, hsz, RG, RX, OW⟩ := hrel
        have k0 := RG.out.cell 0
        have k1 := RG.out.cell 1
        have k2 := RG.out.cell 2
        have k3 := RG.out.cell 3
        have kl := RG.out.lt
        simp only [List.getElem?_cons_zero, List.getElem?_cons_succ] at k0 k1 k2 k3
        by_cases hlx : x < W
        · have hlxz : (x : Int) < (W : Int) := by omega
          obtain ⟨kk, hkk⟩ : ∃ kk, kk = y * W + x := ⟨_, rfl⟩
          have OWk : Hid (wr.ownsRow (w1.heap.size + 2) 3 1 v kk (ints (mvCells p dx dy kk))) := by rw [hkk]; exact OW.out
          have hkb : kk < 4096 := by
            have := row_lt (n := W) (H := Hh) (i := x) hlx hlt
            omega
          have HGV0 : Hid (getF g ((x : Int) + dx) ((y : Int) + dy) = getF g ((x : Int) + dx) ((y : Int) + dy)) := rfl
          obtain ⟨gv, hgv⟩ : ∃ gv, gv = getF g ((x : Int) + dx) ((y : Int) + dy) := ⟨_, rfl⟩
          have HGV : Hid (getF g ((x : Int) + dx) ((y : Int) + dy) = gv) := hgv.symm
          have HSN : Hid (ints (mvCells p dx dy kk) ++ [.int .i64 gv] = ints (mvCells p dx dy (kk + 1))) := mvCells_snoc p dx dy W x y kk HWT.out.1 hlx hkk gv (by rw [← HGG.out, hgv])
          have HKK : Hid (kk = y * W + x) := hkk
          have hwx : IntKind.i64.wrap ((x : Int) + dx) = (x : Int) + dx := IntWalk.i64_in _ (by omega)
          have hwy : IntKind.i64.wrap ((y : Int) + dy) = (y : Int) + dy := IntWalk.i64_in _ (by omega)
          clear hkk hgv HGV0
          obtain ⟨XA, xc, rfl, _⟩ := Rd.own OWk.out
          have RX : Hid (Row wr (w1.heap.size + 1) 24 [.int .i64 W, .int .i64 Hh, .int .i64 E, .slice XA kk xc]) := RX.out
          have RG : Hid (Row wr w1.heap.size 24 [.int .i64 W, .int .i64 Hh, .int .i64 E, .slice GAd gn gc]) := RG.out
          go_wp2_with fail
          refine wp_region_L (fun w' => Row w' (w1.heap.size + 1) 24 [.int .i64 W, .int .i64 Hh, .int .i64 E, .slice XA kk xc] ∧ Row w' w1.heap.size 24 [.int .i64 W, .int .i64 Hh, .int .i64 E, .slice GAd gn gc]) [11, 12, 13] (by kernel_rfl) (by exact ⟨RX.out.drew, RG.out.drew⟩) (fun hHeld => ?_)
          have HROWd : Hid (Row wr.drew (w1.heap.size + 1) 24 [.int .i64 W, .int .i64 Hh, .int .i64 E, .slice XA kk xc]) := hHeld.1
          have HGLd : Hid (Row wr.drew w1.heap.size 24 [.int .i64 W, .int .i64 Hh, .int .i64 E, .slice GAd gn gc]) := hHeld.2
          have HOWd : Hid (wr.drew.ownsRow (w1.heap.size + 2) 3 1 (.slice XA kk xc) kk (ints (mvCells p dx dy kk))) := OWk.out
          have BWd : Hid (Below w1.heap.size w1 wr.drew) := BW.out.drew
          have hszd : Hid (w1.heap.size + 2 ≤ wr.drew.heap.size) := hsz.out
          clear RX RG OWk BW OW hsz k0 k1 k2 k3 kl
          revert hHeld HROWd HGLd HOWd BWd hszd
          generalize wr.drew = wQ
          intro hHeld HROWd HGLd HOWd BWd hszd
          refine restL_pure (i := 0) (v := ?va1) rfl (by kernel_rfl) (by kernel_rfl) (by kernel_rfl) (fun _ _ _ h => h) (Or.inl ⟨by rfl, ?ya1⟩) ?ra1
          case ya1 => intro w' hSw; clear hSw; go_simp; try (with_reducible rfl)
          go_simp
          refine restL_pure (i := 3) (v := ?va2) rfl (by kernel_rfl) (by kernel_rfl) (by kernel_rfl) (fun _ _ _ h => h) (Or.inl ⟨by rfl, ?ya2⟩) ?ra2
          case ya2 => intro w' hSw; clear hSw; go_simp; try (with_reducible rfl)
          go_simp
          refine restL_pure (i := 4) (v := ?va3) rfl (by kernel_rfl) (by kernel_rfl) (by kernel_rfl) (fun _ _ _ h => h) (Or.inl ⟨by rfl, ?ya3⟩) ?ra3
          case ya3 => intro w' hSw; clear hSw; go_simp; try (with_reducible rfl)
          go_simp
          refine restL_pure (i := 5) (v := ?va4) rfl (by kernel_rfl) (by kernel_rfl) (by kernel_rfl) (fun _ _ _ h => h) (Or.inl ⟨by rfl, ?ya4⟩) ?ra4
          case ya4 => intro w' hSw; clear hSw; go_simp; try (with_reducible rfl)
          go_simp
          refine restL_pure (i := 6) (v := ?va5) rfl (by kernel_rfl) (by kernel_rfl) (by kernel_rfl) (fun _ _ _ h => h) (Or.inl ⟨by rfl, ?ya5⟩) ?ra5
          case ya5 => intro w' hSw; clear hSw; go_simp; try (with_reducible rfl)
          go_simp
          refine restL_pure (i := 7) (v := ?va6) rfl (by kernel_rfl) (by kernel_rfl) (by kernel_rfl) (fun _ _ _ h => h) (Or.inl ⟨by rfl, ?ya6⟩) ?ra6
          case ya6 => intro w' hSw; clear hSw; go_simp; try (with_reducible rfl)
          go_simp
          refine restL_pure (i := 8) (v := ?va7) rfl (by kernel_rfl) (by kernel_rfl) (by kernel_rfl) (fun _ _ _ h => h) (Or.inl ⟨by rfl, ?ya7⟩) ?ra7
          case ya7 => intro w' hSw; clear hSw; go_simp; try (with_reducible rfl)
          go_simp
          refine restL_take (i := 1) (v := ?va8) [[11], [12], [13]] rfl (by kernel_rfl) (by kernel_rfl) (by kernel_rfl) (by kernel_rfl) (fun _ _ _ h => h) (Or.inl ⟨by rfl, ?ya8⟩) hHeld ?ra8
          case ya8 =>
            intro w' hSw
            have hSh : Hid (Row w' (w1.heap.size + 1) 24 [.int .i64 W, .int .i64 Hh, .int .i64 E, .slice XA kk xc]) := hSw.1
            have hSp : Hid (Row w' w1.heap.size 24 [.int .i64 W, .int .i64 Hh, .int .i64 E, .slice GAd gn gc]) := hSw.2
            clear hSw
            have z0 := hSh.out.cell 0
            have z1 := hSh.out.cell 1
            have z2 := hSh.out.cell 2
            have z3 := hSh.out.cell 3
            have zl := hSh.out.lt
            simp only [List.getElem?_cons_zero, List.getElem?_cons_succ] at z0 z1 z2 z3
            have y0 := hSp.out.cell 0
            have y1 := hSp.out.cell 1
            have y2 := hSp.out.cell 2
            have y3 := hSp.out.cell 3
            have yl := hSp.out.lt
            simp only [List.getElem?_cons_zero, List.getElem?_cons_succ] at y0 y1 y2 y3
            go_simp
            try (with_reducible rfl)
          go_simp
          refine restL_take (i := 2) (v := ?va9) [[11, 9], [12], [13]] rfl (by kernel_rfl) (by kernel_rfl) (by kernel_rfl) (by kernel_rfl) (fun _ _ _ h => h) (Or.inl ⟨by rfl, ?ya9⟩) hHeld ?ra9
          case ya9 =>
            intro w' hSw
            have hSh : Hid (Row w' (w1.heap.size + 1) 24 [.int .i64 W, .int .i64 Hh, .int .i64 E, .slice XA kk xc]) := hSw.1
            have hSp : Hid (Row w' w1.heap.size 24 [.int .i64 W, .int .i64 Hh, .int .i64 E, .slice GAd gn gc]) := hSw.2
            clear hSw
            have z0 := hSh.out.cell 0
            have z1 := hSh.out.cell 1
            have z2 := hSh.out.cell 2
            have z3 := hSh.out.cell 3
            have zl := hSh.out.lt
            simp only [List.getElem?_cons_zero, List.getElem?_cons_succ] at z0 z1 z2 z3
            have y0 := hSp.out.cell 0
            have y1 := hSp.out.cell 1
            have y2 := hSp.out.cell 2
            have y3 := hSp.out.cell 3
            have yl := hSp.out.lt
            simp only [List.getElem?_cons_zero, List.getElem?_cons_succ] at y0 y1 y2 y3
            go_simp
            try (with_reducible rfl)
          go_simp
          refine restL_one (i := 9) (by kernel_rfl) rfl (fun K hK => ?_)
          go_simp
          go_at_call 40
          refine (rGGet_anyU g GAd gn gc W Hh E HGE.out ((x : Int) + dx) ((y : Int) + dy) wQ (HG.out.up BWd.out)).mono ?_
          rw [HGV.out]
          rintro e w4 ⟨rfl, hb4⟩
          have HROWp : Hid (Row w4 (w1.heap.size + 1) 24 [.int .i64 W, .int .i64 Hh, .int .i64 E, .slice XA kk xc]) := rowCells HROWd.out hb4
          have HGLp : Hid (Row w4 w1.heap.size 24 [.int .i64 W, .int .i64 Hh, .int .i64 E, .slice GAd gn gc]) := rowCells HGLd.out hb4
          have HOWp : Hid (w4.ownsRow (w1.heap.size + 2) 3 1 (.slice XA kk xc) kk (ints (mvCells p dx dy kk))) := own_below HOWd.out hb4 (Nat.le_refl _)
          have BWp : Hid (Below w1.heap.size w1 w4) := below_on2 BWd.out hb4
          have hszp : Hid (w1.heap.size + 2 ≤ w4.heap.size) := Nat.le_trans hszd.out hb4.size
          have hszq := hszp.out
          have hbl4 := HROWp.out.lt
          clear hb4 hHeld HROWd HGLd HOWd BWd hszd
          refine hK.out _ _ (fun _ => ?keep) (fun hHeld => ?_)
          case keep => exact ⟨HROWp.out, HGLp.out⟩
          have hHeld := hHeld rfl
          clear hK K
          try go_simp
          refine restL_one (i := 10) (by kernel_rfl) rfl (fun K hK => ?_)
          go_simp
          refine hK.out _ _ (fun _ => ?keep) (fun hHeld => ?_)
          case keep => exact ⟨HROWp.out.alloc _, HGLp.out.alloc _⟩
          have hHeld := hHeld rfl
          clear hK K
          try go_simp
          refine restL_one (i := 11) (by kernel_rfl) rfl (fun K hK => ?_)
          refine step_app rfl (.tmp 57) (.tmp 66) 22 rfl (w1.heap.size + 2) 3 (.int .i64 0) 1 8 Try.underlying22 int_infoR rfl (by decide) (by decide) (.slice XA kk xc) kk (ints (mvCells p dx dy kk)) rfl ?own (w4.heap.size + 1) (some ⟨w4.heap.size, 0, none⟩) 1 1 [.int .i64 gv] rfl ?rd ?one ?hb ?hbase ?_
          case own => exact HOWp.out.alloc _
          case rd => exact Rd.lit w4 #[.int .i64 gv] 3 (sz := 1) (m := 1) rfl
          case one => first | (intro u hu; simp at hu; subst hu; rfl) | rfl
          case hb => omega
          case hbase => first | (simp; omega) | omega
          intro v' w' hown' hgrow' hat'
          obtain ⟨VA, vc, rfl, _⟩ := Rd.own hown'
          have HROWq : Hid (Row w' (w1.heap.size + 1) 24 [.int .i64 W, .int .i64 Hh, .int .i64 E, .slice XA kk xc]) := (HROWp.out.alloc _).grown hgrow' (fun e => own_ne_row HOWp.out HROWp.out (by decide) e.symm)
          have HGLq : Hid (Row w' w1.heap.size 24 [.int .i64 W, .int .i64 Hh, .int .i64 E, .slice GAd gn gc]) := (HGLp.out.alloc _).grown hgrow' (fun e => own_ne_row HOWp.out HGLp.out (by decide) e.symm)
          have HOWq : Hid (w'.ownsRow (w1.heap.size + 2) 3 1 (.slice VA (kk + 1) vc) (kk + 1) (ints (mvCells p dx dy (kk + 1)))) := (by show World.ownsRow _ _ _ _ _ _ _; rw [← HSN.out]; exact hown')
          have BWq : Hid (Below w1.heap.size w1 w') := (BWp.out.alloc (by omega) _).grown hgrow' (by simp; omega) (fun k hk => by have := (HOWp.out.lt k hk).1; omega)
          have hszr : Hid (w1.heap.size + 2 ≤ w'.heap.size) := (by show _ ≤ _; have := hgrow'.size; simp at this; omega)
          have q3 := HROWq.out.cell 3
          have qf := HROWq.out.frozen 3
          have ql := HROWq.out.lt
          simp only [List.getElem?_cons_zero, List.getElem?_cons_succ] at q3
          clear hown' hgrow' hat' HROWp HGLp HOWp BWp hszp hszq
          refine hK.out _ _ (fun h => absurd h (by decide)) (fun _ => ?_)
          clear hK K
          try go_simp
          refine restL_pure (i := 12) (v := ?va10) rfl (by kernel_rfl) (by kernel_rfl) (by kernel_rfl) (fun _ _ _ h => h) (Or.inl ⟨by rfl, ?ya10⟩) ?ra10
          case ya10 => intro w' hSw; clear hSw; go_simp; try (with_reducible rfl)
          go_simp
          refine restL_one (i := 13) (by kernel_rfl) rfl (fun K hK => ?_)
          go_simp
          refine hK.out _ _ (fun h => absurd h (by decide)) (fun _ => ?_)
          clear hK K
          try go_simp
          refine restL_done (by kernel_rfl) ?_ _
          have HX8 : Hid (Row (World.setCell w' ⟨w1.heap.size + 1, 3, none⟩ (.slice VA (kk + 1) vc)) (w1.heap.size + 1) 24 [.int .i64 W, .int .i64 Hh, .int .i64 E, .slice VA (kk + 1) vc]) := HROWq.out.set 3 _
          have HG8 : Hid (Row (World.setCell w' ⟨w1.heap.size + 1, 3, none⟩ (.slice VA (kk + 1) vc)) w1.heap.size 24 [.int .i64 W, .int .i64 Hh, .int .i64 E, .slice GAd gn gc]) := HGLq.out.far (p := ⟨w1.heap.size + 1, 3, none⟩) (by show w1.heap.size ≠ w1.heap.size + 1; omega) _
          have HO8 : Hid (World.ownsRow (World.setCell w' ⟨w1.heap.size + 1, 3, none⟩ (.slice VA (kk + 1) vc)) (w1.heap.size + 2) 3 1 (.slice VA (kk + 1) vc) (kk + 1) (ints (mvCells p dx dy (kk + 1)))) := own_set (p := ⟨w1.heap.size + 1, 3, none⟩) HOWq.out HROWq.out (by decide) _
          have HB8 : Hid (Below w1.heap.size w1 (World.setCell w' ⟨w1.heap.size + 1, 3, none⟩ (.slice VA (kk + 1) vc))) := BWq.out.setCell (p := ⟨w1.heap.size + 1, 3, none⟩) (Nat.le_succ _) _
          have HS8 : Hid (w1.heap.size + 2 ≤ (World.setCell w' ⟨w1.heap.size + 1, 3, none⟩ (.slice VA (kk + 1) vc)).heap.size) := (by show _ ≤ _; rw [World.size_setCell]; exact hszr.out)
          clear HROWq HGLq HOWq BWq hszr q3 qf ql
          revert HX8 HG8 HO8 HB8 HS8
          generalize World.setCell w' ⟨w1.heap.size + 1, 3, none⟩ (.slice VA (kk + 1) vc) = w8
          intro HX8 HG8 HO8 HB8 HS8
          go_wp2
          go_roundg (W - (x + 1))
          case measure => omega
          case rel =>
            refine ⟨x + 1, .slice VA (kk + 1) vc, by omega, by omega, by go_num, HB8.out, HS8.out, HG8.out, HX8.out, (show World.ownsRow _ _ _ _ _ _ _ from ?_)⟩
            rw [← Nat.add_assoc, ← HKK.out]
            exact HO8.out
        · have hlxz : ¬ (x : Int) < (W : Int) := by omega
          go_wp2
          go_roundg (Hh - (y + 1))
          case measure => omega
          case rel =>
            refine ⟨y + 1, v, by omega, by omega, by go_num, BW, hsz, RG, RX, (show World.ownsRow _ _ _ _ _ _ _ from ?_)⟩
            rw [show (y + 1) * W = y * W + x by rw [Nat.add_mul, Nat.one_mul, show x = W by omega]]
            exact OW.out
    · have hltz : ¬ (y : Int) < (Hh : Int) := by omega
      obtain rfl : Hh = y := by omega
      obtain ⟨cnt, hcnt⟩ : ∃ cnt, cnt = Hh * W := ⟨_, rfl⟩
      have OWk : Hid (wr.ownsRow (w1.heap.size + 2) 3 1 v cnt (ints (mvCells p dx dy cnt))) := by rw [hcnt]; exact OW.out
      rw [← hcnt] at HMG
      have hcn : cnt ≤ 4096 := by rw [hcnt]; exact hcb
      clear hcnt OW
      obtain ⟨XA, xc, rfl, _⟩ := Rd.own OWk.out
      have RZr : Hid (Row wr (w.heap.size + 1) 28 [.int .i64 0, .int .i64 0, .int .i64 0, .slice none 0 0]) := rowCells RZ.out BW.out
      have RAr : Hid (Row wr w.heap.size 28 [.int .i64 p.w, .int .i64 p.h, .int .i64 p.edge, .slice A n c]) := rowCells RA.out BW.out
      have HBr : Hid (Below w.heap.size w wr) := below_on2 HB.out BW.out
      have HMA : Hid (GAt wr (movedG p dx dy) XA cnt) := by
        show GAt _ _ _ _
        refine ⟨?_, by unfold maxLen; omega⟩
        rw [HMG.out]
        exact Rd.of_own OWk.out
      have e0 := RX.out.cell 0
      have e1 := RX.out.cell 1
      have e2 := RX.out.cell 2
      have e3 := RX.out.cell 3
      have el := RX.out.lt
      simp only [List.getElem?_cons_zero, List.getElem?_cons_succ] at e0 e1 e2 e3
      have r0 := RAr.out.cell 0
      have r1 := RAr.out.cell 1
      have r2 := RAr.out.cell 2
      have r3 := RAr.out.cell 3
      have rl := RAr.out.lt
      simp only [List.getElem?_cons_zero, List.getElem?_cons_succ] at r0 r1 r2 r3
      go_wp2_with fail
      have HC := rPack_any (movedG p dx dy) XA cnt xc n wr HMA.out
      rw [HPE.out, HPP.out, HMG.out] at HC
      refine HC.mono ?_
      rintro e w5 ⟨RAd, rn, rc, M, gs, rfl, hpo, hpl, hb5⟩
      have RZ5 : Hid (Row w5 (w.heap.size + 1) 28 [.int .i64 0, .int .i64 0, .int .i64 0, .slice none 0 0]) := rowCells RZr.out hb5
      have HB5 : Hid (Below w.heap.size w w5) := below_on2 HBr.out hb5
      have HPO : Hid (POwn w5 wr.heap.size (.slice RAd rn rc) M gs (moveP p dx dy).words) := hpo
      have HPL : Hid ((moveP p dx dy).words.length = rn ∧ rn ≤ 3 ∧ M ≤ 1024) := hpl
      have HLT : Hid (w.heap.size + 1 < wr.heap.size) := RZr.out.lt
      clear hpo hpl hb5 HC e0 e1 e2 e3 el r0 r1 r2 r3 rl
      have d0 := RZ5.out.cell 0
      have d1 := RZ5.out.cell 1
      have d2 := RZ5.out.cell 2
      have d3 := RZ5.out.cell 3
      have dl := RZ5.out.lt
      simp only [List.getElem?_cons_zero, List.getElem?_cons_succ] at d0 d1 d2 d3
      have f0 := RZ5.out.frozen 0
      have f1 := RZ5.out.frozen 1
      have f2 := RZ5.out.frozen 2
      have f3 := RZ5.out.frozen 3
      go_wp2
      obtain ⟨hbl, RZ4, _⟩ := put4 (.int .i64 (moveP p dx dy).w) (.int .i64 (moveP p dx dy).h) (.int .i64 (moveP p dx dy).edge) (.slice RAd rn rc) RZ5.out (Nat.le_succ w.heap.size) HB5.out
      have hpo := HPO.out.far4 (.int .i64 (moveP p dx dy).w) (.int .i64 (moveP p dx dy).h) (.int .i64 (moveP p dx dy).edge) (.slice RAd rn rc) RZ5.out (by decide) HLT.out
      have r0 := RZ4.cell 0
      have r1 := RZ4.cell 1
      have r2 := RZ4.cell 2
      have r3 := RZ4.cell 3
      simp only [List.getElem?_cons_zero, List.getElem?_cons_succ] at r0 r1 r2 r3
      clear RZ4
      revert hbl hpo r0 r1 r2 r3
      generalize World.setCell (World.setCell (World.setCell (World.setCell w5 ⟨w.heap.size + 1, 0, none⟩ (.int .i64 (moveP p dx dy).w)) ⟨w.heap.size + 1, 1, none⟩ (.int .i64 (moveP p dx dy).h)) ⟨w.heap.size + 1, 2, none⟩ (.int .i64 (moveP p dx dy).edge)) ⟨w.heap.size + 1, 3, none⟩ (.slice RAd rn rc) = wz
      intro hbl hpo r0 r1 r2 r3
      refine bodyPost_ret (v := .tuple #[.agg #[.int .i64 (moveP p dx dy).w, .int .i64 (moveP p dx dy).h, .int .i64 (moveP p dx dy).edge, .slice RAd rn rc], .int .i64 0]) (by simp [results, Try.results24, go_sem, r0, r1, r2, r3]) rfl ?_
      rw [HCE.out.1, HCE.out.2]
      exact ⟨RAd, rn, rc, M, gs, rfl, hpo.base (by have := HLT.out; omega), HPL.out, hbl⟩
theorem rPlMove_any (p : Pln) (A : Option Addr) (n c : Nat) (sl : List Sl) (dx dy : Int) (w : World) (h : PAt w p A n sl) :
    Calls Try.prog 24 #[.agg #[.int .i64 p.w, .int .i64 p.h, .int .i64 p.edge, .slice A n c], .int .i64 dx, .int .i64 dy] w (PPost (moveR p dx dy) (moveErr p dx dy) w) := by
  by_cases hb : rightPl p = true ∧ offOk dx dy = true
  · exact rMove_good p A n c sl dx dy w h hb.1 hb.2
  · exact rMove_bad p A n c sl dx dy w h (by unfold moveErr; rw [if_neg hb]; decide)
end Go.Proofs.Ytfknooffjhncgaa
