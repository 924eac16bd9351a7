/-
  The reference's Next, walked.
-/
import Derived.Test.YtdkfaphclhaiaaaNNext
import Derived.Test.YtdkfaphclhaiaaaApp
import Derived.Test.YtdkfaphclhaiaaaLFrm
import Derived.Test.YtdkfaphclhaiaaaGPost
namespace Go.Proofs.Ytdkfaphclhaiaaa
open Go.RowKit
set_option linter.unusedSimpArgs false
set_option linter.unusedVariables false
theorem hoodIn_take (g : Grd) (l : List Pt) (x y : Int) (j : Nat) (h : j < l.length) : ints ((hoodIn g l x y).take (j + 1)) = ints ((hoodIn g l x y).take j) ++ [.int .i64 (getF g (x + (l.getD j default).x) (y + (l.getD j default).y))] := by
  rw [il_snoc _ _ (by rw [hoodIn_length]; exact h), hoodIn_getD g l x y j h]; simp [ints]
/-- What a call returns that returns a grid. -/
def GridPost (r : Grd) (w : World) (e : Ending) (w' : World) : Prop :=
  ∃ (A : Option Addr) (n c : Nat), e = .returned (.agg #[.int .i64 r.w, .int .i64 r.h, .int .i64 r.edge, .slice A n c]) ∧ GAt w' r A n ∧ NewOr A n 0 w.heap.size ∧ Below w.heap.size w w'
set_option maxRecDepth 100000 in
set_option maxHeartbeats 8000000 in
theorem rNext_any (t : Tre) (g : Grd) (HA NA A : Option Addr) (hn hc nn nc n ac : Nat) (sl : List Sl) (w : World) (ht : TAt w t HA NA hn nn sl) (hg : GAt w g A n) (hok : OkTG t g) :
    Calls Try.prog 25 #[.agg #[.int .i64 t.states, .slice HA hn hc, .slice NA nn nc], .agg #[.int .i64 g.w, .int .i64 g.h, .int .i64 g.edge, .slice A n ac]] w (GridPost (nextG t g) w) := by
  have HT : Hid (TAt w t HA NA hn nn sl) := ht
  have HG : Hid (GAt w g A n) := hg
  have HL : Hid (g.cells.length = n) := hg.cl
  have HHL : Hid (t.hood.length = hn) := ht.hl
  have HOK : Hid (OkTG t g) := hok
  obtain ⟨g1, g2, g3⟩ := rightG_parts hok.rg
  obtain ⟨⟨s1, s2⟩, ⟨s3, s4⟩, s5, _⟩ := sizedF_parts g1
  obtain ⟨W, hW⟩ : ∃ W : Nat, g.w = (W : Int) := ⟨g.w.toNat, by omega⟩
  obtain ⟨Hh, hH⟩ : ∃ Hh : Nat, g.h = (Hh : Int) := ⟨g.h.toNat, by omega⟩
  have HW : Hid (g.w = (W : Int)) := hW
  have HH : Hid (g.h = (Hh : Int)) := hH
  have hnWH : n = Hh * W := by
    have h9 := g2
    rw [HL.out, hW, hH, Int.mul_comm] at h9
    exact_mod_cast h9
  have HNWH : Hid (n = Hh * W) := hnWH
  have hn4 : n ≤ 4096 := by rw [← g2, HL.out] at s5; omega
  have hW1 : 1 ≤ W ∧ W ≤ 256 := by omega
  have hH1 : 1 ≤ Hh ∧ Hh ≤ 256 := by omega
  obtain ⟨hp1, hp2⟩ := hood_pos hok.rt
  rw [HHL.out] at hp1 hp2
  clear ht hg hok g1 g2 g3 s1 s2 s3 s4 s5 hW hH hnWH
  go_enter Try.func25, Try.ntmps25
  go_wp2
  have RT1 : Hid (Row (World.alloc (World.alloc (World.alloc (World.alloc w (.cells #[.int .i64 t.states, .slice HA hn hc, .slice NA nn nc] 25)) (.cells #[.int .i64 g.w, .int .i64 g.h, .int .i64 g.edge, .slice A n ac] 28)) (.cells #[.int .i64 0, .int .i64 0, .int .i64 0, .slice none 0 0] 28)) (.cells #[.int .i64 g.w, .int .i64 g.h, .int .i64 g.edge, .slice none 0 0] 28)) w.heap.size 25 [.int .i64 t.states, .slice HA hn hc, .slice NA nn nc]) := ((((Row.new w 25 [.int .i64 t.states, .slice HA hn hc, .slice NA nn nc]).alloc _).alloc _).alloc _)
  have RG1 : Hid (Row (World.alloc (World.alloc (World.alloc (World.alloc w (.cells #[.int .i64 t.states, .slice HA hn hc, .slice NA nn nc] 25)) (.cells #[.int .i64 g.w, .int .i64 g.h, .int .i64 g.edge, .slice A n ac] 28)) (.cells #[.int .i64 0, .int .i64 0, .int .i64 0, .slice none 0 0] 28)) (.cells #[.int .i64 g.w, .int .i64 g.h, .int .i64 g.edge, .slice none 0 0] 28)) (w.heap.size + 1) 28 [.int .i64 g.w, .int .i64 g.h, .int .i64 g.edge, .slice A n ac]) := (((rowNew1 w _ 28 [.int .i64 g.w, .int .i64 g.h, .int .i64 g.edge, .slice A n ac]).alloc _).alloc _)
  have RZ1 : Hid (Row (World.alloc (World.alloc (World.alloc (World.alloc w (.cells #[.int .i64 t.states, .slice HA hn hc, .slice NA nn nc] 25)) (.cells #[.int .i64 g.w, .int .i64 g.h, .int .i64 g.edge, .slice A n ac] 28)) (.cells #[.int .i64 0, .int .i64 0, .int .i64 0, .slice none 0 0] 28)) (.cells #[.int .i64 g.w, .int .i64 g.h, .int .i64 g.edge, .slice none 0 0] 28)) (w.heap.size + 1 + 1) 28 [.int .i64 0, .int .i64 0, .int .i64 0, .slice none 0 0]) := ((rowNew2 w _ _ 28 [.int .i64 0, .int .i64 0, .int .i64 0, .slice none 0 0]).alloc _)
  have RO1 : Hid (Row (World.alloc (World.alloc (World.alloc (World.alloc w (.cells #[.int .i64 t.states, .slice HA hn hc, .slice NA nn nc] 25)) (.cells #[.int .i64 g.w, .int .i64 g.h, .int .i64 g.edge, .slice A n ac] 28)) (.cells #[.int .i64 0, .int .i64 0, .int .i64 0, .slice none 0 0] 28)) (.cells #[.int .i64 g.w, .int .i64 g.h, .int .i64 g.edge, .slice none 0 0] 28)) (w.heap.size + 1 + 1 + 1) 28 [.int .i64 g.w, .int .i64 g.h, .int .i64 g.edge, .slice none 0 0]) := (by
    have h0 := Row.new (World.alloc (World.alloc (World.alloc w (.cells #[.int .i64 t.states, .slice HA hn hc, .slice NA nn nc] 25)) (.cells #[.int .i64 g.w, .int .i64 g.h, .int .i64 g.edge, .slice A n ac] 28)) (.cells #[.int .i64 0, .int .i64 0, .int .i64 0, .slice none 0 0] 28)) 28 [.int .i64 g.w, .int .i64 g.h, .int .i64 g.edge, .slice none 0 0]
    simp only [World.size_alloc] at h0
    exact h0)
  have BW1 : Hid (Below w.heap.size w (World.alloc (World.alloc (World.alloc (World.alloc w (.cells #[.int .i64 t.states, .slice HA hn hc, .slice NA nn nc] 25)) (.cells #[.int .i64 g.w, .int .i64 g.h, .int .i64 g.edge, .slice A n ac] 28)) (.cells #[.int .i64 0, .int .i64 0, .int .i64 0, .slice none 0 0] 28)) (.cells #[.int .i64 g.w, .int .i64 g.h, .int .i64 g.edge, .slice none 0 0] 28))) := (by show Below _ _ _; go_grown)
  revert RT1 RG1 RZ1 RO1 BW1
  generalize (World.alloc (World.alloc (World.alloc (World.alloc w (.cells #[.int .i64 t.states, .slice HA hn hc, .slice NA nn nc] 25)) (.cells #[.int .i64 g.w, .int .i64 g.h, .int .i64 g.edge, .slice A n ac] 28)) (.cells #[.int .i64 0, .int .i64 0, .int .i64 0, .slice none 0 0] 28)) (.cells #[.int .i64 g.w, .int .i64 g.h, .int .i64 g.edge, .slice none 0 0] 28)) = w1
  intro RT1 RG1 RZ1 RO1 BW1
  go_loopg [6, 7, 8, 9] Hh (fun gg s6 _ _ _ wr => ∃ (y : Nat) (v : Value), y ≤ Hh ∧ Hh - y ≤ gg ∧ s6 = .int .i64 y ∧ Aside (Below w.heap.size w wr) ∧ Aside (Row wr w.heap.size 25 [.int .i64 t.states, .slice HA hn hc, .slice NA nn nc]) ∧ Aside (Row wr (w.heap.size + 1) 28 [.int .i64 g.w, .int .i64 g.h, .int .i64 g.edge, .slice A n ac]) ∧ Aside (Row wr (w.heap.size + 1 + 1) 28 [.int .i64 0, .int .i64 0, .int .i64 0, .slice none 0 0]) ∧ Aside (Row wr (w.heap.size + 1 + 1 + 1) 28 [.int .i64 g.w, .int .i64 g.h, .int .i64 g.edge, v]) ∧ Aside (wr.ownsRow w.heap.size 3 1 v (y * W) (ints (nextTo t g W (y * W)))))
  case atStart => exact ⟨0, _, Nat.zero_le _, by omega, rfl, BW1.out, RT1.out, RG1.out, RZ1.out, RO1.out, (by rw [Nat.zero_mul]; exact World.ownsRow_nil _ _ _ _)⟩
  case round =>
    clear RT1 RG1 RZ1 RO1 BW1
    obtain ⟨y, v, hy, hgy, rfl, BW, RT, RG, RZ, RO, OW⟩ := hrel
    have k0 := RG.out.cell 0
    have k1 := RG.out.cell 1
    have k2 := RG.out.cell 2
    have k3 := RG.out.cell 3
    have kl := RG.out.lt
    simp only [List.getElem?_cons_zero, List.getElem?_cons_succ] at k0 k1 k2 k3
    by_cases hly : y < Hh
    · have hlyz : (y : Int) < g.h := by have := HH.out; omega
      go_wp2
      clear k0 k1 k2 k3 kl
      go_loopg [7, 8, 9] W (fun gg s7 _ _ wr => ∃ (x : Nat) (v : Value), x ≤ W ∧ W - x ≤ gg ∧ s7 = .int .i64 x ∧ Aside (Below w.heap.size w wr) ∧ Aside (Row wr w.heap.size 25 [.int .i64 t.states, .slice HA hn hc, .slice NA nn nc]) ∧ Aside (Row wr (w.heap.size + 1) 28 [.int .i64 g.w, .int .i64 g.h, .int .i64 g.edge, .slice A n ac]) ∧ Aside (Row wr (w.heap.size + 1 + 1) 28 [.int .i64 0, .int .i64 0, .int .i64 0, .slice none 0 0]) ∧ Aside (Row wr (w.heap.size + 1 + 1 + 1) 28 [.int .i64 g.w, .int .i64 g.h, .int .i64 g.edge, v]) ∧ Aside (wr.ownsRow w.heap.size 3 1 v (y * W + x) (ints (nextTo t g W (y * W + x)))))
      case atStart => exact ⟨0, v, Nat.zero_le _, by omega, rfl, BW, RT, RG, RZ, RO, OW⟩
      case round =>
        clear BW RT RG RZ RO OW
        obtain ⟨x, v, hx, hgx, rfl, BW, RT, RG, RZ, RO, OW⟩ := hrel
        have k0 := RG.out.cell 0
        have k1 := RG.out.cell 1
        have k2 := RG.out.cell 2
        have k3 := RG.out.cell 3
        have kl := RG.out.lt
        simp only [List.getElem?_cons_zero, List.getElem?_cons_succ] at k0 k1 k2 k3
        by_cases hlx : x < W
        · have hlxz : (x : Int) < g.w := by have := HW.out; omega
          obtain ⟨kk, hkk⟩ : ∃ kk, kk = y * W + x := ⟨_, rfl⟩
          have hkn : kk < n := by rw [hkk, HNWH.out]; exact cell_in hlx hly
          have HKK : Hid (kk = y * W + x) := hkk
          have HIL : Hid ((hoodIn g t.hood (x : Int) (y : Int)).length = hn) := (by show _ = _; rw [hoodIn_length, HHL.out])
          have HIA : Hid ((hoodIn g t.hood (x : Int) (y : Int)).all (stateIn t) = true) := hoodIn_all HOK.out _ _ _
          have OWk : Hid (wr.ownsRow w.heap.size 3 1 v kk (ints (nextTo t g W kk))) := (by have h9 := OW.out; rw [← hkk] at h9; exact h9)
          have BWx : Hid (Below w.heap.size w wr) := BW.out
          have RTx : Hid (Row wr w.heap.size 25 [.int .i64 t.states, .slice HA hn hc, .slice NA nn nc]) := RT.out
          have RGx : Hid (Row wr (w.heap.size + 1) 28 [.int .i64 g.w, .int .i64 g.h, .int .i64 g.edge, .slice A n ac]) := RG.out
          have RZx : Hid (Row wr (w.heap.size + 1 + 1) 28 [.int .i64 0, .int .i64 0, .int .i64 0, .slice none 0 0]) := RZ.out
          have ROx : Hid (Row wr (w.heap.size + 1 + 1 + 1) 28 [.int .i64 g.w, .int .i64 g.h, .int .i64 g.edge, v]) := RO.out
          clear hkk OW BW RT RG RZ RO
          go_wp2
          clear k0 k1 k2 k3 kl
          obtain ⟨wx, rfl⟩ : ∃ wx : World, wx = wr := ⟨_, rfl⟩
          go_loopg [8, 9] hn (fun gg s8 s9 wr => ∃ (j : Nat) (u : Value), j ≤ hn ∧ hn - j ≤ gg ∧ s9 = .int .i64 j ∧ s8 = u ∧ Aside (Below wx.heap.size wx wr) ∧ Aside (wr.ownsRow wx.heap.size 3 1 u j (ints ((hoodIn g t.hood (x : Int) (y : Int)).take j))))
          case atStart => exact ⟨0, _, Nat.zero_le _, by omega, rfl, rfl, Below.refl _ _, World.ownsRow_nil _ _ _ _⟩
          case round =>
            obtain ⟨j, u, hj, hgj, rfl, rfl, BN, OU⟩ := hrel
            have BWr : Hid (Below w.heap.size w wr) := below_on2 BWx.out BN.out
            obtain ⟨UA, uc, rfl, _⟩ := Rd.own OU.out
            by_cases hlj : j < hn
            · have hljz : (j : Int) < (hn : Int) := by omega
              obtain ⟨pd, rfl, hpb, hp0, hp1⟩ := (HT.out.up BWr.out).point hlj
              obtain ⟨pb1, pb2⟩ := hood_pt HOK.out.rt (k := j) (by rw [HHL.out]; exact hlj)
              have hsn := hoodIn_take g t.hood (x : Int) (y : Int) j (by rw [HHL.out]; exact hlj)
              generalize t.hood.getD j default = pt at hp0 hp1 pb1 pb2 hsn
              obtain ⟨px, py⟩ := pt
              dsimp only at hp0 hp1 pb1 pb2 hsn
              have HSN : Hid (ints ((hoodIn g t.hood (x : Int) (y : Int)).take (j + 1)) = ints ((hoodIn g t.hood (x : Int) (y : Int)).take j) ++ [.int .i64 (getF g ((x : Int) + px) ((y : Int) + py))]) := hsn
              have HCN : Hid (∀ W9, Below wr.heap.size wr W9 → W9.cell? (pd.add (j * 2)) = some (.int .i64 px) ∧ W9.cell? ⟨(pd.add (j * 2)).block, (pd.add (j * 2)).off + 1, none⟩ = some (.int .i64 py)) := fun W9 h9 => ⟨(h9.cell (by rw [add_block]; exact hpb)).trans hp0, (h9.cell (by show (pd.add (j * 2)).block < _; rw [add_block]; exact hpb)).trans hp1⟩
              have hwx : IntKind.i64.wrap ((x : Int) + px) = (x : Int) + px := IntWalk.i64_in _ (by omega)
              have hwy : IntKind.i64.wrap ((y : Int) + py) = (y : Int) + py := IntWalk.i64_in _ (by omega)
              obtain ⟨gv, hgv⟩ : ∃ gv, getF g ((x : Int) + px) ((y : Int) + py) = gv := ⟨_, rfl⟩
              have HGV : Hid (getF g ((x : Int) + px) ((y : Int) + py) = gv) := hgv
              rw [hgv] at HSN
              have RTr : Hid (Row wr w.heap.size 25 [.int .i64 t.states, .slice (some pd) hn hc, .slice NA nn nc]) := rowCells RTx.out BN.out
              have RGr : Hid (Row wr (w.heap.size + 1) 28 [.int .i64 g.w, .int .i64 g.h, .int .i64 g.edge, .slice A n ac]) := rowCells RGx.out BN.out
              have k0 := RTr.out.cell 0
              have k1 := RTr.out.cell 1
              have k2 := RTr.out.cell 2
              have kl := RTr.out.lt
              simp only [List.getElem?_cons_zero, List.getElem?_cons_succ] at k0 k1 k2
              go_wp2_with fail
              refine wp_region_L (fun w' => Row w' w.heap.size 25 [.int .i64 t.states, .slice (some pd) hn hc, .slice NA nn nc] ∧ Row w' (w.heap.size + 1) 28 [.int .i64 g.w, .int .i64 g.h, .int .i64 g.edge, .slice A n ac] ∧ w'.cell? (pd.add (j * 2)) = some (.int .i64 px) ∧ w'.cell? ⟨(pd.add (j * 2)).block, (pd.add (j * 2)).off + 1, none⟩ = some (.int .i64 py)) [20, 21] (by kernel_rfl) (by exact ⟨RTr.out.drew, RGr.out.drew, (HCN.out _ (Below.refl _ _).drew).1, (HCN.out _ (Below.refl _ _).drew).2⟩) (fun hHeld => ?_)
              have RTd : Hid (Row wr.drew w.heap.size 25 [.int .i64 t.states, .slice (some pd) hn hc, .slice NA nn nc]) := hHeld.1
              have RGd : Hid (Row wr.drew (w.heap.size + 1) 28 [.int .i64 g.w, .int .i64 g.h, .int .i64 g.edge, .slice A n ac]) := hHeld.2.1
              have BNd : Hid (Below wr.heap.size wr wr.drew) := (Below.refl _ _).drew
              have OUd : Hid (wr.drew.ownsRow wx.heap.size 3 1 (.slice UA j uc) j (ints ((hoodIn g t.hood (x : Int) (y : Int)).take j))) := OU.out
              have HSX : Hid (wx.heap.size ≤ wr.heap.size) := BN.out.size
              clear RTr RGr k0 k1 k2 kl hp0 hp1 hsn hgv
              revert hHeld RTd RGd BNd OUd
              generalize wr.drew = wQ
              intro hHeld RTd RGd BNd OUd
              refine restL_pure (i := 0) (v := ?va1) rfl (by kernel_rfl) (by kernel_rfl) (by kernel_rfl) (fun _ _ _ h => h) (Or.inl ⟨by rfl, ?ya1⟩) ?ra1
              case ya1 => intro w' hSw; clear hSw; go_simp; try (with_reducible rfl)
              go_simp
              refine restL_pure (i := 2) (v := ?va2) rfl (by kernel_rfl) (by kernel_rfl) (by kernel_rfl) (fun _ _ _ h => h) (Or.inl ⟨by rfl, ?ya2⟩) ?ra2
              case ya2 => intro w' hSw; clear hSw; go_simp; try (with_reducible rfl)
              go_simp
              refine restL_pure (i := 3) (v := ?va3) rfl (by kernel_rfl) (by kernel_rfl) (by kernel_rfl) (fun _ _ _ h => h) (Or.inl ⟨by rfl, ?ya3⟩) ?ra3
              case ya3 => intro w' hSw; clear hSw; go_simp; try (with_reducible rfl)
              go_simp
              refine restL_pure (i := 5) (v := ?va4) rfl (by kernel_rfl) (by kernel_rfl) (by kernel_rfl) (fun _ _ _ h => h) (Or.inl ⟨by rfl, ?ya4⟩) ?ra4
              case ya4 => intro w' hSw; clear hSw; go_simp; try (with_reducible rfl)
              go_simp
              refine restL_pure (i := 10) (v := ?va5) rfl (by kernel_rfl) (by kernel_rfl) (by kernel_rfl) (fun _ _ _ h => h) (Or.inl ⟨by rfl, ?ya5⟩) ?ra5
              case ya5 => intro w' hSw; clear hSw; go_simp; try (with_reducible rfl)
              go_simp
              refine restL_pure (i := 11) (v := ?va6) rfl (by kernel_rfl) (by kernel_rfl) (by kernel_rfl) (fun _ _ _ h => h) (Or.inl ⟨by rfl, ?ya6⟩) ?ra6
              case ya6 => intro w' hSw; clear hSw; go_simp; try (with_reducible rfl)
              go_simp
              refine restL_pure (i := 13) (v := ?va7) rfl (by kernel_rfl) (by kernel_rfl) (by kernel_rfl) (fun _ _ _ h => h) (Or.inl ⟨by rfl, ?ya7⟩) ?ra7
              case ya7 => intro w' hSw; clear hSw; go_simp; try (with_reducible rfl)
              go_simp
              refine restL_take (i := 1) (v := ?va8) [[20, 18], [21]] rfl (by kernel_rfl) (by kernel_rfl) (by kernel_rfl) (by kernel_rfl) (fun _ _ _ h => h) (Or.inl ⟨by rfl, ?ya8⟩) hHeld ?ra8
              case ya8 =>
                intro w' hSw
                have hSh : Hid (Row w' w.heap.size 25 [.int .i64 t.states, .slice (some pd) hn hc, .slice NA nn nc]) := hSw.1
                have hSp : Hid (Row w' (w.heap.size + 1) 28 [.int .i64 g.w, .int .i64 g.h, .int .i64 g.edge, .slice A n ac]) := hSw.2.1
                have hS3 := hSw.2.2.1
                have hS4 := hSw.2.2.2
                clear hSw
                have z0 := hSh.out.cell 0
                have z1 := hSh.out.cell 1
                have z2 := hSh.out.cell 2
                have zl := hSh.out.lt
                simp only [List.getElem?_cons_zero, List.getElem?_cons_succ] at z0 z1 z2
                have y0 := hSp.out.cell 0
                have y1 := hSp.out.cell 1
                have y2 := hSp.out.cell 2
                have y3 := hSp.out.cell 3
                have yl := hSp.out.lt
                simp only [List.getElem?_cons_zero, List.getElem?_cons_succ] at y0 y1 y2 y3
                go_simp
                try (with_reducible rfl)
              go_simp
              refine restL_take (i := 4) (v := ?va9) [[20, 18, 9, 8, 7, 6], [21]] rfl (by kernel_rfl) (by kernel_rfl) (by kernel_rfl) (by kernel_rfl) (fun _ _ _ h => h) (Or.inl ⟨by rfl, ?ya9⟩) hHeld ?ra9
              case ya9 =>
                intro w' hSw
                have hSh : Hid (Row w' w.heap.size 25 [.int .i64 t.states, .slice (some pd) hn hc, .slice NA nn nc]) := hSw.1
                have hSp : Hid (Row w' (w.heap.size + 1) 28 [.int .i64 g.w, .int .i64 g.h, .int .i64 g.edge, .slice A n ac]) := hSw.2.1
                have hS3 := hSw.2.2.1
                have hS4 := hSw.2.2.2
                clear hSw
                have z0 := hSh.out.cell 0
                have z1 := hSh.out.cell 1
                have z2 := hSh.out.cell 2
                have zl := hSh.out.lt
                simp only [List.getElem?_cons_zero, List.getElem?_cons_succ] at z0 z1 z2
                have y0 := hSp.out.cell 0
                have y1 := hSp.out.cell 1
                have y2 := hSp.out.cell 2
                have y3 := hSp.out.cell 3
                have yl := hSp.out.lt
                simp only [List.getElem?_cons_zero, List.getElem?_cons_succ] at y0 y1 y2 y3
                go_simp
                try (with_reducible rfl)
              go_simp
              refine restL_take (i := 6) (v := ?va10) [[20, 18, 9, 8, 7], [21]] rfl (by kernel_rfl) (by kernel_rfl) (by kernel_rfl) (by kernel_rfl) (fun _ _ _ h => h) (Or.inl ⟨by rfl, ?ya10⟩) hHeld ?ra10
              case ya10 =>
                intro w' hSw
                have hSh : Hid (Row w' w.heap.size 25 [.int .i64 t.states, .slice (some pd) hn hc, .slice NA nn nc]) := hSw.1
                have hSp : Hid (Row w' (w.heap.size + 1) 28 [.int .i64 g.w, .int .i64 g.h, .int .i64 g.edge, .slice A n ac]) := hSw.2.1
                have hS3 := hSw.2.2.1
                have hS4 := hSw.2.2.2
                clear hSw
                have z0 := hSh.out.cell 0
                have z1 := hSh.out.cell 1
                have z2 := hSh.out.cell 2
                have zl := hSh.out.lt
                simp only [List.getElem?_cons_zero, List.getElem?_cons_succ] at z0 z1 z2
                have y0 := hSp.out.cell 0
                have y1 := hSp.out.cell 1
                have y2 := hSp.out.cell 2
                have y3 := hSp.out.cell 3
                have yl := hSp.out.lt
                simp only [List.getElem?_cons_zero, List.getElem?_cons_succ] at y0 y1 y2 y3
                go_simp
                try (with_reducible rfl)
              go_simp
              refine restL_pure (i := 7) (v := ?va11) rfl (by kernel_rfl) (by kernel_rfl) (by kernel_rfl) (fun _ _ _ h => h) (Or.inl ⟨by rfl, ?ya11⟩) ?ra11
              case ya11 => intro w' hSw; clear hSw; go_simp; try (with_reducible rfl)
              go_simp
              refine restL_take (i := 8) (v := ?va12) [[20, 18, 9], [21]] rfl (by kernel_rfl) (by kernel_rfl) (by kernel_rfl) (by kernel_rfl) (fun _ _ _ h => h) (Or.inl ⟨by rfl, ?ya12⟩) hHeld ?ra12
              case ya12 =>
                intro w' hSw
                have hSh : Hid (Row w' w.heap.size 25 [.int .i64 t.states, .slice (some pd) hn hc, .slice NA nn nc]) := hSw.1
                have hSp : Hid (Row w' (w.heap.size + 1) 28 [.int .i64 g.w, .int .i64 g.h, .int .i64 g.edge, .slice A n ac]) := hSw.2.1
                have hS3 := hSw.2.2.1
                have hS4 := hSw.2.2.2
                clear hSw
                have z0 := hSh.out.cell 0
                have z1 := hSh.out.cell 1
                have z2 := hSh.out.cell 2
                have zl := hSh.out.lt
                simp only [List.getElem?_cons_zero, List.getElem?_cons_succ] at z0 z1 z2
                have y0 := hSp.out.cell 0
                have y1 := hSp.out.cell 1
                have y2 := hSp.out.cell 2
                have y3 := hSp.out.cell 3
                have yl := hSp.out.lt
                simp only [List.getElem?_cons_zero, List.getElem?_cons_succ] at y0 y1 y2 y3
                go_simp
                try (with_reducible rfl)
              go_simp
              refine restL_pure (i := 9) (v := ?va13) rfl (by kernel_rfl) (by kernel_rfl) (by kernel_rfl) (fun _ _ _ h => h) (Or.inl ⟨by rfl, ?ya13⟩) ?ra13
              case ya13 => intro w' hSw; clear hSw; go_simp; try (with_reducible rfl)
              go_simp
              refine restL_take (i := 12) (v := ?va14) [[20, 18, 17, 16, 15, 14], [21]] rfl (by kernel_rfl) (by kernel_rfl) (by kernel_rfl) (by kernel_rfl) (fun _ _ _ h => h) (Or.inl ⟨by rfl, ?ya14⟩) hHeld ?ra14
              case ya14 =>
                intro w' hSw
                have hSh : Hid (Row w' w.heap.size 25 [.int .i64 t.states, .slice (some pd) hn hc, .slice NA nn nc]) := hSw.1
                have hSp : Hid (Row w' (w.heap.size + 1) 28 [.int .i64 g.w, .int .i64 g.h, .int .i64 g.edge, .slice A n ac]) := hSw.2.1
                have hS3 := hSw.2.2.1
                have hS4 := hSw.2.2.2
                clear hSw
                have z0 := hSh.out.cell 0
                have z1 := hSh.out.cell 1
                have z2 := hSh.out.cell 2
                have zl := hSh.out.lt
                simp only [List.getElem?_cons_zero, List.getElem?_cons_succ] at z0 z1 z2
                have y0 := hSp.out.cell 0
                have y1 := hSp.out.cell 1
                have y2 := hSp.out.cell 2
                have y3 := hSp.out.cell 3
                have yl := hSp.out.lt
                simp only [List.getElem?_cons_zero, List.getElem?_cons_succ] at y0 y1 y2 y3
                go_simp
                try (with_reducible rfl)
              go_simp
              refine restL_take (i := 14) (v := ?va15) [[20, 18, 17, 16, 15], [21]] rfl (by kernel_rfl) (by kernel_rfl) (by kernel_rfl) (by kernel_rfl) (fun _ _ _ h => h) (Or.inl ⟨by rfl, ?ya15⟩) hHeld ?ra15
              case ya15 =>
                intro w' hSw
                have hSh : Hid (Row w' w.heap.size 25 [.int .i64 t.states, .slice (some pd) hn hc, .slice NA nn nc]) := hSw.1
                have hSp : Hid (Row w' (w.heap.size + 1) 28 [.int .i64 g.w, .int .i64 g.h, .int .i64 g.edge, .slice A n ac]) := hSw.2.1
                have hS3 := hSw.2.2.1
                have hS4 := hSw.2.2.2
                clear hSw
                have z0 := hSh.out.cell 0
                have z1 := hSh.out.cell 1
                have z2 := hSh.out.cell 2
                have zl := hSh.out.lt
                simp only [List.getElem?_cons_zero, List.getElem?_cons_succ] at z0 z1 z2
                have y0 := hSp.out.cell 0
                have y1 := hSp.out.cell 1
                have y2 := hSp.out.cell 2
                have y3 := hSp.out.cell 3
                have yl := hSp.out.lt
                simp only [List.getElem?_cons_zero, List.getElem?_cons_succ] at y0 y1 y2 y3
                go_simp
                try (with_reducible rfl)
              go_simp
              refine restL_pure (i := 15) (v := ?va16) rfl (by kernel_rfl) (by kernel_rfl) (by kernel_rfl) (fun _ _ _ h => h) (Or.inl ⟨by rfl, ?ya16⟩) ?ra16
              case ya16 => intro w' hSw; clear hSw; go_simp; try (with_reducible rfl)
              go_simp
              refine restL_take (i := 16) (v := ?va17) [[20, 18, 17], [21]] rfl (by kernel_rfl) (by kernel_rfl) (by kernel_rfl) (by kernel_rfl) (fun _ _ _ h => h) (Or.inl ⟨by rfl, ?ya17⟩) hHeld ?ra17
              case ya17 =>
                intro w' hSw
                have hSh : Hid (Row w' w.heap.size 25 [.int .i64 t.states, .slice (some pd) hn hc, .slice NA nn nc]) := hSw.1
                have hSp : Hid (Row w' (w.heap.size + 1) 28 [.int .i64 g.w, .int .i64 g.h, .int .i64 g.edge, .slice A n ac]) := hSw.2.1
                have hS3 := hSw.2.2.1
                have hS4 := hSw.2.2.2
                clear hSw
                have z0 := hSh.out.cell 0
                have z1 := hSh.out.cell 1
                have z2 := hSh.out.cell 2
                have zl := hSh.out.lt
                simp only [List.getElem?_cons_zero, List.getElem?_cons_succ] at z0 z1 z2
                have y0 := hSp.out.cell 0
                have y1 := hSp.out.cell 1
                have y2 := hSp.out.cell 2
                have y3 := hSp.out.cell 3
                have yl := hSp.out.lt
                simp only [List.getElem?_cons_zero, List.getElem?_cons_succ] at y0 y1 y2 y3
                go_simp
                try (with_reducible rfl)
              go_simp
              refine restL_pure (i := 17) (v := ?va18) rfl (by kernel_rfl) (by kernel_rfl) (by kernel_rfl) (fun _ _ _ h => h) (Or.inl ⟨by rfl, ?ya18⟩) ?ra18
              case ya18 => intro w' hSw; clear hSw; go_simp; try (with_reducible rfl)
              go_simp
              refine restL_one (i := 18) (by kernel_rfl) rfl (fun K hK => ?_)
              go_simp
              go_at_call 36
              have HCT := rGGet_any g A n ac ((x : Int) + px) ((y : Int) + py) wQ (HG.out.up (below_on2 BWr.out BNd.out))
              rw [HGV.out] at HCT
              with_reducible refine HCT.mono ?_
              clear HCT
              rintro e w4 ⟨rfl, hb⟩
              have RTp : Hid (Row w4 w.heap.size 25 [.int .i64 t.states, .slice (some pd) hn hc, .slice NA nn nc]) := rowCells RTd.out hb
              have RGp : Hid (Row w4 (w.heap.size + 1) 28 [.int .i64 g.w, .int .i64 g.h, .int .i64 g.edge, .slice A n ac]) := rowCells RGd.out hb
              have BNp : Hid (Below wr.heap.size wr w4) := below_on2 BNd.out hb
              have OUp : Hid (w4.ownsRow wx.heap.size 3 1 (.slice UA j uc) j (ints ((hoodIn g t.hood (x : Int) (y : Int)).take j))) := own_below OUd.out hb (Nat.le_refl _)
              have hszp := BNp.out.size
              have hszx := HSX.out
              clear hb hHeld RTd RGd BNd OUd
              refine hK.out _ _ (fun _ => ?keep) (fun hHeld => ?_)
              case keep => exact ⟨RTp.out, RGp.out, (HCN.out _ BNp.out).1, (HCN.out _ BNp.out).2⟩
              have hHeld := hHeld rfl
              clear hK K
              try go_simp
              refine restL_one (i := 19) (by kernel_rfl) rfl (fun K hK => ?_)
              go_simp
              refine hK.out _ _ (fun _ => ?keep) (fun hHeld => ?_)
              case keep => exact ⟨RTp.out.alloc _, RGp.out.alloc _, (HCN.out _ (BNp.out.alloc BNp.out.size _)).1, (HCN.out _ (BNp.out.alloc BNp.out.size _)).2⟩
              have hHeld := hHeld rfl
              clear hK K
              try go_simp
              refine restL_one (i := 20) (by kernel_rfl) rfl (fun K hK => ?_)
              refine step_app rfl (.tmp 36) (.tmp 55) 26 rfl wx.heap.size 3 (.int .i64 0) 1 8 Try.underlying26 int_infoN rfl (by decide) (by decide) (.slice UA j uc) j (ints ((hoodIn g t.hood (x : Int) (y : Int)).take j)) rfl ?own (w4.heap.size + 1) (some ⟨w4.heap.size, 0, none⟩) 1 1 [.int .i64 gv] rfl ?rd ?one ?hb ?hbase ?_
              case own => exact OUp.out.alloc _
              case rd => exact Rd.lit w4 #[.int .i64 gv] 3 (sz := 1) (m := 1) rfl
              case one => first | (intro u hu; simp at hu; subst hu; rfl) | rfl
              case hb => omega
              case hbase => first | (simp; omega) | omega
              intro v' w5 hown' hgrow' hat'
              obtain ⟨VB, vd, rfl, _⟩ := Rd.own hown'
              have OU5 : Hid (w5.ownsRow wx.heap.size 3 1 (.slice VB (j + 1) vd) (j + 1) (ints ((hoodIn g t.hood (x : Int) (y : Int)).take (j + 1)))) := (by show World.ownsRow _ _ _ _ _ _ _; rw [HSN.out]; exact hown')
              have BN5 : Hid (Below wx.heap.size wx w5) := ((below_on2 BN.out BNp.out).alloc (by omega) _).grown hgrow' (by simp; omega) (fun q hq => (OUp.out.lt q hq).1)
              clear hown' hgrow' hat' RTp RGp BNp OUp hszp hszx
              refine hK.out _ _ (fun h => absurd h (by decide)) (fun _ => ?_)
              clear hK K
              try go_simp
              refine restL_pure (i := 21) (v := ?va19) rfl (by kernel_rfl) (by kernel_rfl) (by kernel_rfl) (fun _ _ _ h => h) (Or.inl ⟨by rfl, ?ya19⟩) ?ra19
              case ya19 => intro w' hSw; clear hSw; go_simp; try (with_reducible rfl)
              go_simp
              refine restL_done (by kernel_rfl) ?_ _
              go_wp2
              go_roundg (hn - (j + 1))
              case measure => omega
              case rel => exact ⟨j + 1, _, by omega, by omega, by go_num, rfl, BN5.out, OU5.out⟩
            · have hljz : ¬ (j : Int) < (hn : Int) := by omega
              obtain rfl : hn = j := by omega
              have HIU : Hid (Rd wr wr.heap.size 1 UA hn (ints (hoodIn g t.hood (x : Int) (y : Int)))) := (by
                have h9 := OU.out
                rw [List.take_of_length_le (by rw [HIL.out]; exact Nat.le_refl _)] at h9
                exact Rd.of_own h9)
              have OWr : Hid (wr.ownsRow w.heap.size 3 1 v kk (ints (nextTo t g W kk))) := own_below OWk.out BN.out (Nat.le_refl _)
              obtain ⟨XA, xc, rfl, _⟩ := Rd.own OWr.out
              have RTr : Hid (Row wr w.heap.size 25 [.int .i64 t.states, .slice HA hn hc, .slice NA nn nc]) := rowCells RTx.out BN.out
              have RGr : Hid (Row wr (w.heap.size + 1) 28 [.int .i64 g.w, .int .i64 g.h, .int .i64 g.edge, .slice A n ac]) := rowCells RGx.out BN.out
              have RZr : Hid (Row wr (w.heap.size + 1 + 1) 28 [.int .i64 0, .int .i64 0, .int .i64 0, .slice none 0 0]) := rowCells RZx.out BN.out
              have ROr : Hid (Row wr (w.heap.size + 1 + 1 + 1) 28 [.int .i64 g.w, .int .i64 g.h, .int .i64 g.edge, .slice XA kk xc]) := rowCells ROx.out BN.out
              have HVL : Hid (nextTo t g W (kk + 1) = nextTo t g W kk ++ [valueT t (hoodIn g t.hood (x : Int) (y : Int))]) := (by
                show _ = _
                rw [nextTo_succ, HKK.out, (cell_of hlx).1, (cell_of hlx).2]; rfl)
              obtain ⟨nv, hnv⟩ : ∃ nv, valueT t (hoodIn g t.hood (x : Int) (y : Int)) = nv := ⟨_, rfl⟩
              have HNV : Hid (valueT t (hoodIn g t.hood (x : Int) (y : Int)) = nv) := hnv
              rw [hnv] at HVL
              have HVC : Hid (ints (nextTo t g W (kk + 1)) = ints (nextTo t g W kk) ++ [.int .i64 nv]) := (by show _ = _; rw [HVL.out]; simp [ints])
              clear hnv
              have k0 := RTr.out.cell 0
              have k1 := RTr.out.cell 1
              have k2 := RTr.out.cell 2
              have kl := RTr.out.lt
              simp only [List.getElem?_cons_zero, List.getElem?_cons_succ] at k0 k1 k2
              have of0 := ROr.out.frozen 0
              have of1 := ROr.out.frozen 1
              have of2 := ROr.out.frozen 2
              have of3 := ROr.out.frozen 3
              go_wp2_with fail
              refine wp_region_L (fun w' => Row w' w.heap.size 25 [.int .i64 t.states, .slice HA hn hc, .slice NA nn nc] ∧ Row w' (w.heap.size + 1 + 1 + 1) 28 [.int .i64 g.w, .int .i64 g.h, .int .i64 g.edge, .slice XA kk xc]) [6, 7, 8] (by kernel_rfl) (by exact ⟨RTr.out.drew, ROr.out.drew⟩) (fun hHeld => ?_)
              have RTd : Hid (Row wr.drew w.heap.size 25 [.int .i64 t.states, .slice HA hn hc, .slice NA nn nc]) := hHeld.1
              have ROd : Hid (Row wr.drew (w.heap.size + 1 + 1 + 1) 28 [.int .i64 g.w, .int .i64 g.h, .int .i64 g.edge, .slice XA kk xc]) := hHeld.2
              have BNd : Hid (Below wr.heap.size wr wr.drew) := (Below.refl _ _).drew
              have OUd : Hid (wr.drew.ownsRow w.heap.size 3 1 (.slice XA kk xc) kk (ints (nextTo t g W kk))) := OWr.out
              have HSX : Hid (w.heap.size ≤ wr.heap.size) := BWr.out.size
              clear RTr ROr k0 k1 k2 kl of0 of1 of2 of3
              revert hHeld RTd ROd BNd OUd
              generalize wr.drew = wQ
              intro hHeld RTd ROd BNd OUd
              refine restL_pure (i := 0) (v := ?vb1) rfl (by kernel_rfl) (by kernel_rfl) (by kernel_rfl) (fun _ _ _ h => h) (Or.inl ⟨by rfl, ?yb1⟩) ?rb1
              case yb1 => intro w' hSw; clear hSw; go_simp; try (with_reducible rfl)
              go_simp
              refine restL_pure (i := 3) (v := ?vb2) rfl (by kernel_rfl) (by kernel_rfl) (by kernel_rfl) (fun _ _ _ h => h) (Or.inl ⟨by rfl, ?yb2⟩) ?rb2
              case yb2 => intro w' hSw; clear hSw; go_simp; try (with_reducible rfl)
              go_simp
              refine restL_take (i := 1) (v := ?vb3) [[6], [7], [8]] rfl (by kernel_rfl) (by kernel_rfl) (by kernel_rfl) (by kernel_rfl) (fun _ _ _ h => h) (Or.inl ⟨by rfl, ?yb3⟩) hHeld ?rb3
              case yb3 =>
                intro w' hSw
                have hSh : Hid (Row w' w.heap.size 25 [.int .i64 t.states, .slice HA hn hc, .slice NA nn nc]) := hSw.1
                have hSp : Hid (Row w' (w.heap.size + 1 + 1 + 1) 28 [.int .i64 g.w, .int .i64 g.h, .int .i64 g.edge, .slice XA kk xc]) := hSw.2
                clear hSw
                have z0 := hSh.out.cell 0
                have z1 := hSh.out.cell 1
                have z2 := hSh.out.cell 2
                have zl := hSh.out.lt
                simp only [List.getElem?_cons_zero, List.getElem?_cons_succ] at z0 z1 z2
                have y0 := hSp.out.cell 0
                have y1 := hSp.out.cell 1
                have y2 := hSp.out.cell 2
                have y3 := hSp.out.cell 3
                have yl := hSp.out.lt
                simp only [List.getElem?_cons_zero, List.getElem?_cons_succ] at y0 y1 y2 y3
                go_simp
                try (with_reducible rfl)
              go_simp
              refine restL_take (i := 2) (v := ?vb4) [[6, 4], [7], [8]] rfl (by kernel_rfl) (by kernel_rfl) (by kernel_rfl) (by kernel_rfl) (fun _ _ _ h => h) (Or.inl ⟨by rfl, ?yb4⟩) hHeld ?rb4
              case yb4 =>
                intro w' hSw
                have hSh : Hid (Row w' w.heap.size 25 [.int .i64 t.states, .slice HA hn hc, .slice NA nn nc]) := hSw.1
                have hSp : Hid (Row w' (w.heap.size + 1 + 1 + 1) 28 [.int .i64 g.w, .int .i64 g.h, .int .i64 g.edge, .slice XA kk xc]) := hSw.2
                clear hSw
                have z0 := hSh.out.cell 0
                have z1 := hSh.out.cell 1
                have z2 := hSh.out.cell 2
                have zl := hSh.out.lt
                simp only [List.getElem?_cons_zero, List.getElem?_cons_succ] at z0 z1 z2
                have y0 := hSp.out.cell 0
                have y1 := hSp.out.cell 1
                have y2 := hSp.out.cell 2
                have y3 := hSp.out.cell 3
                have yl := hSp.out.lt
                simp only [List.getElem?_cons_zero, List.getElem?_cons_succ] at y0 y1 y2 y3
                go_simp
                try (with_reducible rfl)
              go_simp
              refine restL_one (i := 4) (by kernel_rfl) rfl (fun K hK => ?_)
              go_simp
              go_at_call 37
              have HCT := rValue_any t HA NA UA hn hc nn nc hn uc sl (hoodIn g t.hood (x : Int) (y : Int)) wQ (HT.out.up (below_on2 BWr.out BNd.out)) (HIU.out.up BNd.out) HOK.out.rt (hoodIn_length _ _ _ _) HIA.out
              rw [HNV.out] at HCT
              with_reducible refine HCT.mono ?_
              clear HCT
              rintro e w4 ⟨rfl, hb⟩
              have RTp : Hid (Row w4 w.heap.size 25 [.int .i64 t.states, .slice HA hn hc, .slice NA nn nc]) := rowCells RTd.out hb
              have ROp : Hid (Row w4 (w.heap.size + 1 + 1 + 1) 28 [.int .i64 g.w, .int .i64 g.h, .int .i64 g.edge, .slice XA kk xc]) := rowCells ROd.out hb
              have BNp : Hid (Below wr.heap.size wr w4) := below_on2 BNd.out hb
              have OUp : Hid (w4.ownsRow w.heap.size 3 1 (.slice XA kk xc) kk (ints (nextTo t g W kk))) := own_below OUd.out hb (Nat.le_refl _)
              have hszp := BNp.out.size
              have hszx := HSX.out
              clear hb hHeld RTd ROd BNd OUd
              refine hK.out _ _ (fun _ => ?keep) (fun hHeld => ?_)
              case keep => exact ⟨RTp.out, ROp.out⟩
              have hHeld := hHeld rfl
              clear hK K
              try go_simp
              refine restL_one (i := 5) (by kernel_rfl) rfl (fun K hK => ?_)
              go_simp
              refine hK.out _ _ (fun _ => ?keep) (fun hHeld => ?_)
              case keep => exact ⟨RTp.out.alloc _, ROp.out.alloc _⟩
              have hHeld := hHeld rfl
              clear hK K
              try go_simp
              refine restL_one (i := 6) (by kernel_rfl) rfl (fun K hK => ?_)
              refine step_app rfl (.tmp 58) (.tmp 62) 26 rfl w.heap.size 3 (.int .i64 0) 1 8 Try.underlying26 int_infoN rfl (by decide) (by decide) (.slice XA kk xc) kk (ints (nextTo t g W kk)) rfl ?own (w4.heap.size + 1) (some ⟨w4.heap.size, 0, none⟩) 1 1 [.int .i64 nv] rfl ?rd ?one ?hb ?hbase ?_
              case own => exact OUp.out.alloc _
              case rd => exact Rd.lit w4 #[.int .i64 nv] 3 (sz := 1) (m := 1) rfl
              case one => first | (intro u hu; simp at hu; subst hu; rfl) | rfl
              case hb => omega
              case hbase => first | (simp; omega) | omega
              intro v' w5 hown' hgrow' hat'
              obtain ⟨VB, vd, rfl, _⟩ := Rd.own hown'
              have OU5 : Hid (w5.ownsRow w.heap.size 3 1 (.slice VB (kk + 1) vd) (kk + 1) (ints (nextTo t g W (kk + 1)))) := (by show World.ownsRow _ _ _ _ _ _ _; rw [HVC.out]; exact hown')
              have RO5 : Hid (Row w5 (w.heap.size + 1 + 1 + 1) 28 [.int .i64 g.w, .int .i64 g.h, .int .i64 g.edge, .slice XA kk xc]) := (ROp.out.alloc _).grown hgrow' (fun e => own_ne_row OUp.out ROp.out (by decide) e.symm)
              have RT5 : Hid (Row w5 w.heap.size 25 [.int .i64 t.states, .slice HA hn hc, .slice NA nn nc]) := (RTp.out.alloc _).grown hgrow' (fun e => own_ne_row OUp.out RTp.out (by decide) e.symm)
              have RG4 : Hid (Row w4 (w.heap.size + 1) 28 [.int .i64 g.w, .int .i64 g.h, .int .i64 g.edge, .slice A n ac]) := rowCells RGr.out BNp.out
              have RZ4 : Hid (Row w4 (w.heap.size + 1 + 1) 28 [.int .i64 0, .int .i64 0, .int .i64 0, .slice none 0 0]) := rowCells RZr.out BNp.out
              have RG5 : Hid (Row w5 (w.heap.size + 1) 28 [.int .i64 g.w, .int .i64 g.h, .int .i64 g.edge, .slice A n ac]) := (RG4.out.alloc _).grown hgrow' (fun e => own_ne_row OUp.out RG4.out (by decide) e.symm)
              have RZ5 : Hid (Row w5 (w.heap.size + 1 + 1) 28 [.int .i64 0, .int .i64 0, .int .i64 0, .slice none 0 0]) := (RZ4.out.alloc _).grown hgrow' (fun e => own_ne_row OUp.out RZ4.out (by decide) e.symm)
              have BW5 : Hid (Below w.heap.size w w5) := ((below_on2 BWr.out BNp.out).alloc (by omega) _).grown hgrow' (by simp; omega) (fun q hq => (OUp.out.lt q hq).1)
              have q3 := RO5.out.cell 3
              have qf := RO5.out.frozen 3
              have ql := RO5.out.lt
              simp only [List.getElem?_cons_zero, List.getElem?_cons_succ] at q3
              clear hown' hgrow' hat' RTp ROp BNp OUp hszp hszx RG4 RZ4
              refine hK.out _ _ (fun h => absurd h (by decide)) (fun _ => ?_)
              clear hK K
              try go_simp
              refine restL_pure (i := 7) (v := ?vb5) rfl (by kernel_rfl) (by kernel_rfl) (by kernel_rfl) (fun _ _ _ h => h) (Or.inl ⟨by rfl, ?yb5⟩) ?rb5
              case yb5 => intro w' hSw; clear hSw; go_simp; try (with_reducible rfl)
              go_simp
              refine restL_one (i := 8) (by kernel_rfl) rfl (fun K hK => ?_)
              go_simp
              refine hK.out _ _ (fun h => absurd h (by decide)) (fun _ => ?_)
              clear hK K
              try go_simp
              refine restL_done (by kernel_rfl) ?_ _
              have RO6 : Hid (Row (World.setCell w5 ⟨w.heap.size + 1 + 1 + 1, 3, none⟩ (.slice VB (kk + 1) vd)) (w.heap.size + 1 + 1 + 1) 28 [.int .i64 g.w, .int .i64 g.h, .int .i64 g.edge, .slice VB (kk + 1) vd]) := RO5.out.set 3 _
              have RT6 : Hid (Row (World.setCell w5 ⟨w.heap.size + 1 + 1 + 1, 3, none⟩ (.slice VB (kk + 1) vd)) w.heap.size 25 [.int .i64 t.states, .slice HA hn hc, .slice NA nn nc]) := RT5.out.far (p := ⟨w.heap.size + 1 + 1 + 1, 3, none⟩) (by show w.heap.size ≠ (w.heap.size + 1 + 1 + 1); omega) _
              have RG6 : Hid (Row (World.setCell w5 ⟨w.heap.size + 1 + 1 + 1, 3, none⟩ (.slice VB (kk + 1) vd)) (w.heap.size + 1) 28 [.int .i64 g.w, .int .i64 g.h, .int .i64 g.edge, .slice A n ac]) := RG5.out.far (p := ⟨w.heap.size + 1 + 1 + 1, 3, none⟩) (by show (w.heap.size + 1) ≠ (w.heap.size + 1 + 1 + 1); omega) _
              have RZ6 : Hid (Row (World.setCell w5 ⟨w.heap.size + 1 + 1 + 1, 3, none⟩ (.slice VB (kk + 1) vd)) (w.heap.size + 1 + 1) 28 [.int .i64 0, .int .i64 0, .int .i64 0, .slice none 0 0]) := RZ5.out.far (p := ⟨w.heap.size + 1 + 1 + 1, 3, none⟩) (by show (w.heap.size + 1 + 1) ≠ (w.heap.size + 1 + 1 + 1); omega) _
              have BW6 : Hid (Below w.heap.size w (World.setCell w5 ⟨w.heap.size + 1 + 1 + 1, 3, none⟩ (.slice VB (kk + 1) vd))) := BW5.out.setCell (p := ⟨w.heap.size + 1 + 1 + 1, 3, none⟩) (by show _ ≤ (w.heap.size + 1 + 1 + 1); omega) _
              have OW6 : Hid (World.ownsRow (World.setCell w5 ⟨w.heap.size + 1 + 1 + 1, 3, none⟩ (.slice VB (kk + 1) vd)) w.heap.size 3 1 (.slice VB (kk + 1) vd) (kk + 1) (ints (nextTo t g W (kk + 1)))) := own_set (p := ⟨w.heap.size + 1 + 1 + 1, 3, none⟩) OU5.out RO5.out (by decide) _
              clear RO5 RT5 RG5 RZ5 BW5 OU5 q3 qf ql
              revert RO6 RT6 RG6 RZ6 BW6 OW6
              generalize (World.setCell w5 ⟨w.heap.size + 1 + 1 + 1, 3, none⟩ (.slice VB (kk + 1) vd)) = w6
              intro RO6 RT6 RG6 RZ6 BW6 OW6
              go_wp2
              go_roundg (W - (x + 1))
              case measure => omega
              case rel => exact ⟨x + 1, _, by omega, by omega, by go_num, BW6.out, RT6.out, RG6.out, RZ6.out, RO6.out, (by rw [← Nat.add_assoc, ← HKK.out]; exact OW6.out)⟩
        · have hlxz : ¬ (x : Int) < g.w := by have := HW.out; omega
          obtain rfl : W = x := by omega
          have OW2 : Hid (wr.ownsRow w.heap.size 3 1 v ((y + 1) * W) (ints (nextTo t g W ((y + 1) * W)))) := (by show World.ownsRow _ _ _ _ _ _ _; rw [Nat.add_mul, Nat.one_mul]; exact OW.out)
          go_wp2
          go_roundg (Hh - (y + 1))
          case measure => omega
          case rel => exact ⟨y + 1, v, by omega, by omega, by go_num, BW.out, RT.out, RG.out, RZ.out, RO.out, OW2.out⟩
    · have hlyz : ¬ (y : Int) < g.h := by have := HH.out; omega
      obtain rfl : Hh = y := by omega
      have OWn : Hid (wr.ownsRow w.heap.size 3 1 v n (ints (nextG t g).cells)) := (by
        have h9 := OW.out
        rw [← HNWH.out] at h9
        have e : nextTo t g W n = (nextG t g).cells := by
          show _ = nextTo t g g.w.toNat g.cells.length
          rw [HL.out, HW.out, Int.toNat_natCast]
        rw [e] at h9; exact h9)
      obtain ⟨VB, vd, rfl, _⟩ := Rd.own OWn.out
      have HRES : Hid (GridPost (nextG t g) w (.returned (.agg #[.int .i64 g.w, .int .i64 g.h, .int .i64 g.edge, (.slice VB n vd)])) (World.setCell (World.setCell (World.setCell (World.setCell wr ⟨(w.heap.size + 1 + 1), 0, none⟩ (.int .i64 g.w)) ⟨(w.heap.size + 1 + 1), 1, none⟩ (.int .i64 g.h)) ⟨(w.heap.size + 1 + 1), 2, none⟩ (.int .i64 g.edge)) ⟨(w.heap.size + 1 + 1), 3, none⟩ (.slice VB n vd))) := by
        refine ⟨VB, n, vd, rfl, ⟨Rd.of_own (base := w.heap.size) (e := 3) (c := vd) ?_, by unfold maxLen; omega⟩, own_newOr OWn.out 0 rfl, ?_⟩
        · exact own_set (p := ⟨(w.heap.size + 1 + 1), 3, none⟩) (own_set (p := ⟨(w.heap.size + 1 + 1), 2, none⟩) (own_set (p := ⟨(w.heap.size + 1 + 1), 1, none⟩) (own_set (p := ⟨(w.heap.size + 1 + 1), 0, none⟩) OWn.out RZ.out (by decide) _) (RZ.out.set 0 _) (by decide) _) ((RZ.out.set 0 _).set 1 _) (by decide) _) (((RZ.out.set 0 _).set 1 _).set 2 _) (by decide) _
        · exact (((BW.out.setCell (p := ⟨(w.heap.size + 1 + 1), 0, none⟩) (by show _ ≤ (w.heap.size + 1 + 1); omega) _).setCell (p := ⟨(w.heap.size + 1 + 1), 1, none⟩) (by show _ ≤ (w.heap.size + 1 + 1); omega) _).setCell (p := ⟨(w.heap.size + 1 + 1), 2, none⟩) (by show _ ≤ (w.heap.size + 1 + 1); omega) _).setCell (p := ⟨(w.heap.size + 1 + 1), 3, none⟩) (by show _ ≤ (w.heap.size + 1 + 1); omega) _
      have Z9 := (((RZ.out.set 0 (.int .i64 g.w)).set 1 (.int .i64 g.h)).set 2 (.int .i64 g.edge)).set 3 (.slice VB n vd)
      have r0 := Z9.cell 0
      have r1 := Z9.cell 1
      have r2 := Z9.cell 2
      have r3 := Z9.cell 3
      simp only [List.getElem?_cons_zero, List.getElem?_cons_succ, List.set_cons_zero, List.set_cons_succ] at r0 r1 r2 r3
      clear Z9 OWn OW
      have e0 := RO.out.cell 0
      have e1 := RO.out.cell 1
      have e2 := RO.out.cell 2
      have e3 := RO.out.cell 3
      have el := RO.out.lt
      simp only [List.getElem?_cons_zero, List.getElem?_cons_succ] at e0 e1 e2 e3
      have d0 := RZ.out.cell 0
      have d1 := RZ.out.cell 1
      have d2 := RZ.out.cell 2
      have d3 := RZ.out.cell 3
      have dl := RZ.out.lt
      simp only [List.getElem?_cons_zero, List.getElem?_cons_succ] at d0 d1 d2 d3
      have df0 := RZ.out.frozen 0
      have df1 := RZ.out.frozen 1
      have df2 := RZ.out.frozen 2
      have df3 := RZ.out.frozen 3
      go_wp2
      refine bodyPost_ret (v := .agg #[.int .i64 g.w, .int .i64 g.h, .int .i64 g.edge, (.slice VB n vd)]) (by simp [results, Try.results25, go_sem, r0, r1, r2, r3]) rfl ?_
      exact HRES.out
end Go.Proofs.Ytdkfaphclhaiaaa
