/-
 A part.
-/
import Derived.Test.YtiemhbogbaamlaaYE1
import Derived.Test.YtiemhbogbaamlaaYE2
import Derived.Test.YtiemhbogbaamlaaYE23
import Derived.Test.YtiemhbogbaamlaaYE20
import Derived.Test.YtiemhbogbaamlaaYE6
import Derived.BigQuiet
import Derived.Test.YtiemhbogbaamlaaYE7
import Derived.Test.YtiemhbogbaamlaaYE16
import Derived.Deep.QuietTactic
import Derived.Deep.Light
import Derived.Test.YtiemhbogbaamlaaYE28
import Derived.Test.YtiemhbogbaamlaaYE33
import Derived.Test.YtiemhbogbaamlaaYE24
namespace Go.Proofs.Ytiemhbogbaamlaa
open Go.RowKit
set_option linter.unusedSimpArgs false
set_option linter.unusedVariables false
theorem int_infoN : (Try.prog.info? 3).map (fun i => (i.zero, i.size, i.bytes)) = some (some (.int .i64 0), 1, 8) := by kernel_rfl
theorem cell_of {x y W : Nat} (hx : x < W) : (y * W + x) % W = x ∧ (y * W + x) / W = y := by
 have h0 : 0 < W := by omega
 rw [Nat.mul_comm, Nat.mul_add_mod, Nat.mod_eq_of_lt hx, Nat.mul_add_div h0, Nat.div_eq_of_lt hx]
 exact ⟨rfl, rfl⟩
theorem cell_in {x y W H : Nat} (hx : x < W) (hy : y < H) : y * W + x < H * W := by
 have := Nat.mul_le_mul_right W (show y + 1 ≤ H by omega)
 rw [Nat.add_mul, Nat.one_mul] at this
 omega
theorem hood_ptN {t : Tre} (h : rightT t = true) {k : Nat} (hk : k < t.hood.length) : (-2 ≤ (t.hood.getD k default).x ∧ (t.hood.getD k default).x ≤ 2) ∧ (-2 ≤ (t.hood.getD k default).y ∧ (t.hood.getD k default).y ≤ 2) := by
 have := (rightT_parts h).1
 simp only [hoodOk, hoodPts, Bool.and_eq_true, decide_eq_true_eq] at this
 have := (this.2 k hk).1
 simpa [ptOk, radius] using this
theorem hoodIn_take (g : Grd) (l : List Pt) (x y : Int) (j : Nat) (h : j < l.length) : ints ((hoodIn g l x y).take (j + 1)) = ints ((hoodIn g l x y).take j) ++ [.int .i64 (getF g (x + (l.getD j default).x) (y + (l.getD j default).y))] := by
 rw [il_snoc _ _ (by rw [hoodIn_length]; exact h), hoodIn_getD g l x y j h]; simp [ints]
def GridPost (r : Grd) (w : World) (e : Ending) (w' : World) : Prop :=
 ∃ (A : Option Addr) (n c : Nat), e = .returned (.agg #[.int .i64 r.w, .int .i64 r.h, .int .i64 r.edge, .slice A n c]) ∧ GAt w' r A n ∧ NewOr A n 0 w.heap.size ∧ Below w.heap.size w w'
set_option maxRecDepth 100000 in
set_option maxHeartbeats 8000000 in
theorem rNext_any (t : Tre) (g : Grd) (HA NA A : Option Addr) (hn hc nn nc n ac : Nat) (sl : List Sl) (w : World) (ht : TAt w t HA NA hn nn sl) (hg : GAt w g A n) (hok : OkTG t g) :
 Calls Try.prog 28 #[.agg #[.int .i64 t.states, .slice HA hn hc, .slice NA nn nc], .agg #[.int .i64 g.w, .int .i64 g.h, .int .i64 g.edge, .slice A n ac]] w (GridPost (nextG t g) w) := by
 have HT : Hid (TAt w t HA NA hn nn sl) := ht
 have HG : Hid (GAt w g A n) := hg
 have HL : Hid (g.cells.length = n) := hg.cl
 have HHL : Hid (t.hood.length = hn) := ht.hl
 have HOK : Hid (OkTG t g) := hok
 obtain ⟨g1, g2, g3⟩ := rightG_parts hok.rg
 obtain ⟨⟨s1, s2⟩, ⟨s3, s4⟩, s5, _⟩ := sizedF_parts g1
 obtain ⟨W, hW⟩ : ∃ W : Nat, g.w = (W : Int) := ⟨g.w.toNat, by omega⟩
 obtain ⟨Hh, hH⟩ : ∃ Hh : Nat, g.h = (Hh : Int) := ⟨g.h.toNat, by omega⟩
 have HW : Hid (g.w = (W : Int)) := hW
 have HH : Hid (g.h = (Hh : Int)) := hH
 have hnWH : n = Hh * W := by
  have h9 := g2
  rw [HL.out, hW, hH, Int.mul_comm] at h9
  exact_mod_cast h9
 have HNWH : Hid (n = Hh * W) := hnWH
 have hn4 : n ≤ 4096 := by rw [← g2, HL.out] at s5; omega
 have hW1 : 1 ≤ W ∧ W ≤ 256 := by omega
 have hH1 : 1 ≤ Hh ∧ Hh ≤ 256 := by omega
 obtain ⟨hp1, hp2⟩ := hood_pos hok.rt
 rw [HHL.out] at hp1 hp2
 clear ht hg hok g1 g2 g3 s1 s2 s3 s4 s5 hW hH hnWH
 go_enter Try.func28, Try.ntmps28
 go_wp2
 have RT1 : Hid (Row (World.alloc (World.alloc (World.alloc (World.alloc w (.cells #[.int .i64 t.states, .slice HA hn hc, .slice NA nn nc] 25)) (.cells #[.int .i64 g.w, .int .i64 g.h, .int .i64 g.edge, .slice A n ac] 54)) (.cells #[.int .i64 0, .int .i64 0, .int .i64 0, .slice none 0 0] 54)) (.cells #[.int .i64 g.w, .int .i64 g.h, .int .i64 g.edge, .slice none 0 0] 54)) w.heap.size 25 [.int .i64 t.states, .slice HA hn hc, .slice NA nn nc]) := ((((Row.new w 25 [.int .i64 t.states, .slice HA hn hc, .slice NA nn nc]).alloc _).alloc _).alloc _)
 have RG1 : Hid (Row (World.alloc (World.alloc (World.alloc (World.alloc w (.cells #[.int .i64 t.states, .slice HA hn hc, .slice NA nn nc] 25)) (.cells #[.int .i64 g.w, .int .i64 g.h, .int .i64 g.edge, .slice A n ac] 54)) (.cells #[.int .i64 0, .int .i64 0, .int .i64 0, .slice none 0 0] 54)) (.cells #[.int .i64 g.w, .int .i64 g.h, .int .i64 g.edge, .slice none 0 0] 54)) (w.heap.size + 1) 54 [.int .i64 g.w, .int .i64 g.h, .int .i64 g.edge, .slice A n ac]) := (((rowNew1 w _ 54 [.int .i64 g.w, .int .i64 g.h, .int .i64 g.edge, .slice A n ac]).alloc _).alloc _)
 have RZ1 : Hid (Row (World.alloc (World.alloc (World.alloc (World.alloc w (.cells #[.int .i64 t.states, .slice HA hn hc, .slice NA nn nc] 25)) (.cells #[.int .i64 g.w, .int .i64 g.h, .int .i64 g.edge, .slice A n ac] 54)) (.cells #[.int .i64 0, .int .i64 0, .int .i64 0, .slice none 0 0] 54)) (.cells #[.int .i64 g.w, .int .i64 g.h, .int .i64 g.edge, .slice none 0 0] 54)) (w.heap.size + 1 + 1) 54 [.int .i64 0, .int .i64 0, .int .i64 0, .slice none 0 0]) := ((rowNew2 w _ _ 54 [.int .i64 0, .int .i64 0, .int .i64 0, .slice none 0 0]).alloc _)
 have RO1 : Hid (Row (World.alloc (World.alloc (World.alloc (World.alloc w (.cells #[.int .i64 t.states, .slice HA hn hc, .slice NA nn nc] 25)) (.cells #[.int .i64 g.w, .int .i64 g.h, .int .i64 g.edge, .slice A n ac] 54)) (.cells #[.int .i64 0, .int .i64 0, .int .i64 0, .slice none 0 0] 54)) (.cells #[.int .i64 g.w, .int .i64 g.h, .int .i64 g.edge, .slice none 0 0] 54)) (w.heap.size + 1 + 1 + 1) 54 [.int .i64 g.w, .int .i64 g.h, .int .i64 g.edge, .slice none 0 0]) := (by
  have h0 := Row.new (World.alloc (World.alloc (World.alloc w (.cells #[.int .i64 t.states, .slice HA hn hc, .slice NA nn nc] 25)) (.cells #[.int .i64 g.w, .int .i64 g.h, .int .i64 g.edge, .slice A n ac] 54)) (.cells #[.int .i64 0, .int .i64 0, .int .i64 0, .slice none 0 0] 54)) 54 [.int .i64 g.w, .int .i64 g.h, .int .i64 g.edge, .slice none 0 0]
  simp only [World.size_alloc] at h0
  exact h0)
 have BW1 : Hid (Below w.heap.size w (World.alloc (World.alloc (World.alloc (World.alloc w (.cells #[.int .i64 t.states, .slice HA hn hc, .slice NA nn nc] 25)) (.cells #[.int .i64 g.w, .int .i64 g.h, .int .i64 g.edge, .slice A n ac] 54)) (.cells #[.int .i64 0, .int .i64 0, .int .i64 0, .slice none 0 0] 54)) (.cells #[.int .i64 g.w, .int .i64 g.h, .int .i64 g.edge, .slice none 0 0] 54))) := (by show Below _ _ _; go_grown)
 revert RT1 RG1 RZ1 RO1 BW1
 generalize (World.alloc (World.alloc (World.alloc (World.alloc w (.cells #[.int .i64 t.states, .slice HA hn hc, .slice NA nn nc] 25)) (.cells #[.int .i64 g.w, .int .i64 g.h, .int .i64 g.edge, .slice A n ac] 54)) (.cells #[.int .i64 0, .int .i64 0, .int .i64 0, .slice none 0 0] 54)) (.cells #[.int .i64 g.w, .int .i64 g.h, .int .i64 g.edge, .slice none 0 0] 54)) = w1
 intro RT1 RG1 RZ1 RO1 BW1
 go_loopg [6, 7, 8, 9, 10, 11] Hh (fun gg s6 _ _ _ _ _ wr => ∃ (y : Nat) (v : Value), y ≤ Hh ∧ Hh - y ≤ gg ∧ s6 = .int .i64 y ∧ Aside (Below w.heap.size w wr) ∧ Aside (Row wr w.heap.size 25 [.int .i64 t.states, .slice HA hn hc, .slice NA nn nc]) ∧ Aside (Row wr (w.heap.size + 1) 54 [.int .i64 g.w, .int .i64 g.h, .int .i64 g.edge, .slice A n ac]) ∧ Aside (Row wr (w.heap.size + 1 + 1) 54 [.int .i64 0, .int .i64 0, .int .i64 0, .slice none 0 0]) ∧ Aside (Row wr (w.heap.size + 1 + 1 + 1) 54 [.int .i64 g.w, .int .i64 g.h, .int .i64 g.edge, v]) ∧ Aside (wr.ownsRow w.heap.size 3 1 v (y * W) (ints (nextTo t g W (y * W)))))
 case atStart => exact ⟨0, _, Nat.zero_le _, by omega, rfl, BW1.out, RT1.out, RG1.out, RZ1.out, RO1.out, (by rw [Nat.zero_mul]; exact World.ownsRow_nil _ _ _ _)⟩
 case round =>
  clear RT1 RG1 RZ1 RO1 BW1
  obtain ⟨y, v, hy, hgy, rfl, BW, RT, RG, RZ, RO, OW⟩ := hrel
  obtain ⟨k0, k1, k2, k3, kl⟩ := RG.out.cells4
  by_cases hly : y < Hh
  ·have hlyz : (y : Int) < g.h := by have := HH.out; omega
   go_wp2
   clear k0 k1 k2 k3 kl
   go_loopg [7, 8, 9, 10, 11] W (fun gg s7 _ _ _ _ wr => ∃ (x : Nat) (v : Value), x ≤ W ∧ W - x ≤ gg ∧ s7 = .int .i64 x ∧ Aside (Below w.heap.size w wr) ∧ Aside (Row wr w.heap.size 25 [.int .i64 t.states, .slice HA hn hc, .slice NA nn nc]) ∧ Aside (Row wr (w.heap.size + 1) 54 [.int .i64 g.w, .int .i64 g.h, .int .i64 g.edge, .slice A n ac]) ∧ Aside (Row wr (w.heap.size + 1 + 1) 54 [.int .i64 0, .int .i64 0, .int .i64 0, .slice none 0 0]) ∧ Aside (Row wr (w.heap.size + 1 + 1 + 1) 54 [.int .i64 g.w, .int .i64 g.h, .int .i64 g.edge, v]) ∧ Aside (wr.ownsRow w.heap.size 3 1 v (y * W + x) (ints (nextTo t g W (y * W + x)))))
   case atStart => exact ⟨0, v, Nat.zero_le _, by omega, rfl, BW, RT, RG, RZ, RO, OW⟩
   case round =>
    clear BW RT RG RZ RO OW
    obtain ⟨x, v, hx, hgx, rfl, BW, RT, RG, RZ, RO, OW⟩ := hrel
    obtain ⟨k0, k1, k2, k3, kl⟩ := RG.out.cells4
    by_cases hlx : x < W
    ·have hlxz : (x : Int) < g.w := by have := HW.out; omega
     obtain ⟨kk, hkk⟩ : ∃ kk, kk = y * W + x := ⟨_, rfl⟩
     have hkn : kk < n := by rw [hkk, HNWH.out]; exact cell_in hlx hly
     have HKK : Hid (kk = y * W + x) := hkk
     have HIL : Hid ((hoodIn g t.hood (x : Int) (y : Int)).length = hn) := (by show _ = _; rw [hoodIn_length, HHL.out])
     have HIA : Hid ((hoodIn g t.hood (x : Int) (y : Int)).all (stateIn t) = true) := hoodIn_all HOK.out _ _ _
     have OWk : Hid (wr.ownsRow w.heap.size 3 1 v kk (ints (nextTo t g W kk))) := (by have h9 := OW.out; rw [← hkk] at h9; exact h9)
     have BWx : Hid (Below w.heap.size w wr) := BW.out
     have RTx : Hid (Row wr w.heap.size 25 [.int .i64 t.states, .slice HA hn hc, .slice NA nn nc]) := RT.out
     have RGx : Hid (Row wr (w.heap.size + 1) 54 [.int .i64 g.w, .int .i64 g.h, .int .i64 g.edge, .slice A n ac]) := RG.out
     have RZx : Hid (Row wr (w.heap.size + 1 + 1) 54 [.int .i64 0, .int .i64 0, .int .i64 0, .slice none 0 0]) := RZ.out
     have ROx : Hid (Row wr (w.heap.size + 1 + 1 + 1) 54 [.int .i64 g.w, .int .i64 g.h, .int .i64 g.edge, v]) := RO.out
     clear hkk OW BW RT RG RZ RO
     go_wp2
     clear k0 k1 k2 k3 kl
     obtain ⟨wx, rfl⟩ : ∃ wx : World, wx = wr := ⟨_, rfl⟩
     go_loopg [8, 9, 10, 11] hn (fun gg s8 s9 _ _ wr => ∃ (j : Nat) (u : Value), j ≤ hn ∧ hn - j ≤ gg ∧ s9 = .int .i64 j ∧ s8 = u ∧ Aside (Below wx.heap.size wx wr) ∧ Aside (wr.ownsRow wx.heap.size 3 1 u j (ints ((hoodIn g t.hood (x : Int) (y : Int)).take j))))
     case atStart => exact ⟨0, _, Nat.zero_le _, by omega, rfl, rfl, Below.refl _ _, World.ownsRow_nil _ _ _ _⟩
     case round =>
      obtain ⟨j, u, hj, hgj, rfl, rfl, BN, OU⟩ := hrel
      have BWr : Hid (Below w.heap.size w wr) := below_on2 BWx.out BN.out
      obtain ⟨UA, uc, rfl, _⟩ := Rd.own OU.out
      by_cases hlj : j < hn
      ·have hljz : (j : Int) < (hn : Int) := by omega
       obtain ⟨pd, rfl, hpb, hp0, hp1⟩ := (HT.out.up BWr.out).point hlj
       obtain ⟨pb1, pb2⟩ := hood_ptN HOK.out.rt (k := j) (by rw [HHL.out]; exact hlj)
       have hsn := hoodIn_take g t.hood (x : Int) (y : Int) j (by rw [HHL.out]; exact hlj)
       generalize t.hood.getD j default = pt at hp0 hp1 pb1 pb2 hsn
       obtain ⟨px, py⟩ := pt
       dsimp only at hp0 hp1 pb1 pb2 hsn
       have HSN : Hid (ints ((hoodIn g t.hood (x : Int) (y : Int)).take (j + 1)) = ints ((hoodIn g t.hood (x : Int) (y : Int)).take j) ++ [.int .i64 (getF g ((x : Int) + px) ((y : Int) + py))]) := hsn
       have HCN : Hid (∀ W9, Below wr.heap.size wr W9 → W9.cell? (pd.add (j * 2)) = some (.int .i64 px) ∧ W9.cell? ⟨(pd.add (j * 2)).block, (pd.add (j * 2)).off + 1, none⟩ = some (.int .i64 py)) := fun W9 h9 => ⟨(h9.cell (by rw [add_block]; exact hpb)).trans hp0, (h9.cell (by show (pd.add (j * 2)).block < _; rw [add_block]; exact hpb)).trans hp1⟩
       have hwx : IntKind.i64.wrap ((x : Int) + px) = (x : Int) + px := IntWalk.i64_in _ (by omega)
       have hwy : IntKind.i64.wrap ((y : Int) + py) = (y : Int) + py := IntWalk.i64_in _ (by omega)
       obtain ⟨gv, hgv⟩ : ∃ gv, getF g ((x : Int) + px) ((y : Int) + py) = gv := ⟨_, rfl⟩
       have HGV : Hid (getF g ((x : Int) + px) ((y : Int) + py) = gv) := hgv
       rw [hgv] at HSN
       have RTr : Hid (Row wr w.heap.size 25 [.int .i64 t.states, .slice (some pd) hn hc, .slice NA nn nc]) := rowCells RTx.out BN.out
       have RGr : Hid (Row wr (w.heap.size + 1) 54 [.int .i64 g.w, .int .i64 g.h, .int .i64 g.edge, .slice A n ac]) := rowCells RGx.out BN.out
       obtain ⟨kx, hkx⟩ : ∃ kx, atF ((x : Int) + px) g.w g.edge = kx := ⟨_, rfl⟩
       obtain ⟨ky, hky⟩ : ∃ ky, atF ((y : Int) + py) g.h g.edge = ky := ⟨_, rfl⟩
       have HKX : Hid (atF ((x : Int) + px) g.w g.edge = kx) := hkx
       have HKY : Hid (atF ((y : Int) + py) g.h g.edge = ky) := hky
       have hgv2 : gv = if kx < 0 ∨ ky < 0 then 0 else g.cells.getD (ky * g.w + kx).toNat 0 := by
        rw [← hgv]; unfold getF; rw [if_pos HOK.out.rg, hkx, hky]
       have HGV2 : Hid (gv = if kx < 0 ∨ ky < 0 then 0 else g.cells.getD (ky * g.w + kx).toNat 0) := hgv2
       have q1 : 1 ≤ g.w := by have := HW.out; omega
       have q2 : 1 ≤ g.h := by have := HH.out; omega
       have bx := hkx ▸ atF_bd ((x : Int) + px) g.w g.edge q1
       have by_ := hky ▸ atF_bd ((y : Int) + py) g.h g.edge q2
       have HBX : Hid (-1 ≤ kx ∧ kx < g.w) := bx
       have HBY : Hid (-1 ≤ ky ∧ ky < g.h) := by_
       clear hkx hky hgv hgv2 bx by_ HGV
       obtain ⟨k0, k1, k2, kl⟩ := RTr.out.cells3
       obtain ⟨j0, j1, j2, j3, jl⟩ := RGr.out.cells4
       go_wp2_with fail
       go_quiet (first
        | (go_at_call_of 47 (Value.int .i64 ((x : Int) + px)); exact quiet_same (HKX.out ▸ rAt_any ((x : Int) + px) g.w g.edge _ q1 (by have := HW.out; omega)))
        | (go_at_call 47; exact quiet_same (HKY.out ▸ rAt_any ((y : Int) + py) g.h g.edge _ q2 (by have := HH.out; omega))))
       have BNq : Hid (Below wr.heap.size wr (wr.drewN nq)) := below_drewN (Below.refl _ _) _
       have OUq : Hid ((wr.drewN nq).ownsRow wx.heap.size 3 1 (.slice UA j uc) j (ints ((hoodIn g t.hood (x : Int) (y : Int)).take j))) := OU.out
       have hszx : wx.heap.size ≤ (wr.drewN nq).heap.size := BN.out.size
       clear k0 k1 k2 kl j0 j1 j2 j3 jl hp0 hp1 hsn
       revert BNq OUq hszx
       generalize wr.drewN nq = wq
       intro BNq OUq hszx
       by_cases hxn : kx < 0
       ·have d1 : decide (kx < 0) = true := decide_eq_true hxn
        have hg0 : gv = 0 := by rw [HGV2.out, if_pos (by omega)]
        subst hg0
        go_wp2_with (at_builtin; refine wpList_app rfl (.tmp 70) (.tmp 71) 35 rfl wx.heap.size 3 (.int .i64 0) 1 8 Try.underlying35 int_infoN rfl (by decide) (by decide) (.slice UA j uc) (j) ((ints ((hoodIn g t.hood (x : Int) (y : Int)).take j))) rfl ?own (wq.heap.size + 1) (some ⟨wq.heap.size, 0, none⟩) 1 1 [.int .i64 0] rfl ?rd ?one ?hb ?hbase ?_)
        case own => exact (OUq.out).alloc _
        case rd => exact Rd.lit wq #[.int .i64 0] 3 (sz := 1) (m := 1) rfl
        case one => first | (intro u hu; simp at hu; subst hu; rfl) | rfl
        case hb => omega
        case hbase => first | (simp; omega) | omega
        intro v' w' hown' hgrow' hat'
        obtain ⟨VB, vd, rfl, _⟩ := Rd.own hown'
        have OU5 : Hid (w'.ownsRow wx.heap.size 3 1 (.slice VB (j + 1) vd) (j + 1) (ints ((hoodIn g t.hood (x : Int) (y : Int)).take (j + 1)))) := (by show World.ownsRow _ _ _ _ _ _ _; rw [HSN.out]; exact hown')
        have BN5 : Hid (Below wx.heap.size wx w') := ((below_on2 BN.out BNq.out).alloc (by omega) _).grown hgrow' (by simp; omega) (fun q hq => (OUq.out.lt q hq).1)
        clear hown' hgrow' hat' BNq OUq
        go_wp2
        go_roundg (hn - (j + 1))
        case measure => omega
        case rel => exact ⟨j + 1, _, by omega, by omega, by go_num, rfl, BN5.out, OU5.out⟩
       ·have d1 : decide (kx < 0) = false := decide_eq_false hxn
        by_cases hyn : ky < 0
        ·have d2 : decide (ky < 0) = true := decide_eq_true hyn
         have hg0 : gv = 0 := by rw [HGV2.out, if_pos (by omega)]
         subst hg0
         go_wp2_with (at_builtin; refine wpList_app rfl (.tmp 70) (.tmp 71) 35 rfl wx.heap.size 3 (.int .i64 0) 1 8 Try.underlying35 int_infoN rfl (by decide) (by decide) (.slice UA j uc) (j) ((ints ((hoodIn g t.hood (x : Int) (y : Int)).take j))) rfl ?own (wq.heap.size + 1) (some ⟨wq.heap.size, 0, none⟩) 1 1 [.int .i64 0] rfl ?rd ?one ?hb ?hbase ?_)
         case own => exact (OUq.out).alloc _
         case rd => exact Rd.lit wq #[.int .i64 0] 3 (sz := 1) (m := 1) rfl
         case one => first | (intro u hu; simp at hu; subst hu; rfl) | rfl
         case hb => omega
         case hbase => first | (simp; omega) | omega
         intro v' w' hown' hgrow' hat'
         obtain ⟨VB, vd, rfl, _⟩ := Rd.own hown'
         have OU5 : Hid (w'.ownsRow wx.heap.size 3 1 (.slice VB (j + 1) vd) (j + 1) (ints ((hoodIn g t.hood (x : Int) (y : Int)).take (j + 1)))) := (by show World.ownsRow _ _ _ _ _ _ _; rw [HSN.out]; exact hown')
         have BN5 : Hid (Below wx.heap.size wx w') := ((below_on2 BN.out BNq.out).alloc (by omega) _).grown hgrow' (by simp; omega) (fun q hq => (OUq.out.lt q hq).1)
         clear hown' hgrow' hat' BNq OUq
         go_wp2
         go_roundg (hn - (j + 1))
         case measure => omega
         case rel => exact ⟨j + 1, _, by omega, by omega, by go_num, rfl, BN5.out, OU5.out⟩
        ·have d2 : decide (ky < 0) = false := decide_eq_false hyn
         have hgv3 : gv = g.cells.getD (ky * g.w + kx).toNat 0 := by rw [HGV2.out, if_neg (by omega)]
         obtain ⟨hp1, hp2⟩ := place_bd (w := g.w) (h := g.h) (x := kx) (y := ky) (by have := HBX.out; omega) (by have := HBY.out; omega)
         have hlen : (n : Int) = g.w * g.h := by rw [HW.out, HH.out, HNWH.out, Int.natCast_mul, Int.mul_comm]
         have hk0 : 0 ≤ ky * g.w := Int.mul_nonneg (by omega) (by omega)
         have hlt : (ky * g.w + kx).toNat < n := by omega
         obtain ⟨ix, hix⟩ : ∃ ix : Nat, ky * g.w + kx = (ix : Int) := ⟨(ky * g.w + kx).toNat, by omega⟩
         have hm1 : IntKind.i64.wrap (ky * g.w) = ky * g.w := IntWalk.i64_in _ (by have := HBX.out; omega)
         have hm2 : IntKind.i64.wrap (ky * g.w + kx) = (ix : Int) := (IntWalk.i64_in _ (by omega)).trans hix
         rw [hix, Int.toNat_natCast] at hgv3 hlt
         have hlz2 : (ix : Int) < (n : Int) := by omega
         have RGq : Hid (Row wq (w.heap.size + 1) 54 [.int .i64 g.w, .int .i64 g.h, .int .i64 g.edge, .slice A n ac]) := rowCells RGr.out BNq.out
         obtain ⟨gad, rfl, hgb, hgc⟩ := (HG.out.up (below_on2 BWr.out BNq.out)).cells.int hlt
         rw [← hgv3] at hgc
         clear hp1 hp2 hlen hk0 hgv3 hlt
         obtain ⟨j0, j1, j2, j3, jl⟩ := RGq.out.cells4
         go_wp2_with (at_builtin; refine wpList_app rfl (.tmp 73) (.tmp 84) 35 rfl wx.heap.size 3 (.int .i64 0) 1 8 Try.underlying35 int_infoN rfl (by decide) (by decide) (.slice UA j uc) (j) ((ints ((hoodIn g t.hood (x : Int) (y : Int)).take j))) rfl ?own (wq.heap.size + 1) (some ⟨wq.heap.size, 0, none⟩) 1 1 [.int .i64 gv] rfl ?rd ?one ?hb ?hbase ?_)
         case own => exact (OUq.out).alloc _
         case rd => exact Rd.lit wq #[.int .i64 gv] 3 (sz := 1) (m := 1) rfl
         case one => first | (intro u hu; simp at hu; subst hu; rfl) | rfl
         case hb => omega
         case hbase => first | (simp; omega) | omega
         intro v' w' hown' hgrow' hat'
         clear j0 j1 j2 j3 jl hgc hm1 hm2 hix
         obtain ⟨VB, vd, rfl, _⟩ := Rd.own hown'
         have OU5 : Hid (w'.ownsRow wx.heap.size 3 1 (.slice VB (j + 1) vd) (j + 1) (ints ((hoodIn g t.hood (x : Int) (y : Int)).take (j + 1)))) := (by show World.ownsRow _ _ _ _ _ _ _; rw [HSN.out]; exact hown')
         have BN5 : Hid (Below wx.heap.size wx w') := ((below_on2 BN.out BNq.out).alloc (by omega) _).grown hgrow' (by simp; omega) (fun q hq => (OUq.out.lt q hq).1)
         clear hown' hgrow' hat' BNq OUq
         go_wp2
         go_roundg (hn - (j + 1))
         case measure => omega
         case rel => exact ⟨j + 1, _, by omega, by omega, by go_num, rfl, BN5.out, OU5.out⟩
      ·have hljz : ¬ (j : Int) < (hn : Int) := by omega
       obtain rfl : hn = j := by omega
       have HIU : Hid (Rd wr wr.heap.size 1 UA hn (ints (hoodIn g t.hood (x : Int) (y : Int)))) := (by
        have h9 := OU.out
        rw [List.take_of_length_le (by rw [HIL.out]; exact Nat.le_refl _)] at h9
        exact Rd.of_own h9)
       have OWr : Hid (wr.ownsRow w.heap.size 3 1 v kk (ints (nextTo t g W kk))) := own_below OWk.out BN.out (Nat.le_refl _)
       obtain ⟨XA, xc, rfl, _⟩ := Rd.own OWr.out
       have RTr : Hid (Row wr w.heap.size 25 [.int .i64 t.states, .slice HA hn hc, .slice NA nn nc]) := rowCells RTx.out BN.out
       have RGr : Hid (Row wr (w.heap.size + 1) 54 [.int .i64 g.w, .int .i64 g.h, .int .i64 g.edge, .slice A n ac]) := rowCells RGx.out BN.out
       have RZr : Hid (Row wr (w.heap.size + 1 + 1) 54 [.int .i64 0, .int .i64 0, .int .i64 0, .slice none 0 0]) := rowCells RZx.out BN.out
       have ROr : Hid (Row wr (w.heap.size + 1 + 1 + 1) 54 [.int .i64 g.w, .int .i64 g.h, .int .i64 g.edge, .slice XA kk xc]) := rowCells ROx.out BN.out
       have HVL : Hid (nextTo t g W (kk + 1) = nextTo t g W kk ++ [valueT t (hoodIn g t.hood (x : Int) (y : Int))]) := (by
        show _ = _
        rw [nextTo_succ, HKK.out, (cell_of hlx).1, (cell_of hlx).2]; rfl)
       obtain ⟨nv, hnv⟩ : ∃ nv, valueT t (hoodIn g t.hood (x : Int) (y : Int)) = nv := ⟨_, rfl⟩
       have HNV : Hid (valueT t (hoodIn g t.hood (x : Int) (y : Int)) = nv) := hnv
       rw [hnv] at HVL
       have HVC : Hid (ints (nextTo t g W (kk + 1)) = ints (nextTo t g W kk) ++ [.int .i64 nv]) := (by show _ = _; rw [HVL.out]; simp [ints])
       clear hnv
       obtain ⟨k0, k1, k2, kl⟩ := RTr.out.cells3
       have of0 := ROr.out.frozen 0
       have of1 := ROr.out.frozen 1
       have of2 := ROr.out.frozen 2
       have of3 := ROr.out.frozen 3
       go_wp2_with fail
       refine wp_region_L (fun w' => Row w' w.heap.size 25 [.int .i64 t.states, .slice HA hn hc, .slice NA nn nc] ∧ Row w' (w.heap.size + 1 + 1 + 1) 54 [.int .i64 g.w, .int .i64 g.h, .int .i64 g.edge, .slice XA kk xc]) [6, 7, 8] (by kernel_rfl) (by exact ⟨RTr.out.drew, ROr.out.drew⟩) (fun hHeld => ?_)
       have RTd : Hid (Row wr.drew w.heap.size 25 [.int .i64 t.states, .slice HA hn hc, .slice NA nn nc]) := hHeld.1
       have ROd : Hid (Row wr.drew (w.heap.size + 1 + 1 + 1) 54 [.int .i64 g.w, .int .i64 g.h, .int .i64 g.edge, .slice XA kk xc]) := hHeld.2
       have BNd : Hid (Below wr.heap.size wr wr.drew) := (Below.refl _ _).drew
       have OUd : Hid (wr.drew.ownsRow w.heap.size 3 1 (.slice XA kk xc) kk (ints (nextTo t g W kk))) := OWr.out
       have HSX : Hid (w.heap.size ≤ wr.heap.size) := BWr.out.size
       clear RTr ROr k0 k1 k2 kl of0 of1 of2 of3
       revert hHeld RTd ROd BNd OUd
       generalize wr.drew = wQ
       intro hHeld RTd ROd BNd OUd
       refine lPureW 0 ?vb1 rfl (by rfl) ?yb1 ?rb1
       case yb1 => intro w' hSw; clear hSw; go_simp; try (with_reducible rfl)
       go_simp
       refine lPureW 3 ?vb2 rfl (by rfl) ?yb2 ?rb2
       case yb2 => intro w' hSw; clear hSw; go_simp; try (with_reducible rfl)
       go_simp
       refine lTakeW 1 ?vb3 [[6], [7], [8]] rfl (by rfl) ?yb3 hHeld ?rb3
       case yb3 =>
        intro w' hSw
        have hSh : Hid (Row w' w.heap.size 25 [.int .i64 t.states, .slice HA hn hc, .slice NA nn nc]) := hSw.1
        have hSp : Hid (Row w' (w.heap.size + 1 + 1 + 1) 54 [.int .i64 g.w, .int .i64 g.h, .int .i64 g.edge, .slice XA kk xc]) := hSw.2
        clear hSw
        obtain ⟨z0, z1, z2, zl⟩ := hSh.out.cells3
        obtain ⟨y0, y1, y2, y3, yl⟩ := hSp.out.cells4
        go_simp
        try (with_reducible rfl)
       go_simp
       refine lTakeW 2 ?vb4 [[6, 4], [7], [8]] rfl (by rfl) ?yb4 hHeld ?rb4
       case yb4 =>
        intro w' hSw
        have hSh : Hid (Row w' w.heap.size 25 [.int .i64 t.states, .slice HA hn hc, .slice NA nn nc]) := hSw.1
        have hSp : Hid (Row w' (w.heap.size + 1 + 1 + 1) 54 [.int .i64 g.w, .int .i64 g.h, .int .i64 g.edge, .slice XA kk xc]) := hSw.2
        clear hSw
        obtain ⟨z0, z1, z2, zl⟩ := hSh.out.cells3
        obtain ⟨y0, y1, y2, y3, yl⟩ := hSp.out.cells4
        go_simp
        try (with_reducible rfl)
       go_simp
       refine restL_one (i := 4) (by kernel_rfl) rfl (fun K hK => ?_)
       go_simp
       go_at_call 48
       have HCT := rValue_any t HA NA UA hn hc nn nc hn uc sl (hoodIn g t.hood (x : Int) (y : Int)) wQ (HT.out.up (below_on2 BWr.out BNd.out)) (HIU.out.up BNd.out) HOK.out.rt (hoodIn_length _ _ _ _) HIA.out
       rw [HNV.out] at HCT
       with_reducible refine HCT.mono ?_
       clear HCT
       rintro e w4 ⟨rfl, hb⟩
       have RTp : Hid (Row w4 w.heap.size 25 [.int .i64 t.states, .slice HA hn hc, .slice NA nn nc]) := rowCells RTd.out hb
       have ROp : Hid (Row w4 (w.heap.size + 1 + 1 + 1) 54 [.int .i64 g.w, .int .i64 g.h, .int .i64 g.edge, .slice XA kk xc]) := rowCells ROd.out hb
       have BNp : Hid (Below wr.heap.size wr w4) := below_on2 BNd.out hb
       have OUp : Hid (w4.ownsRow w.heap.size 3 1 (.slice XA kk xc) kk (ints (nextTo t g W kk))) := own_below OUd.out hb (Nat.le_refl _)
       have hszp := BNp.out.size
       have hszx := HSX.out
       clear hb hHeld RTd ROd BNd OUd
       refine hK.out _ _ (fun _ => ?keep) (fun hHeld => ?_)
       case keep => exact ⟨RTp.out, ROp.out⟩
       have hHeld := hHeld rfl
       clear hK K
       try go_simp
       refine restL_one (i := 5) (by kernel_rfl) rfl (fun K hK => ?_)
       go_simp
       refine hK.out _ _ (fun _ => ?keep) (fun hHeld => ?_)
       case keep => exact ⟨RTp.out.alloc _, ROp.out.alloc _⟩
       have hHeld := hHeld rfl
       clear hK K
       try go_simp
       refine restL_one (i := 6) (by kernel_rfl) rfl (fun K hK => ?_)
       refine step_app rfl (.tmp 87) (.tmp 91) 35 rfl w.heap.size 3 (.int .i64 0) 1 8 Try.underlying35 int_infoN rfl (by decide) (by decide) (.slice XA kk xc) kk (ints (nextTo t g W kk)) rfl ?own (w4.heap.size + 1) (some ⟨w4.heap.size, 0, none⟩) 1 1 [.int .i64 nv] rfl ?rd ?one ?hb ?hbase ?_
       case own => exact OUp.out.alloc _
       case rd => exact Rd.lit w4 #[.int .i64 nv] 3 (sz := 1) (m := 1) rfl
       case one => first | (intro u hu; simp at hu; subst hu; rfl) | rfl
       case hb => omega
       case hbase => first | (simp; omega) | omega
       intro v' w5 hown' hgrow' hat'
       obtain ⟨VB, vd, rfl, _⟩ := Rd.own hown'
       have OU5 : Hid (w5.ownsRow w.heap.size 3 1 (.slice VB (kk + 1) vd) (kk + 1) (ints (nextTo t g W (kk + 1)))) := (by show World.ownsRow _ _ _ _ _ _ _; rw [HVC.out]; exact hown')
       have RO5 : Hid (Row w5 (w.heap.size + 1 + 1 + 1) 54 [.int .i64 g.w, .int .i64 g.h, .int .i64 g.edge, .slice XA kk xc]) := (ROp.out.alloc _).grown hgrow' (fun e => own_ne_row OUp.out ROp.out (by decide) e.symm)
       have RT5 : Hid (Row w5 w.heap.size 25 [.int .i64 t.states, .slice HA hn hc, .slice NA nn nc]) := (RTp.out.alloc _).grown hgrow' (fun e => own_ne_row OUp.out RTp.out (by decide) e.symm)
       have RG4 : Hid (Row w4 (w.heap.size + 1) 54 [.int .i64 g.w, .int .i64 g.h, .int .i64 g.edge, .slice A n ac]) := rowCells RGr.out BNp.out
       have RZ4 : Hid (Row w4 (w.heap.size + 1 + 1) 54 [.int .i64 0, .int .i64 0, .int .i64 0, .slice none 0 0]) := rowCells RZr.out BNp.out
       have RG5 : Hid (Row w5 (w.heap.size + 1) 54 [.int .i64 g.w, .int .i64 g.h, .int .i64 g.edge, .slice A n ac]) := (RG4.out.alloc _).grown hgrow' (fun e => own_ne_row OUp.out RG4.out (by decide) e.symm)
       have RZ5 : Hid (Row w5 (w.heap.size + 1 + 1) 54 [.int .i64 0, .int .i64 0, .int .i64 0, .slice none 0 0]) := (RZ4.out.alloc _).grown hgrow' (fun e => own_ne_row OUp.out RZ4.out (by decide) e.symm)
       have BW5 : Hid (Below w.heap.size w w5) := ((below_on2 BWr.out BNp.out).alloc (by omega) _).grown hgrow' (by simp; omega) (fun q hq => (OUp.out.lt q hq).1)
       have q3 := RO5.out.cell 3
       have qf := RO5.out.frozen 3
       have ql := RO5.out.lt
       simp only [List.getElem?_cons_zero, List.getElem?_cons_succ] at q3
       clear hown' hgrow' hat' RTp ROp BNp OUp hszp hszx RG4 RZ4
       refine hK.out _ _ (fun h => absurd h (by decide)) (fun _ => ?_)
       clear hK K
       try go_simp
       refine lPureW 7 ?vb5 rfl (by rfl) ?yb5 ?rb5
       case yb5 => intro w' hSw; clear hSw; go_simp; try (with_reducible rfl)
       go_simp
       refine restL_one (i := 8) (by kernel_rfl) rfl (fun K hK => ?_)
       go_simp
       refine hK.out _ _ (fun h => absurd h (by decide)) (fun _ => ?_)
       clear hK K
       try go_simp
       refine restL_done (by kernel_rfl) ?_ _
       have RO6 : Hid (Row (World.setCell w5 ⟨w.heap.size + 1 + 1 + 1, 3, none⟩ (.slice VB (kk + 1) vd)) (w.heap.size + 1 + 1 + 1) 54 [.int .i64 g.w, .int .i64 g.h, .int .i64 g.edge, .slice VB (kk + 1) vd]) := RO5.out.set 3 _
       have RT6 : Hid (Row (World.setCell w5 ⟨w.heap.size + 1 + 1 + 1, 3, none⟩ (.slice VB (kk + 1) vd)) w.heap.size 25 [.int .i64 t.states, .slice HA hn hc, .slice NA nn nc]) := RT5.out.far (p := ⟨w.heap.size + 1 + 1 + 1, 3, none⟩) (by show w.heap.size ≠ (w.heap.size + 1 + 1 + 1); omega) _
       have RG6 : Hid (Row (World.setCell w5 ⟨w.heap.size + 1 + 1 + 1, 3, none⟩ (.slice VB (kk + 1) vd)) (w.heap.size + 1) 54 [.int .i64 g.w, .int .i64 g.h, .int .i64 g.edge, .slice A n ac]) := RG5.out.far (p := ⟨w.heap.size + 1 + 1 + 1, 3, none⟩) (by show (w.heap.size + 1) ≠ (w.heap.size + 1 + 1 + 1); omega) _
       have RZ6 : Hid (Row (World.setCell w5 ⟨w.heap.size + 1 + 1 + 1, 3, none⟩ (.slice VB (kk + 1) vd)) (w.heap.size + 1 + 1) 54 [.int .i64 0, .int .i64 0, .int .i64 0, .slice none 0 0]) := RZ5.out.far (p := ⟨w.heap.size + 1 + 1 + 1, 3, none⟩) (by show (w.heap.size + 1 + 1) ≠ (w.heap.size + 1 + 1 + 1); omega) _
       have BW6 : Hid (Below w.heap.size w (World.setCell w5 ⟨w.heap.size + 1 + 1 + 1, 3, none⟩ (.slice VB (kk + 1) vd))) := BW5.out.setCell (p := ⟨w.heap.size + 1 + 1 + 1, 3, none⟩) (by show _ ≤ (w.heap.size + 1 + 1 + 1); omega) _
       have OW6 : Hid (World.ownsRow (World.setCell w5 ⟨w.heap.size + 1 + 1 + 1, 3, none⟩ (.slice VB (kk + 1) vd)) w.heap.size 3 1 (.slice VB (kk + 1) vd) (kk + 1) (ints (nextTo t g W (kk + 1)))) := own_set (p := ⟨w.heap.size + 1 + 1 + 1, 3, none⟩) OU5.out RO5.out (by decide) _
       clear RO5 RT5 RG5 RZ5 BW5 OU5 q3 qf ql
       revert RO6 RT6 RG6 RZ6 BW6 OW6
       generalize (World.setCell w5 ⟨w.heap.size + 1 + 1 + 1, 3, none⟩ (.slice VB (kk + 1) vd)) = w6
       intro RO6 RT6 RG6 RZ6 BW6 OW6
       go_wp2
       go_roundg (W - (x + 1))
       case measure => omega
       case rel => exact ⟨x + 1, _, by omega, by omega, by go_num, BW6.out, RT6.out, RG6.out, RZ6.out, RO6.out, (by rw [← Nat.add_assoc, ← HKK.out]; exact OW6.out)⟩
    ·have hlxz : ¬ (x : Int) < g.w := by have := HW.out; omega
     obtain rfl : W = x := by omega
     have OW2 : Hid (wr.ownsRow w.heap.size 3 1 v ((y + 1) * W) (ints (nextTo t g W ((y + 1) * W)))) := (by show World.ownsRow _ _ _ _ _ _ _; rw [Nat.add_mul, Nat.one_mul]; exact OW.out)
     go_wp2
     go_roundg (Hh - (y + 1))
     case measure => omega
     case rel => exact ⟨y + 1, v, by omega, by omega, by go_num, BW.out, RT.out, RG.out, RZ.out, RO.out, OW2.out⟩
  ·have hlyz : ¬ (y : Int) < g.h := by have := HH.out; omega
   obtain rfl : Hh = y := by omega
   have OWn : Hid (wr.ownsRow w.heap.size 3 1 v n (ints (nextG t g).cells)) := (by
    have h9 := OW.out
    rw [← HNWH.out] at h9
    have e : nextTo t g W n = (nextG t g).cells := by
     show _ = nextTo t g g.w.toNat g.cells.length
     rw [HL.out, HW.out, Int.toNat_natCast]
    rw [e] at h9; exact h9)
   obtain ⟨VB, vd, rfl, _⟩ := Rd.own OWn.out
   have HRES : Hid (GridPost (nextG t g) w (.returned (.agg #[.int .i64 g.w, .int .i64 g.h, .int .i64 g.edge, (.slice VB n vd)])) (World.setCell (World.setCell (World.setCell (World.setCell wr ⟨(w.heap.size + 1 + 1), 0, none⟩ (.int .i64 g.w)) ⟨(w.heap.size + 1 + 1), 1, none⟩ (.int .i64 g.h)) ⟨(w.heap.size + 1 + 1), 2, none⟩ (.int .i64 g.edge)) ⟨(w.heap.size + 1 + 1), 3, none⟩ (.slice VB n vd))) := by
    refine ⟨VB, n, vd, rfl, ⟨Rd.of_own (base := w.heap.size) (e := 3) (c := vd) ?_, by unfold maxLen; omega⟩, own_newOr OWn.out 0 rfl, ?_⟩
    ·exact own_set (p := ⟨(w.heap.size + 1 + 1), 3, none⟩) (own_set (p := ⟨(w.heap.size + 1 + 1), 2, none⟩) (own_set (p := ⟨(w.heap.size + 1 + 1), 1, none⟩) (own_set (p := ⟨(w.heap.size + 1 + 1), 0, none⟩) OWn.out RZ.out (by decide) _) (RZ.out.set 0 _) (by decide) _) ((RZ.out.set 0 _).set 1 _) (by decide) _) (((RZ.out.set 0 _).set 1 _).set 2 _) (by decide) _
    ·exact (((BW.out.setCell (p := ⟨(w.heap.size + 1 + 1), 0, none⟩) (by show _ ≤ (w.heap.size + 1 + 1); omega) _).setCell (p := ⟨(w.heap.size + 1 + 1), 1, none⟩) (by show _ ≤ (w.heap.size + 1 + 1); omega) _).setCell (p := ⟨(w.heap.size + 1 + 1), 2, none⟩) (by show _ ≤ (w.heap.size + 1 + 1); omega) _).setCell (p := ⟨(w.heap.size + 1 + 1), 3, none⟩) (by show _ ≤ (w.heap.size + 1 + 1); omega) _
   have Z9 := (((RZ.out.set 0 (.int .i64 g.w)).set 1 (.int .i64 g.h)).set 2 (.int .i64 g.edge)).set 3 (.slice VB n vd)
   have r0 := Z9.cell 0
   have r1 := Z9.cell 1
   have r2 := Z9.cell 2
   have r3 := Z9.cell 3
   simp only [List.getElem?_cons_zero, List.getElem?_cons_succ, List.set_cons_zero, List.set_cons_succ] at r0 r1 r2 r3
   clear Z9 OWn OW
   obtain ⟨e0, e1, e2, e3, el⟩ := RO.out.cells4
   obtain ⟨d0, d1, d2, d3, dl⟩ := RZ.out.cells4
   have df0 := RZ.out.frozen 0
   have df1 := RZ.out.frozen 1
   have df2 := RZ.out.frozen 2
   have df3 := RZ.out.frozen 3
   go_wp2
   refine bodyPost_ret (v := .agg #[.int .i64 g.w, .int .i64 g.h, .int .i64 g.edge, (.slice VB n vd)]) (by simp [results, Try.results28, go_sem, r0, r1, r2, r3]) rfl ?_
   exact HRES.out
end Go.Proofs.Ytiemhbogbaamlaa

/-
 A part.
-/
namespace Go.Proofs.Ytiemhbogbaamlaa
open Go.RowKit
set_option linter.unusedSimpArgs false
set_option linter.unusedVariables false
set_option maxHeartbeats 1000000 in
theorem rGRight_any (g : Grd) (A : Option Addr) (n c : Nat) (w : World) (h : GAt w g A n) :
 Calls Try.prog 23 #[.agg #[.int .i64 g.w, .int .i64 g.h, .int .i64 g.edge, .slice A n c]] w fun e w' => e = .returned (.bool (rightG g)) ∧ Below w.heap.size w w' := by
 have H : Hid (GAt w g A n) := h
 have HL : Hid (g.cells.length = n) := h.cl
 have hm := h.c63
 unfold maxLen at hm
 clear h
 cases hs : sizedF g.w g.h g.edge
 ·have hr : rightG g = false := by simp [rightG, hs]
  rw [hr]
  go_enter Try.func23, Try.ntmps23
  go_wp2_with fail
  refine (rSize_any g.w g.h g.edge _).mono ?_
  rw [hs]
  rintro e w1 ⟨rfl, rfl⟩
  go_wp2
  go_ret
  exact ⟨rfl, by go_grown⟩
 ·obtain ⟨⟨q1, q2⟩, ⟨h1, h2⟩, hm', he1, he2⟩ := sizedF_parts hs
  obtain ⟨p1, p2⟩ := prod_bd ⟨q1, q2⟩ ⟨h1, h2⟩
  by_cases hl : (n : Int) = g.w * g.h
  ·have hr : Hid (rightG g = g.cells.all stateOk) := by show _ = _; simp [rightG, hs, HL.out, hl]
   have hb1 : ((n : Int) != g.w * g.h) = false := by simpa using hl
   clear hl
   go_enter Try.func23, Try.ntmps23
   go_wp2_with fail
   refine (rSize_any g.w g.h g.edge _).mono ?_
   rw [hs]
   rintro e w1 ⟨rfl, rfl⟩
   go_wp2
   go_loopg [3] n (fun gg s3 wr => ∃ kk : Nat, kk ≤ n ∧ n - kk ≤ gg ∧ s3 = .int .i64 kk ∧ wr = w.alloc (.cells #[.int .i64 g.w, .int .i64 g.h, .int .i64 g.edge, .slice A n c] 54) ∧ Aside (∀ j, j < kk → stateOk (g.cells.getD j 0) = true))
   case atStart => exact ⟨0, Nat.zero_le _, by omega, rfl, rfl, fun j hj => absurd hj (Nat.not_lt_zero _)⟩
   case round =>
    obtain ⟨kk, hkk, hg, rfl, rfl, AA⟩ := hrel
    by_cases hlt : kk < n
    ·have hltz : (kk : Int) < (n : Int) := by omega
     obtain ⟨ad, rfl, hb, hcell⟩ := H.out.cells.int hlt
     have hadz : (ad.add kk).block < w.heap.size := by rw [add_block]; exact hb
     generalize hy : g.cells.getD kk 0 = y at hcell
     have HY : Aside (g.cells.getD kk 0 = y) := hy
     clear hy
     by_cases hs1 : y < 0
     ·go_wp2
      go_ret
      refine ⟨ret_bool ?_, by go_grown⟩
      rw [hr.out]
      exact (all_false_at _ _ kk (by rw [HL.out]; exact hlt) (by rw [HY.out]; unfold stateOk; rw [decide_eq_false]; omega)).symm
     ·by_cases hs2 : 8 ≤ y
      ·go_wp2
       go_ret
       refine ⟨ret_bool ?_, by go_grown⟩
       rw [hr.out]
       exact (all_false_at _ _ kk (by rw [HL.out]; exact hlt) (by rw [HY.out]; unfold stateOk; rw [decide_eq_false]; omega)).symm
      ·go_wp2
       go_roundg (n - (kk + 1))
       case measure => omega
       case rel =>
        refine ⟨kk + 1, by omega, by omega, by go_num, rfl, (show Aside _ from fun j hj => ?_)⟩
        by_cases e : j = kk
        ·subst e
         rw [HY.out]; unfold stateOk; rw [decide_eq_true_eq]; omega
        ·exact AA.out j (by omega)
    ·have hltz : ¬ (kk : Int) < (n : Int) := by omega
     obtain rfl : kk = n := by omega
     go_wp2
     go_ret
     refine ⟨ret_bool ?_, by go_grown⟩
     rw [hr.out]
     exact (all_true_at _ _ (fun k hk => AA.out k (by rw [HL.out] at hk; exact hk))).symm
  ·have hr : rightG g = false := by simp [rightG, hs, HL.out, hl]
   rw [hr]
   have hb1 : ((n : Int) != g.w * g.h) = true := by simpa using hl
   clear hr
   go_enter Try.func23, Try.ntmps23
   go_wp2_with fail
   refine (rSize_any g.w g.h g.edge _).mono ?_
   rw [hs]
   rintro e w1 ⟨rfl, rfl⟩
   go_wp2
   all_goals go_ret
   all_goals exact ⟨rfl, by go_grown⟩
set_option maxHeartbeats 1000000 in
theorem rGSame_any (a b : Grd) (A B : Option Addr) (n c m d : Nat) (w : World) (ha : GAt w a A n) (hb : GAt w b B m) :
 Calls Try.prog 27 #[.agg #[.int .i64 a.w, .int .i64 a.h, .int .i64 a.edge, .slice A n c], .agg #[.int .i64 b.w, .int .i64 b.h, .int .i64 b.edge, .slice B m d]] w fun e w' => e = .returned (.bool (sameG a b)) ∧ Below w.heap.size w w' := by
 have HA : Hid (GAt w a A n) := ha
 have HB : Hid (GAt w b B m) := hb
 have LA : Hid (a.cells.length = n) := ha.cl
 have LB : Hid (b.cells.length = m) := hb.cl
 have h1 := ha.c63
 have h2 := hb.c63
 unfold maxLen at h1 h2
 clear ha hb
 by_cases hq : a.w = b.w ∧ a.h = b.h ∧ a.edge = b.edge ∧ n = m
 ·obtain ⟨q1, q2, q3, q4⟩ := hq
  have HE : Hid (sameG a b = decide (a.cells = b.cells)) := by show _ = _; simp [sameG, q1, q2, q3]
  have e1 : (a.w != b.w) = false := by simpa using q1
  have e2 : (a.h != b.h) = false := by simpa using q2
  have e3 : (a.edge != b.edge) = false := by simpa using q3
  subst q4
  clear q1 q2 q3
  go_enter Try.func27, Try.ntmps27
  go_wp2
  go_loopg [5] n (fun gg s5 wr => ∃ kk : Nat, kk ≤ n ∧ n - kk ≤ gg ∧ s5 = .int .i64 kk ∧ Aside (Below (w.heap.size + 1 + 1) ((w.alloc (.cells #[.int .i64 a.w, .int .i64 a.h, .int .i64 a.edge, .slice A n c] 54)).alloc (.cells #[.int .i64 b.w, .int .i64 b.h, .int .i64 b.edge, .slice B n d] 54)) wr) ∧ Aside (∀ j, j < kk → a.cells.getD j 0 = b.cells.getD j 0))
  case atStart => exact ⟨0, Nat.zero_le _, by omega, rfl, Below.refl _ _, fun j hj => absurd hj (Nat.not_lt_zero _)⟩
  case round =>
   obtain ⟨kk, hkk, hg, rfl, BW, AA⟩ := hrel
   have a3 : wr.cell? ⟨w.heap.size, 3, none⟩ = some (.slice A n c) := (BW.out.cell (p := ⟨w.heap.size, 3, none⟩) (by simp; omega)).trans (by simp)
   have b3 : wr.cell? ⟨w.heap.size + 1, 3, none⟩ = some (.slice B n d) := (BW.out.cell (p := ⟨w.heap.size + 1, 3, none⟩) (by simp)).trans (by simp)
   have HBW : Hid (Below w.heap.size w wr) := (show Below w.heap.size w ((w.alloc (.cells #[.int .i64 a.w, .int .i64 a.h, .int .i64 a.edge, .slice A n c] 54)).alloc (.cells #[.int .i64 b.w, .int .i64 b.h, .int .i64 b.edge, .slice B n d] 54)) by go_grown).trans (BW.out.mono (by omega))
   by_cases hlt : kk < n
   ·have hltz : (kk : Int) < (n : Int) := by omega
    obtain ⟨ad, rfl, hb, hcell⟩ := (HA.out.up HBW.out).cells.int hlt
    obtain ⟨ad', rfl, hb', hcell'⟩ := (HB.out.up HBW.out).cells.int hlt
    generalize h1 : a.cells.getD kk 0 = x at hcell
    generalize h2 : b.cells.getD kk 0 = y at hcell'
    have HE : Aside (a.cells.getD kk 0 = x ∧ b.cells.getD kk 0 = y) := ⟨h1, h2⟩
    clear h1 h2
    cases hxy : (x != y)
    ·go_wp2_with fail
     go_quiet (fail)
     go_wp2
     go_roundg (n - (kk + 1))
     case measure => omega
     case rel =>
      refine ⟨kk + 1, by omega, by omega, by go_num, (show Below _ _ _ from below_drewN BW.out _), (show Aside _ from fun j hj => ?_)⟩
      by_cases e : j = kk
      ·subst e
       rw [HE.out.1, HE.out.2]
       simpa using hxy
      ·exact AA.out j (by omega)
    ·go_wp2_with fail
     go_quiet (fail)
     go_wp2
     go_ret
     refine ⟨ret_bool ?_, below_drewN HBW.out _⟩
     symm
     rename Hid (sameG a b = _) => HS
     rw [HS.out, decide_eq_false_iff_not]
     intro e
     have := HE.out.1.symm.trans ((congrArg (fun l => l.getD kk 0) e).trans HE.out.2)
     simp [this] at hxy
   ·have hltz : ¬ (kk : Int) < (n : Int) := by omega
    obtain rfl : kk = n := by omega
    go_wp2
    go_ret
    refine ⟨ret_bool ?_, HBW.out⟩
    symm
    rw [HE.out, decide_eq_true_iff]
    exact list_eq_of_getD (LA.out.trans LB.out.symm) 0 (fun k hk => AA.out k (by rw [LA.out] at hk; exact hk))
 ·have HE : Hid (sameG a b = false) := by
   show _ = _
   rw [Bool.eq_false_iff]
   intro e
   rw [sameG_iff] at e
   subst e
   exact hq ⟨rfl, rfl, rfl, LA.out.symm.trans LB.out⟩
  have hq' : ¬ (a.w = b.w ∧ a.h = b.h ∧ a.edge = b.edge ∧ (n : Int) = (m : Int)) := fun e => hq ⟨e.1, e.2.1, e.2.2.1, by omega⟩
  go_enter Try.func27, Try.ntmps27
  go_wp2
  all_goals first
   | (go_ret; rw [HE.out]; exact ⟨rfl, by go_grown⟩)
   | (exfalso; apply hq'; simp_all; done)
end Go.Proofs.Ytiemhbogbaamlaa

/-
 A part.
-/
namespace Go.Proofs.Ytiemhbogbaamlaa
open Go.RowKit
set_option linter.unusedSimpArgs false
set_option linter.unusedVariables false
end Go.Proofs.Ytiemhbogbaamlaa

/-
 A part.
-/
namespace Go.Proofs.Ytiemhbogbaamlaa
open Go.RowKit
set_option linter.unusedSimpArgs false
set_option linter.unusedVariables false
end Go.Proofs.Ytiemhbogbaamlaa

/-
 A part.
-/
namespace Go.Proofs.Ytiemhbogbaamlaa
open Go.RowKit
set_option linter.unusedSimpArgs false
set_option linter.unusedVariables false
end Go.Proofs.Ytiemhbogbaamlaa

/-
 A part.
-/
namespace Go.Proofs.Ytiemhbogbaamlaa
open Go.RowKit
set_option linter.unusedSimpArgs false
set_option linter.unusedVariables false
end Go.Proofs.Ytiemhbogbaamlaa
