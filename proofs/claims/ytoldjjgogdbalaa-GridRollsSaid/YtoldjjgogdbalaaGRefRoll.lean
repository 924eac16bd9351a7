/-
  The reference's Roll, walked.
-/
import Derived.Test.YtoldjjgogdbalaaGSet
import Derived.Test.YtoldjjgogdbalaaGRefRight
import Derived.Test.YtoldjjgogdbalaaGRollP
import Derived.BigRegion
import Derived.Deep.RegionLaw
import Derived.BigQuiet
import Derived.WalkSpells
import Derived.Deep.Light
import Derived.Deep.QuietTactic
import Derived.Deep.RegionHeld3
namespace Go.Proofs.Ytoldjjgogdbalaa
open Go.RowKit
set_option linter.unusedSimpArgs false
set_option linter.unusedVariables false

theorem rollR_err' {g : Grd} {dx dy : Int} (hk : rollErr g = 2) : rollR g dx dy = noGrd := by rw [rollR, if_neg (by rw [hk]; decide)]

set_option maxRecDepth 100000 in
set_option maxHeartbeats 30000000 in
theorem rGRoll_any (g : Grd) (A : Option Addr) (n c : Nat) (dx dy : Int) (w : World) (h : GAt w g A n) :
    Calls Try.prog 27 #[.agg #[.int .i64 g.w, .int .i64 g.h, .int .i64 g.edge, .slice A n c], .int .i64 dx, .int .i64 dy] w (GPost (rollR g dx dy) (rollErr g) w) := by
  have H : Hid (GAt w g A n) := h
  have HL : Hid (g.cells.length = n) := h.cl
  have hm := h.c63
  unfold maxLen at hm
  clear h
  go_enter Try.func27, Try.ntmps27
  go_wp2_with fail
  refine (rGRight_any g A n c _ (H.out.up (by go_grown))).mono ?_
  rintro e w1 ⟨rfl, hb⟩
  have HB : Hid (Below w.heap.size w w1) := below_next hb (by go_grown)
  have RC : Hid (Row w1 w.heap.size 24 [.int .i64 g.w, .int .i64 g.h, .int .i64 g.edge, .slice A n c]) := rowCells ((Row.new w 24 [.int .i64 g.w, .int .i64 g.h, .int .i64 g.edge, .slice A n c]).alloc _) hb
  have RD : Hid (Row w1 (w.heap.size + 1) 24 [.int .i64 0, .int .i64 0, .int .i64 0, .slice none 0 0]) := rowCells (rowNew1 w _ 24 [.int .i64 0, .int .i64 0, .int .i64 0, .slice none 0 0]) hb
  clear hb
  have c0 := RC.out.cell 0
  have c1 := RC.out.cell 1
  have c2 := RC.out.cell 2
  have c3 := RC.out.cell 3
  have d0 := RD.out.cell 0
  have d1 := RD.out.cell 1
  have d2 := RD.out.cell 2
  have d3 := RD.out.cell 3
  have g0 := RD.out.frozen 0
  have g1 := RD.out.frozen 1
  have g2 := RD.out.frozen 2
  have g3 := RD.out.frozen 3
  have l1 := RC.out.lt
  have l2 := RD.out.lt
  simp only [List.getElem?_cons_zero, List.getElem?_cons_succ] at c0 c1 c2 c3 d0 d1 d2 d3
  have HBB := HB.out
  cases hr : rightG g
  · have HK : Hid (rollErr g = 2) := by show _ = _; unfold rollErr; rw [hr, if_neg (by simp)]
    go_wp2
    exact bodyPost_ret (v := .tuple #[.agg #[.int .i64 0, .int .i64 0, .int .i64 0, .slice none 0 0], .int .i64 2]) (by simp [results, Try.results27, go_sem, d0, d1, d2, d3]) rfl (gpost_err (rollR_err' HK.out) HK.out (by go_grown))
  · by_cases he : g.edge = 1
    · have HK : Hid (rollErr g = 0) := by show _ = _; unfold rollErr; rw [if_pos ⟨hr, he⟩]
      obtain ⟨hs, hl, ha⟩ := rightG_parts hr
      obtain ⟨⟨q1, q2⟩, ⟨h1, h2⟩, hm', he1, he2⟩ := sizedF_parts hs
      obtain ⟨p1, p2⟩ := prod_bd ⟨q1, q2⟩ ⟨h1, h2⟩
      have HN : Hid ((n : Int) = g.w * g.h) := by have := HL.out; show _ = _; omega
      have hn4 : n ≤ 4096 := by have := HN.out; omega
      have hec : (g.edge != 1) = false := by simpa using he
      have HV : Hid (rollR g dx dy = { g with cells := rollTo g.w g.h dx dy g.cells g.h.toNat }) := by show _ = _; rw [rollR, if_pos HK.out]
      clear hr hs hl ha he
      obtain ⟨wn, hwn⟩ : ∃ m : Nat, g.w = (m : Int) := ⟨g.w.toNat, by omega⟩
      obtain ⟨hn, hhn⟩ : ∃ m : Nat, g.h = (m : Int) := ⟨g.h.toNat, by omega⟩
      have HW : Hid (g.w = (wn : Int)) := hwn
      have HH : Hid (g.h = (hn : Int)) := hhn
      have HWN : Hid (g.w.toNat = wn) := by show _ = _; omega
      have HHN : Hid (g.h.toNat = hn) := by show _ = _; omega
      have hw8 : wn ≤ 256 := by omega
      have hh8 : hn ≤ 256 := by omega
      have hw1 : 1 ≤ wn := by omega
      have hh1 : 1 ≤ hn := by omega
      clear hwn hhn
      obtain ⟨a1, a2⟩ := mod_bd dx g.w (by omega)
      obtain ⟨b1, b2⟩ := mod_bd dy g.h (by omega)
      have HRA : Hid (∀ x y : Nat, rollAt g.w g.h dx dy x y = (((y : Int) - dy % g.h) % g.h) * g.w + ((x : Int) - dx % g.w) % g.w) := fun x y => rfl
      generalize ha' : dx % g.w = a at a1 a2 HRA
      generalize hb' : dy % g.h = b at b1 b2 HRA
      have HA : Hid (dx % g.w = a) := ha'
      have HBm : Hid (dy % g.h = b) := hb'
      clear ha' hb'
      have hob := HBB.size
      go_wp2
      have RO1 : Hid (Row (World.alloc w1 (.cells #[.int .i64 g.w, .int .i64 g.h, .int .i64 g.edge, .slice none 0 0] 24)) w1.heap.size 24 [.int .i64 g.w, .int .i64 g.h, .int .i64 g.edge, .slice none 0 0]) := Row.new w1 24 [.int .i64 g.w, .int .i64 g.h, .int .i64 g.edge, .slice none 0 0]
      have HB1 : Hid (Below w1.heap.size w1 (World.alloc w1 (.cells #[.int .i64 g.w, .int .i64 g.h, .int .i64 g.edge, .slice none 0 0] 24))) := by show Below _ _ _; go_grown
      clear c0 c1 c2 c3 d0 d1 d2 d3 g0 g1 g2 g3 HBB
      go_loopg [9] hn (fun gg s9 wr => ∃ (yy : Nat) (vo : Value), yy ≤ hn ∧ hn - yy ≤ gg ∧ s9 = .int .i64 yy ∧ Aside (Below w1.heap.size w1 wr) ∧ Aside (Row wr w1.heap.size 24 [.int .i64 g.w, .int .i64 g.h, .int .i64 g.edge, vo]) ∧ Aside (wr.ownsRow (w1.heap.size + 1) 3 1 vo (yy * wn) (ints (rollTo g.w g.h dx dy g.cells yy))))
      case atStart => exact ⟨0, .slice none 0 0, Nat.zero_le _, by omega, rfl, HB1.out, RO1.out, by rw [Nat.zero_mul]; exact World.ownsRow_nil _ _ _ _⟩
      case round =>
        clear RO1 HB1
        obtain ⟨yy, vo, hyy, hgg, rfl, BW, RO, OW⟩ := hrel
        have RCr : Hid (Row wr w.heap.size 24 [.int .i64 g.w, .int .i64 g.h, .int .i64 g.edge, .slice A n c]) := rowCells RC.out BW.out
        have c0 := RCr.out.cell 0
        have c1 := RCr.out.cell 1
        have l1 := RCr.out.lt
        simp only [List.getElem?_cons_zero, List.getElem?_cons_succ] at c0 c1
        by_cases hlty : yy < hn
        · have hltyz : (yy : Int) < g.h := by have := HH.out; omega
          go_wp2
          clear c0 c1 l1
          go_loopg [10] wn (fun gg s10 wx => ∃ (xx : Nat) (vo : Value), xx ≤ wn ∧ wn - xx ≤ gg ∧ s10 = .int .i64 xx ∧ Aside (Below w1.heap.size w1 wx) ∧ Aside (Row wx w1.heap.size 24 [.int .i64 g.w, .int .i64 g.h, .int .i64 g.edge, vo]) ∧ Aside (wx.ownsRow (w1.heap.size + 1) 3 1 vo (yy * wn + xx) (ints (rollTo g.w g.h dx dy g.cells yy ++ rollRow g.w g.h dx dy g.cells yy xx))))
          case atStart => exact ⟨0, vo, Nat.zero_le _, by omega, rfl, BW.out, RO.out, by show World.ownsRow _ _ _ _ _ _ _; rw [show rollRow g.w g.h dx dy g.cells yy 0 = [] from rfl, List.append_nil, Nat.add_zero]; exact OW.out⟩
          case round =>
            rename World => wx
            clear BW RO OW RCr
            obtain ⟨xx, vo, hxx, hgg2, rfl, BW, RO, OW⟩ := hrel
            obtain ⟨Ao, co, rfl, _⟩ := Rd.own OW.out
            have RCr : Hid (Row wx w.heap.size 24 [.int .i64 g.w, .int .i64 g.h, .int .i64 g.edge, .slice A n c]) := rowCells RC.out BW.out
            have HBX : Hid (Below w.heap.size w wx) := below_on2 HB.out BW.out
            have c0 := RCr.out.cell 0
            have c1 := RCr.out.cell 1
            have c2 := RCr.out.cell 2
            have c3 := RCr.out.cell 3
            have o3 := RO.out.cell 3
            have k3 := RO.out.frozen 3
            have l1 := RCr.out.lt
            have l2 := RO.out.lt
            have hsz : w1.heap.size ≤ wx.heap.size := BW.out.size
            simp only [List.getElem?_cons_zero, List.getElem?_cons_succ] at c0 c1 c2 c3 o3
            by_cases hltx : xx < wn
            · have hltxz : (xx : Int) < g.w := by have := HW.out; omega
              obtain ⟨Y1, Y2⟩ := mod_bd ((yy : Int) - b) g.h (by omega)
              obtain ⟨X1, X2⟩ := mod_bd ((xx : Int) - a) g.w (by omega)
              have HAT : Hid (rollAt g.w g.h dx dy xx yy = _) := HRA.out xx yy
              have HRR : Hid (rollRow g.w g.h dx dy g.cells yy (xx + 1) = rollRow g.w g.h dx dy g.cells yy xx ++ [g.cells.getD (rollAt g.w g.h dx dy xx yy).toNat 0]) := by show _ = _; simp [rollRow, List.range_succ]
              generalize hY : ((yy : Int) - b) % g.h = Y at Y1 Y2 HAT
              generalize hX : ((xx : Int) - a) % g.w = X at X1 X2 HAT
              have HY : Hid (((yy : Int) - b) % g.h = Y) := hY
              have HX : Hid (((xx : Int) - a) % g.w = X) := hX
              rw [HAT.out] at HRR
              clear hX hY
              obtain ⟨pl1, pl2⟩ := place_bd (w := g.w) (h := g.h) ⟨X1, X2⟩ ⟨Y1, Y2⟩
              have hY0 : 0 ≤ Y * g.w := Int.mul_nonneg Y1 (by omega)
              have hidx : Y * g.w + X < (n : Int) := by have := HN.out; omega
              have hidn : (Y * g.w + X).toNat < n := by omega
              obtain ⟨ad, hadA, hbl, q0⟩ := (H.out.up HBX.out).cells.int hidn
              obtain ⟨ad2, hadA2, hbl2, q1c⟩ := (H.out.up HB.out).cells.int hidn
              rw [hadA] at hadA2
              cases hadA2
              subst hadA
              have HAD : Hid (ad.block < w1.heap.size) := hbl2
              clear hbl2
              have hyw : yy * wn + xx ≤ 100000 := by
                have : yy * wn ≤ 256 * 256 := Nat.mul_le_mul (by omega) hw8
                omega
              generalize g.cells.getD (Y * g.w + X).toNat 0 = v at q0 q1c HRR
              have u1 : IntKind.i64.wrap ((yy : Int) - b) = (yy : Int) - b := IntWalk.i64_in _ (by omega)
              have u2 : IntKind.i64.wrap ((xx : Int) - a) = (xx : Int) - a := IntWalk.i64_in _ (by omega)
              have u3 : IntKind.i64.wrap (Y * g.w) = Y * g.w := IntWalk.i64_in _ (by omega)
              have u4 : IntKind.i64.wrap (Y * g.w + X) = Y * g.w + X := IntWalk.i64_in _ (by omega)
              generalize hol : rollTo g.w g.h dx dy g.cells yy ++ rollRow g.w g.h dx dy g.cells yy xx = ol at OW
              have HOL : Hid (rollTo g.w g.h dx dy g.cells yy ++ rollRow g.w g.h dx dy g.cells yy (xx + 1) = ol ++ [v]) := by show _ = _; rw [HRR.out, ← hol, List.append_assoc]
              clear hol HRR HAT
              go_wp2
              have BB := BW.out
              have hbx : ad.block < w1.heap.size := HAD.out
              have HS : ∀ w', Below w1.heap.size w1 w' → w'.cell? ⟨w.heap.size, 0, none⟩ = some (.int .i64 g.w) ∧ w'.cell? ⟨w.heap.size, 1, none⟩ = some (.int .i64 g.h) ∧ w'.cell? ⟨w.heap.size, 3, none⟩ = some (.slice (some ad) n c) ∧ w'.cell? (ad.add (Y * g.w + X).toNat) = some (.int .i64 v) := fun w' hw => ⟨(rowCells RC.out hw).cell 0, (rowCells RC.out hw).cell 1, (rowCells RC.out hw).cell 3, (hw.cell (by rw [add_block]; exact hbx)).trans q1c⟩
              clear q1c
              refine wp_region_held_drew (S := fun w' => w'.cell? ⟨w.heap.size, 0, none⟩ = some (.int .i64 g.w) ∧ w'.cell? ⟨w.heap.size, 1, none⟩ = some (.int .i64 g.h) ∧ w'.cell? ⟨w.heap.size, 3, none⟩ = some (.slice (some ad) n c) ∧ w'.cell? (ad.add (Y * g.w + X).toNat) = some (.int .i64 v)) (by kernel_rfl) (by (try dsimp only); exact HS _ (by go_grown)) (fun hHeld => ?_)
              have BW2 : Hid (Below w1.heap.size w1 wx.drew) := (show Below _ _ _ by go_grown)
              have RO2 : Hid (Row wx.drew w1.heap.size 24 [.int .i64 g.w, .int .i64 g.h, .int .i64 g.edge, .slice Ao (yy * wn + xx) co]) := RO.out.drew
              have OW2 : Hid (wx.drew.ownsRow (w1.heap.size + 1) 3 1 (.slice Ao (yy * wn + xx) co) (yy * wn + xx) (ints ol)) := OW.out.drew
              clear BW RO OW RCr HBX BB c0 c1 c2 c3 o3 k3 l1 l2 hsz q0
              revert BW2 RO2 OW2 hHeld
              generalize wx.drew = wy
              intro hHeld BW2 RO2 OW2
              have BB := BW2.out
              have o3 := RO2.out.cell 3
              have l2 := RO2.out.lt
              have hsz : w1.heap.size ≤ wy.heap.size := BB.size
              simp only [List.getElem?_cons_zero, List.getElem?_cons_succ] at o3
              refine wpAnyH_take (i := 0) (v := ?vq1) rfl (by kernel_rfl) (by kernel_rfl) (by kernel_rfl) (fun _ _ _ h => h) (Or.inl ⟨by rfl, ?yq1⟩) (by assumption) ?rq1
              case yq1 => intro w' hSw; (try dsimp only at hSw); go_simp; try (with_reducible rfl)
              go_simp
              refine wpAnyH_take (i := 2) (v := ?vq2) rfl (by kernel_rfl) (by kernel_rfl) (by kernel_rfl) (fun _ _ _ h => h) (Or.inl ⟨by rfl, ?yq2⟩) (by assumption) ?rq2
              case yq2 => intro w' hSw; (try dsimp only at hSw); go_simp; try (with_reducible rfl)
              go_simp
              refine wpAnyH_take (i := 3) (v := ?vq3) rfl (by kernel_rfl) (by kernel_rfl) (by kernel_rfl) (fun _ _ _ h => h) (Or.inl ⟨by rfl, ?yq3⟩) (by assumption) ?rq3
              case yq3 => intro w' hSw; (try dsimp only at hSw); go_simp; try (with_reducible rfl)
              go_simp
              refine wpAnyH_take (i := 4) (v := ?vq4) rfl (by kernel_rfl) (by kernel_rfl) (by kernel_rfl) (fun _ _ _ h => h) (Or.inl ⟨by rfl, ?yq4⟩) (by assumption) ?rq4
              case yq4 => intro w' hSw; (try dsimp only at hSw); go_simp; try (with_reducible rfl)
              go_simp
              refine wpAnyH_take (i := 5) (v := ?vq5) rfl (by kernel_rfl) (by kernel_rfl) (by kernel_rfl) (fun _ _ _ h => h) (Or.inl ⟨by rfl, ?yq5⟩) (by assumption) ?rq5
              case yq5 => intro w' hSw; (try dsimp only at hSw); go_simp; try (with_reducible rfl)
              go_simp
              refine wpAnyH_take (i := 6) (v := ?vq6) rfl (by kernel_rfl) (by kernel_rfl) (by kernel_rfl) (fun _ _ _ h => h) (Or.inl ⟨by rfl, ?yq6⟩) (by assumption) ?rq6
              case yq6 => intro w' hSw; (try dsimp only at hSw); go_simp; try (with_reducible rfl)
              go_simp
              refine wpAnyH_take (i := 7) (v := ?vq7) rfl (by kernel_rfl) (by kernel_rfl) (by kernel_rfl) (fun _ _ _ h => h) (Or.inl ⟨by rfl, ?yq7⟩) (by assumption) ?rq7
              case yq7 => intro w' hSw; (try dsimp only at hSw); go_simp; try (with_reducible rfl)
              go_simp
              refine wpAnyH_take (i := 10) (v := ?vq8) rfl (by kernel_rfl) (by kernel_rfl) (by kernel_rfl) (fun _ _ _ h => h) (Or.inl ⟨by rfl, ?yq8⟩) (by assumption) ?rq8
              case yq8 => intro w' hSw; (try dsimp only at hSw); go_simp; try (with_reducible rfl)
              go_simp
              refine wpAnyH_take (i := 11) (v := ?vq9) rfl (by kernel_rfl) (by kernel_rfl) (by kernel_rfl) (fun _ _ _ h => h) (Or.inl ⟨by rfl, ?yq9⟩) (by assumption) ?rq9
              case yq9 => intro w' hSw; (try dsimp only at hSw); go_simp; try (with_reducible rfl)
              go_simp
              refine wpAnyH_take (i := 13) (v := ?vq10) rfl (by kernel_rfl) (by kernel_rfl) (by kernel_rfl) (fun _ _ _ h => h) (Or.inl ⟨by rfl, ?yq10⟩) (by assumption) ?rq10
              case yq10 => intro w' hSw; (try dsimp only at hSw); go_simp; try (with_reducible rfl)
              go_simp
              refine wpAnyH_take (i := 14) (v := ?vq11) rfl (by kernel_rfl) (by kernel_rfl) (by kernel_rfl) (fun _ _ _ h => h) (Or.inl ⟨by rfl, ?yq11⟩) (by assumption) ?rq11
              case yq11 => intro w' hSw; (try dsimp only at hSw); go_simp; try (with_reducible rfl)
              go_simp
              refine wpAnyH_take (i := 16) (v := ?vq12) rfl (by kernel_rfl) (by kernel_rfl) (by kernel_rfl) (fun _ _ _ h => h) (Or.inl ⟨by rfl, ?yq12⟩) (by assumption) ?rq12
              case yq12 => intro w' hSw; (try dsimp only at hSw); go_simp; try (with_reducible rfl)
              go_simp
              refine wpAnyH_take (i := 17) (v := ?vq13) rfl (by kernel_rfl) (by kernel_rfl) (by kernel_rfl) (fun _ _ _ h => h) (Or.inl ⟨by rfl, ?yq13⟩) (by assumption) ?rq13
              case yq13 => intro w' hSw; (try dsimp only at hSw); go_simp; try (with_reducible rfl)
              go_simp
              refine wpAnyH_take (i := 18) (v := ?vq14) rfl (by kernel_rfl) (by kernel_rfl) (by kernel_rfl) (fun _ _ _ h => h) (Or.inl ⟨by rfl, ?yq14⟩) (by assumption) ?rq14
              case yq14 => intro w' hSw; (try dsimp only at hSw); go_simp; try (with_reducible rfl)
              go_simp
              refine wpAnyH_take (i := 19) (v := ?vq15) rfl (by kernel_rfl) (by kernel_rfl) (by kernel_rfl) (fun _ _ _ h => h) (Or.inl ⟨by rfl, ?yq15⟩) (by assumption) ?rq15
              case yq15 => intro w' hSw; (try dsimp only at hSw); go_simp; try (with_reducible rfl)
              go_simp
              refine wpAnyH_take (i := 22) (v := ?vq16) rfl (by kernel_rfl) (by kernel_rfl) (by kernel_rfl) (fun _ _ _ h => h) (Or.inl ⟨by rfl, ?yq16⟩) (by assumption) ?rq16
              case yq16 => intro w' hSw; (try dsimp only at hSw); go_simp; try (with_reducible rfl)
              go_simp
              refine wpAnyH_take (i := 23) (v := ?vq17) rfl (by kernel_rfl) (by kernel_rfl) (by kernel_rfl) (fun _ _ _ h => h) (Or.inl ⟨by rfl, ?yq17⟩) (by assumption) ?rq17
              case yq17 => intro w' hSw; (try dsimp only at hSw); go_simp; try (with_reducible rfl)
              go_simp
              refine wpAnyH_ready (rs := [1, 8]) (by kernel_rfl) (by simp) ?_
              refine AllReadyH.cons rfl (fun K hK => ?_) (AllReadyH.cons rfl (fun K hK => ?_) AllReadyH.nil)
              · go_simp
                refine hK.out _ _ ?_ (fun hHeld => ?_)
                · (try dsimp only); exact HS _ (by go_grown)
                clear hK K
                try go_simp
                refine wpAnyH_ready (rs := [8]) (by kernel_rfl) (by simp) ?_
                refine AllReadyH.cons rfl (fun K hK => ?_) AllReadyH.nil
                go_simp
                go_at_call 40
                refine (rMod_any dy g.h _ h1 (by omega)).mono ?_
                rw [HBm.out]
                rintro e w' ⟨rfl, rfl⟩
                refine hK.out _ _ ?_ (fun hHeld => ?_)
                · (try dsimp only); exact HS _ (by go_grown)
                clear hK K
                try go_simp
                refine wpAnyH_take (i := 9) (v := ?vq18) rfl (by kernel_rfl) (by kernel_rfl) (by kernel_rfl) (fun _ _ _ h => h) (Or.inl ⟨by rfl, ?yq18⟩) (by assumption) ?rq18
                case yq18 => intro w' hSw; (try dsimp only at hSw); go_simp; try (with_reducible rfl)
                go_simp
                refine wpAnyH_ready (rs := [12]) (by kernel_rfl) (by simp) ?_
                refine AllReadyH.cons rfl (fun K hK => ?_) AllReadyH.nil
                go_simp
                go_at_call 40
                refine (rMod_any ((yy : Int) - b) g.h _ h1 (by omega)).mono ?_
                rw [HY.out]
                rintro e w' ⟨rfl, rfl⟩
                refine hK.out _ _ ?_ (fun hHeld => ?_)
                · (try dsimp only); exact HS _ (by go_grown)
                clear hK K
                try go_simp
                refine wpAnyH_take (i := 15) (v := ?vq19) rfl (by kernel_rfl) (by kernel_rfl) (by kernel_rfl) (fun _ _ _ h => h) (Or.inl ⟨by rfl, ?yq19⟩) (by assumption) ?rq19
                case yq19 => intro w' hSw; (try dsimp only at hSw); go_simp; try (with_reducible rfl)
                go_simp
                refine wpAnyH_ready (rs := [20]) (by kernel_rfl) (by simp) ?_
                refine AllReadyH.cons rfl (fun K hK => ?_) AllReadyH.nil
                go_simp
                go_at_call 40
                refine (rMod_any dx g.w _ q1 (by omega)).mono ?_
                rw [HA.out]
                rintro e w' ⟨rfl, rfl⟩
                refine hK.out _ _ ?_ (fun hHeld => ?_)
                · (try dsimp only); exact HS _ (by go_grown)
                clear hK K
                try go_simp
                refine wpAnyH_take (i := 21) (v := ?vq20) rfl (by kernel_rfl) (by kernel_rfl) (by kernel_rfl) (fun _ _ _ h => h) (Or.inl ⟨by rfl, ?yq20⟩) (by assumption) ?rq20
                case yq20 => intro w' hSw; (try dsimp only at hSw); go_simp; try (with_reducible rfl)
                go_simp
                refine wpAnyH_ready (rs := [24]) (by kernel_rfl) (by simp) ?_
                refine AllReadyH.cons rfl (fun K hK => ?_) AllReadyH.nil
                go_simp
                go_at_call 40
                refine (rMod_any ((xx : Int) - a) g.w _ q1 (by omega)).mono ?_
                rw [HX.out]
                rintro e w' ⟨rfl, rfl⟩
                refine hK.out _ _ ?_ (fun hHeld => ?_)
                · (try dsimp only); exact HS _ (by go_grown)
                clear hK K
                try go_simp
                refine wpAnyH_take (i := 25) (v := ?vq21) rfl (by kernel_rfl) (by kernel_rfl) (by kernel_rfl) (fun _ _ _ h => h) (Or.inl ⟨by rfl, ?yq21⟩) (by assumption) ?rq21
                case yq21 => intro w' hSw; (try dsimp only at hSw); go_simp; try (with_reducible rfl)
                go_simp
                refine wpAnyH_take (i := 26) (v := ?vq22) rfl (by kernel_rfl) (by kernel_rfl) (by kernel_rfl) (fun _ _ _ h => h) (Or.inl ⟨by rfl, ?yq22⟩) (by assumption) ?rq22
                case yq22 => intro w' hSw; (try dsimp only at hSw); go_simp; try (with_reducible rfl)
                go_simp
                refine wpAnyH_take (i := 27) (v := ?vq23) rfl (by kernel_rfl) (by kernel_rfl) (by kernel_rfl) (fun _ _ _ h => h) (Or.inl ⟨by rfl, ?yq23⟩) (by assumption) ?rq23
                case yq23 => intro w' hSw; (try dsimp only at hSw); go_simp; try (with_reducible rfl)
                go_simp
                refine wpAnyH_ready (rs := [28]) (by kernel_rfl) (by simp) ?_
                refine AllReadyH.cons rfl (fun K hK => ?_) AllReadyH.nil
                go_simp
                refine hK.out _ _ ?_ (fun hHeld => ?_)
                · (try dsimp only); exact HS _ (by go_grown)
                clear hK K
                try go_simp
                refine wpAnyH_ready (rs := [29]) (by kernel_rfl) (by simp) ?_
                refine AllReadyH.cons rfl (fun K hK => ?_) AllReadyH.nil
                refine step_app rfl (.tmp 40) (.tmp 67) 22 rfl (w1.heap.size + 1) 3 (.int .i64 0) 1 8 Try.underlying22 int_infog rfl (by decide) (by decide) (.slice Ao (yy * wn + xx) co) (yy * wn + xx) (ints ol) rfl (OW2.out.alloc _) (wy.heap.size + 1) (some ⟨wy.heap.size, 0, none⟩) 1 1 [.int .i64 v] rfl (Rd.lit wy #[.int .i64 v] 3 (sz := 1) (m := 1) rfl) (by intro u hu; simp at hu; subst hu; rfl) (by omega) (by simp; omega) ?_
                intro v' w' hown' hgrow' hat'
                obtain ⟨Ao', co', rfl, _⟩ := Rd.own hown'
                have hvg : (Value.slice Ao (yy * wn + xx) co).ownBlock ≠ some w1.heap.size := fun e => by have := (OW2.out.lt _ e).1; omega
                have HRG : Hid (Row w' w1.heap.size 24 [.int .i64 g.w, .int .i64 g.h, .int .i64 g.edge, .slice Ao (yy * wn + xx) co]) := (RO2.out.alloc _).grown hgrow' (fun e => hvg e.symm)
                have BB' : Below w1.heap.size w1 w' := (BW2.out.alloc (by omega) _).grown hgrow' (by simp; omega) (fun k hk => by have := (OW2.out.lt k hk).1; omega)
                have HO' : Hid (w'.ownsRow (w1.heap.size + 1) 3 1 (.slice Ao' (yy * wn + xx + 1) co') (yy * wn + xx + 1) (ints (ol ++ [v]))) := by
                  show World.ownsRow _ _ _ _ _ _ _
                  rw [show ints (ol ++ [v]) = ints ol ++ [.int .i64 v] from by simp [ints]]
                  exact hown'
                clear hown' hgrow' hat' hvg
                have e3 := HRG.out.cell 3
                have ef := HRG.out.frozen 3
                simp only [List.getElem?_cons_zero, List.getElem?_cons_succ] at e3
                refine hK.out _ _ ?_ (fun hHeld => ?_)
                · (try dsimp only); exact HS _ (by go_grown)
                clear hK K
                try go_simp
                refine wpAnyH_take (i := 30) (v := ?vq24) rfl (by kernel_rfl) (by kernel_rfl) (by kernel_rfl) (fun _ _ _ h => h) (Or.inl ⟨by rfl, ?yq24⟩) (by assumption) ?rq24
                case yq24 => intro w' hSw; (try dsimp only at hSw); go_simp; try (with_reducible rfl)
                go_simp
                refine wpAnyH_ready (rs := [31]) (by kernel_rfl) (by simp) ?_
                refine AllReadyH.cons rfl (fun K hK => ?_) AllReadyH.nil
                go_simp
                refine hK.out _ _ ?_ (fun hHeld => ?_)
                · (try dsimp only); exact HS _ (by go_grown)
                clear hK K
                try go_simp
                refine wpAnyH_done (by kernel_rfl) ?_ _
                clear o3 l2 e3 ef
                go_wp2
                go_roundg (wn - (xx + 1))
                case measure => omega
                case rel =>
                  refine ⟨xx + 1, .slice Ao' (yy * wn + xx + 1) co', by omega, by omega, by go_num, (show Below _ _ _ from BB'.setCell (by show w1.heap.size ≤ w1.heap.size; omega) _), ?_, ?_⟩
                  · show Row _ _ _ _
                    exact HRG.out.set 3 _
                  · show World.ownsRow _ _ _ _ _ _ _
                    rw [HOL.out]
                    exact own_far HO'.out (fun e => by have := (HO'.out.lt _ e).1; have h2 : w1.heap.size + 1 ≤ w1.heap.size := this; omega) _
              · go_simp
                go_at_call 40
                refine (rMod_any dy g.h _ h1 (by omega)).mono ?_
                rw [HBm.out]
                rintro e w' ⟨rfl, rfl⟩
                refine hK.out _ _ ?_ (fun hHeld => ?_)
                · (try dsimp only); exact HS _ (by go_grown)
                clear hK K
                try go_simp
                refine wpAnyH_take (i := 9) (v := ?vq25) rfl (by kernel_rfl) (by kernel_rfl) (by kernel_rfl) (fun _ _ _ h => h) (Or.inl ⟨by rfl, ?yq25⟩) (by assumption) ?rq25
                case yq25 => intro w' hSw; (try dsimp only at hSw); go_simp; try (with_reducible rfl)
                go_simp
                refine wpAnyH_ready (rs := [1, 12]) (by kernel_rfl) (by simp) ?_
                refine AllReadyH.cons rfl (fun K hK => ?_) (AllReadyH.cons rfl (fun K hK => ?_) AllReadyH.nil)
                · go_simp
                  refine hK.out _ _ ?_ (fun hHeld => ?_)
                  · (try dsimp only); exact HS _ (by go_grown)
                  clear hK K
                  try go_simp
                  refine wpAnyH_ready (rs := [12]) (by kernel_rfl) (by simp) ?_
                  refine AllReadyH.cons rfl (fun K hK => ?_) AllReadyH.nil
                  go_simp
                  go_at_call 40
                  refine (rMod_any ((yy : Int) - b) g.h _ h1 (by omega)).mono ?_
                  rw [HY.out]
                  rintro e w' ⟨rfl, rfl⟩
                  refine hK.out _ _ ?_ (fun hHeld => ?_)
                  · (try dsimp only); exact HS _ (by go_grown)
                  clear hK K
                  try go_simp
                  refine wpAnyH_take (i := 15) (v := ?vq26) rfl (by kernel_rfl) (by kernel_rfl) (by kernel_rfl) (fun _ _ _ h => h) (Or.inl ⟨by rfl, ?yq26⟩) (by assumption) ?rq26
                  case yq26 => intro w' hSw; (try dsimp only at hSw); go_simp; try (with_reducible rfl)
                  go_simp
                  refine wpAnyH_ready (rs := [20]) (by kernel_rfl) (by simp) ?_
                  refine AllReadyH.cons rfl (fun K hK => ?_) AllReadyH.nil
                  go_simp
                  go_at_call 40
                  refine (rMod_any dx g.w _ q1 (by omega)).mono ?_
                  rw [HA.out]
                  rintro e w' ⟨rfl, rfl⟩
                  refine hK.out _ _ ?_ (fun hHeld => ?_)
                  · (try dsimp only); exact HS _ (by go_grown)
                  clear hK K
                  try go_simp
                  refine wpAnyH_take (i := 21) (v := ?vq27) rfl (by kernel_rfl) (by kernel_rfl) (by kernel_rfl) (fun _ _ _ h => h) (Or.inl ⟨by rfl, ?yq27⟩) (by assumption) ?rq27
                  case yq27 => intro w' hSw; (try dsimp only at hSw); go_simp; try (with_reducible rfl)
                  go_simp
                  refine wpAnyH_ready (rs := [24]) (by kernel_rfl) (by simp) ?_
                  refine AllReadyH.cons rfl (fun K hK => ?_) AllReadyH.nil
                  go_simp
                  go_at_call 40
                  refine (rMod_any ((xx : Int) - a) g.w _ q1 (by omega)).mono ?_
                  rw [HX.out]
                  rintro e w' ⟨rfl, rfl⟩
                  refine hK.out _ _ ?_ (fun hHeld => ?_)
                  · (try dsimp only); exact HS _ (by go_grown)
                  clear hK K
                  try go_simp
                  refine wpAnyH_take (i := 25) (v := ?vq28) rfl (by kernel_rfl) (by kernel_rfl) (by kernel_rfl) (fun _ _ _ h => h) (Or.inl ⟨by rfl, ?yq28⟩) (by assumption) ?rq28
                  case yq28 => intro w' hSw; (try dsimp only at hSw); go_simp; try (with_reducible rfl)
                  go_simp
                  refine wpAnyH_take (i := 26) (v := ?vq29) rfl (by kernel_rfl) (by kernel_rfl) (by kernel_rfl) (fun _ _ _ h => h) (Or.inl ⟨by rfl, ?yq29⟩) (by assumption) ?rq29
                  case yq29 => intro w' hSw; (try dsimp only at hSw); go_simp; try (with_reducible rfl)
                  go_simp
                  refine wpAnyH_take (i := 27) (v := ?vq30) rfl (by kernel_rfl) (by kernel_rfl) (by kernel_rfl) (fun _ _ _ h => h) (Or.inl ⟨by rfl, ?yq30⟩) (by assumption) ?rq30
                  case yq30 => intro w' hSw; (try dsimp only at hSw); go_simp; try (with_reducible rfl)
                  go_simp
                  refine wpAnyH_ready (rs := [28]) (by kernel_rfl) (by simp) ?_
                  refine AllReadyH.cons rfl (fun K hK => ?_) AllReadyH.nil
                  go_simp
                  refine hK.out _ _ ?_ (fun hHeld => ?_)
                  · (try dsimp only); exact HS _ (by go_grown)
                  clear hK K
                  try go_simp
                  refine wpAnyH_ready (rs := [29]) (by kernel_rfl) (by simp) ?_
                  refine AllReadyH.cons rfl (fun K hK => ?_) AllReadyH.nil
                  refine step_app rfl (.tmp 40) (.tmp 67) 22 rfl (w1.heap.size + 1) 3 (.int .i64 0) 1 8 Try.underlying22 int_infog rfl (by decide) (by decide) (.slice Ao (yy * wn + xx) co) (yy * wn + xx) (ints ol) rfl (OW2.out.alloc _) (wy.heap.size + 1) (some ⟨wy.heap.size, 0, none⟩) 1 1 [.int .i64 v] rfl (Rd.lit wy #[.int .i64 v] 3 (sz := 1) (m := 1) rfl) (by intro u hu; simp at hu; subst hu; rfl) (by omega) (by simp; omega) ?_
                  intro v' w' hown' hgrow' hat'
                  obtain ⟨Ao', co', rfl, _⟩ := Rd.own hown'
                  have hvg : (Value.slice Ao (yy * wn + xx) co).ownBlock ≠ some w1.heap.size := fun e => by have := (OW2.out.lt _ e).1; omega
                  have HRG : Hid (Row w' w1.heap.size 24 [.int .i64 g.w, .int .i64 g.h, .int .i64 g.edge, .slice Ao (yy * wn + xx) co]) := (RO2.out.alloc _).grown hgrow' (fun e => hvg e.symm)
                  have BB' : Below w1.heap.size w1 w' := (BW2.out.alloc (by omega) _).grown hgrow' (by simp; omega) (fun k hk => by have := (OW2.out.lt k hk).1; omega)
                  have HO' : Hid (w'.ownsRow (w1.heap.size + 1) 3 1 (.slice Ao' (yy * wn + xx + 1) co') (yy * wn + xx + 1) (ints (ol ++ [v]))) := by
                    show World.ownsRow _ _ _ _ _ _ _
                    rw [show ints (ol ++ [v]) = ints ol ++ [.int .i64 v] from by simp [ints]]
                    exact hown'
                  clear hown' hgrow' hat' hvg
                  have e3 := HRG.out.cell 3
                  have ef := HRG.out.frozen 3
                  simp only [List.getElem?_cons_zero, List.getElem?_cons_succ] at e3
                  refine hK.out _ _ ?_ (fun hHeld => ?_)
                  · (try dsimp only); exact HS _ (by go_grown)
                  clear hK K
                  try go_simp
                  refine wpAnyH_take (i := 30) (v := ?vq31) rfl (by kernel_rfl) (by kernel_rfl) (by kernel_rfl) (fun _ _ _ h => h) (Or.inl ⟨by rfl, ?yq31⟩) (by assumption) ?rq31
                  case yq31 => intro w' hSw; (try dsimp only at hSw); go_simp; try (with_reducible rfl)
                  go_simp
                  refine wpAnyH_ready (rs := [31]) (by kernel_rfl) (by simp) ?_
                  refine AllReadyH.cons rfl (fun K hK => ?_) AllReadyH.nil
                  go_simp
                  refine hK.out _ _ ?_ (fun hHeld => ?_)
                  · (try dsimp only); exact HS _ (by go_grown)
                  clear hK K
                  try go_simp
                  refine wpAnyH_done (by kernel_rfl) ?_ _
                  clear o3 l2 e3 ef
                  go_wp2
                  go_roundg (wn - (xx + 1))
                  case measure => omega
                  case rel =>
                    refine ⟨xx + 1, .slice Ao' (yy * wn + xx + 1) co', by omega, by omega, by go_num, (show Below _ _ _ from BB'.setCell (by show w1.heap.size ≤ w1.heap.size; omega) _), ?_, ?_⟩
                    · show Row _ _ _ _
                      exact HRG.out.set 3 _
                    · show World.ownsRow _ _ _ _ _ _ _
                      rw [HOL.out]
                      exact own_far HO'.out (fun e => by have := (HO'.out.lt _ e).1; have h2 : w1.heap.size + 1 ≤ w1.heap.size := this; omega) _
                · go_simp
                  go_at_call 40
                  refine (rMod_any ((yy : Int) - b) g.h _ h1 (by omega)).mono ?_
                  rw [HY.out]
                  rintro e w' ⟨rfl, rfl⟩
                  refine hK.out _ _ ?_ (fun hHeld => ?_)
                  · (try dsimp only); exact HS _ (by go_grown)
                  clear hK K
                  try go_simp
                  refine wpAnyH_take (i := 15) (v := ?vq32) rfl (by kernel_rfl) (by kernel_rfl) (by kernel_rfl) (fun _ _ _ h => h) (Or.inl ⟨by rfl, ?yq32⟩) (by assumption) ?rq32
                  case yq32 => intro w' hSw; (try dsimp only at hSw); go_simp; try (with_reducible rfl)
                  go_simp
                  refine wpAnyH_ready (rs := [1, 20]) (by kernel_rfl) (by simp) ?_
                  refine AllReadyH.cons rfl (fun K hK => ?_) (AllReadyH.cons rfl (fun K hK => ?_) AllReadyH.nil)
                  · go_simp
                    refine hK.out _ _ ?_ (fun hHeld => ?_)
                    · (try dsimp only); exact HS _ (by go_grown)
                    clear hK K
                    try go_simp
                    refine wpAnyH_ready (rs := [20]) (by kernel_rfl) (by simp) ?_
                    refine AllReadyH.cons rfl (fun K hK => ?_) AllReadyH.nil
                    go_simp
                    go_at_call 40
                    refine (rMod_any dx g.w _ q1 (by omega)).mono ?_
                    rw [HA.out]
                    rintro e w' ⟨rfl, rfl⟩
                    refine hK.out _ _ ?_ (fun hHeld => ?_)
                    · (try dsimp only); exact HS _ (by go_grown)
                    clear hK K
                    try go_simp
                    refine wpAnyH_take (i := 21) (v := ?vq33) rfl (by kernel_rfl) (by kernel_rfl) (by kernel_rfl) (fun _ _ _ h => h) (Or.inl ⟨by rfl, ?yq33⟩) (by assumption) ?rq33
                    case yq33 => intro w' hSw; (try dsimp only at hSw); go_simp; try (with_reducible rfl)
                    go_simp
                    refine wpAnyH_ready (rs := [24]) (by kernel_rfl) (by simp) ?_
                    refine AllReadyH.cons rfl (fun K hK => ?_) AllReadyH.nil
                    go_simp
                    go_at_call 40
                    refine (rMod_any ((xx : Int) - a) g.w _ q1 (by omega)).mono ?_
                    rw [HX.out]
                    rintro e w' ⟨rfl, rfl⟩
                    refine hK.out _ _ ?_ (fun hHeld => ?_)
                    · (try dsimp only); exact HS _ (by go_grown)
                    clear hK K
                    try go_simp
                    refine wpAnyH_take (i := 25) (v := ?vq34) rfl (by kernel_rfl) (by kernel_rfl) (by kernel_rfl) (fun _ _ _ h => h) (Or.inl ⟨by rfl, ?yq34⟩) (by assumption) ?rq34
                    case yq34 => intro w' hSw; (try dsimp only at hSw); go_simp; try (with_reducible rfl)
                    go_simp
                    refine wpAnyH_take (i := 26) (v := ?vq35) rfl (by kernel_rfl) (by kernel_rfl) (by kernel_rfl) (fun _ _ _ h => h) (Or.inl ⟨by rfl, ?yq35⟩) (by assumption) ?rq35
                    case yq35 => intro w' hSw; (try dsimp only at hSw); go_simp; try (with_reducible rfl)
                    go_simp
                    refine wpAnyH_take (i := 27) (v := ?vq36) rfl (by kernel_rfl) (by kernel_rfl) (by kernel_rfl) (fun _ _ _ h => h) (Or.inl ⟨by rfl, ?yq36⟩) (by assumption) ?rq36
                    case yq36 => intro w' hSw; (try dsimp only at hSw); go_simp; try (with_reducible rfl)
                    go_simp
                    refine wpAnyH_ready (rs := [28]) (by kernel_rfl) (by simp) ?_
                    refine AllReadyH.cons rfl (fun K hK => ?_) AllReadyH.nil
                    go_simp
                    refine hK.out _ _ ?_ (fun hHeld => ?_)
                    · (try dsimp only); exact HS _ (by go_grown)
                    clear hK K
                    try go_simp
                    refine wpAnyH_ready (rs := [29]) (by kernel_rfl) (by simp) ?_
                    refine AllReadyH.cons rfl (fun K hK => ?_) AllReadyH.nil
                    refine step_app rfl (.tmp 40) (.tmp 67) 22 rfl (w1.heap.size + 1) 3 (.int .i64 0) 1 8 Try.underlying22 int_infog rfl (by decide) (by decide) (.slice Ao (yy * wn + xx) co) (yy * wn + xx) (ints ol) rfl (OW2.out.alloc _) (wy.heap.size + 1) (some ⟨wy.heap.size, 0, none⟩) 1 1 [.int .i64 v] rfl (Rd.lit wy #[.int .i64 v] 3 (sz := 1) (m := 1) rfl) (by intro u hu; simp at hu; subst hu; rfl) (by omega) (by simp; omega) ?_
                    intro v' w' hown' hgrow' hat'
                    obtain ⟨Ao', co', rfl, _⟩ := Rd.own hown'
                    have hvg : (Value.slice Ao (yy * wn + xx) co).ownBlock ≠ some w1.heap.size := fun e => by have := (OW2.out.lt _ e).1; omega
                    have HRG : Hid (Row w' w1.heap.size 24 [.int .i64 g.w, .int .i64 g.h, .int .i64 g.edge, .slice Ao (yy * wn + xx) co]) := (RO2.out.alloc _).grown hgrow' (fun e => hvg e.symm)
                    have BB' : Below w1.heap.size w1 w' := (BW2.out.alloc (by omega) _).grown hgrow' (by simp; omega) (fun k hk => by have := (OW2.out.lt k hk).1; omega)
                    have HO' : Hid (w'.ownsRow (w1.heap.size + 1) 3 1 (.slice Ao' (yy * wn + xx + 1) co') (yy * wn + xx + 1) (ints (ol ++ [v]))) := by
                      show World.ownsRow _ _ _ _ _ _ _
                      rw [show ints (ol ++ [v]) = ints ol ++ [.int .i64 v] from by simp [ints]]
                      exact hown'
                    clear hown' hgrow' hat' hvg
                    have e3 := HRG.out.cell 3
                    have ef := HRG.out.frozen 3
                    simp only [List.getElem?_cons_zero, List.getElem?_cons_succ] at e3
                    refine hK.out _ _ ?_ (fun hHeld => ?_)
                    · (try dsimp only); exact HS _ (by go_grown)
                    clear hK K
                    try go_simp
                    refine wpAnyH_take (i := 30) (v := ?vq37) rfl (by kernel_rfl) (by kernel_rfl) (by kernel_rfl) (fun _ _ _ h => h) (Or.inl ⟨by rfl, ?yq37⟩) (by assumption) ?rq37
                    case yq37 => intro w' hSw; (try dsimp only at hSw); go_simp; try (with_reducible rfl)
                    go_simp
                    refine wpAnyH_ready (rs := [31]) (by kernel_rfl) (by simp) ?_
                    refine AllReadyH.cons rfl (fun K hK => ?_) AllReadyH.nil
                    go_simp
                    refine hK.out _ _ ?_ (fun hHeld => ?_)
                    · (try dsimp only); exact HS _ (by go_grown)
                    clear hK K
                    try go_simp
                    refine wpAnyH_done (by kernel_rfl) ?_ _
                    clear o3 l2 e3 ef
                    go_wp2
                    go_roundg (wn - (xx + 1))
                    case measure => omega
                    case rel =>
                      refine ⟨xx + 1, .slice Ao' (yy * wn + xx + 1) co', by omega, by omega, by go_num, (show Below _ _ _ from BB'.setCell (by show w1.heap.size ≤ w1.heap.size; omega) _), ?_, ?_⟩
                      · show Row _ _ _ _
                        exact HRG.out.set 3 _
                      · show World.ownsRow _ _ _ _ _ _ _
                        rw [HOL.out]
                        exact own_far HO'.out (fun e => by have := (HO'.out.lt _ e).1; have h2 : w1.heap.size + 1 ≤ w1.heap.size := this; omega) _
                  · go_simp
                    go_at_call 40
                    refine (rMod_any dx g.w _ q1 (by omega)).mono ?_
                    rw [HA.out]
                    rintro e w' ⟨rfl, rfl⟩
                    refine hK.out _ _ ?_ (fun hHeld => ?_)
                    · (try dsimp only); exact HS _ (by go_grown)
                    clear hK K
                    try go_simp
                    refine wpAnyH_take (i := 21) (v := ?vq38) rfl (by kernel_rfl) (by kernel_rfl) (by kernel_rfl) (fun _ _ _ h => h) (Or.inl ⟨by rfl, ?yq38⟩) (by assumption) ?rq38
                    case yq38 => intro w' hSw; (try dsimp only at hSw); go_simp; try (with_reducible rfl)
                    go_simp
                    refine wpAnyH_ready (rs := [1, 24]) (by kernel_rfl) (by simp) ?_
                    refine AllReadyH.cons rfl (fun K hK => ?_) (AllReadyH.cons rfl (fun K hK => ?_) AllReadyH.nil)
                    · go_simp
                      refine hK.out _ _ ?_ (fun hHeld => ?_)
                      · (try dsimp only); exact HS _ (by go_grown)
                      clear hK K
                      try go_simp
                      refine wpAnyH_ready (rs := [24]) (by kernel_rfl) (by simp) ?_
                      refine AllReadyH.cons rfl (fun K hK => ?_) AllReadyH.nil
                      go_simp
                      go_at_call 40
                      refine (rMod_any ((xx : Int) - a) g.w _ q1 (by omega)).mono ?_
                      rw [HX.out]
                      rintro e w' ⟨rfl, rfl⟩
                      refine hK.out _ _ ?_ (fun hHeld => ?_)
                      · (try dsimp only); exact HS _ (by go_grown)
                      clear hK K
                      try go_simp
                      refine wpAnyH_take (i := 25) (v := ?vq39) rfl (by kernel_rfl) (by kernel_rfl) (by kernel_rfl) (fun _ _ _ h => h) (Or.inl ⟨by rfl, ?yq39⟩) (by assumption) ?rq39
                      case yq39 => intro w' hSw; (try dsimp only at hSw); go_simp; try (with_reducible rfl)
                      go_simp
                      refine wpAnyH_take (i := 26) (v := ?vq40) rfl (by kernel_rfl) (by kernel_rfl) (by kernel_rfl) (fun _ _ _ h => h) (Or.inl ⟨by rfl, ?yq40⟩) (by assumption) ?rq40
                      case yq40 => intro w' hSw; (try dsimp only at hSw); go_simp; try (with_reducible rfl)
                      go_simp
                      refine wpAnyH_take (i := 27) (v := ?vq41) rfl (by kernel_rfl) (by kernel_rfl) (by kernel_rfl) (fun _ _ _ h => h) (Or.inl ⟨by rfl, ?yq41⟩) (by assumption) ?rq41
                      case yq41 => intro w' hSw; (try dsimp only at hSw); go_simp; try (with_reducible rfl)
                      go_simp
                      refine wpAnyH_ready (rs := [28]) (by kernel_rfl) (by simp) ?_
                      refine AllReadyH.cons rfl (fun K hK => ?_) AllReadyH.nil
                      go_simp
                      refine hK.out _ _ ?_ (fun hHeld => ?_)
                      · (try dsimp only); exact HS _ (by go_grown)
                      clear hK K
                      try go_simp
                      refine wpAnyH_ready (rs := [29]) (by kernel_rfl) (by simp) ?_
                      refine AllReadyH.cons rfl (fun K hK => ?_) AllReadyH.nil
                      refine step_app rfl (.tmp 40) (.tmp 67) 22 rfl (w1.heap.size + 1) 3 (.int .i64 0) 1 8 Try.underlying22 int_infog rfl (by decide) (by decide) (.slice Ao (yy * wn + xx) co) (yy * wn + xx) (ints ol) rfl (OW2.out.alloc _) (wy.heap.size + 1) (some ⟨wy.heap.size, 0, none⟩) 1 1 [.int .i64 v] rfl (Rd.lit wy #[.int .i64 v] 3 (sz := 1) (m := 1) rfl) (by intro u hu; simp at hu; subst hu; rfl) (by omega) (by simp; omega) ?_
                      intro v' w' hown' hgrow' hat'
                      obtain ⟨Ao', co', rfl, _⟩ := Rd.own hown'
                      have hvg : (Value.slice Ao (yy * wn + xx) co).ownBlock ≠ some w1.heap.size := fun e => by have := (OW2.out.lt _ e).1; omega
                      have HRG : Hid (Row w' w1.heap.size 24 [.int .i64 g.w, .int .i64 g.h, .int .i64 g.edge, .slice Ao (yy * wn + xx) co]) := (RO2.out.alloc _).grown hgrow' (fun e => hvg e.symm)
                      have BB' : Below w1.heap.size w1 w' := (BW2.out.alloc (by omega) _).grown hgrow' (by simp; omega) (fun k hk => by have := (OW2.out.lt k hk).1; omega)
                      have HO' : Hid (w'.ownsRow (w1.heap.size + 1) 3 1 (.slice Ao' (yy * wn + xx + 1) co') (yy * wn + xx + 1) (ints (ol ++ [v]))) := by
                        show World.ownsRow _ _ _ _ _ _ _
                        rw [show ints (ol ++ [v]) = ints ol ++ [.int .i64 v] from by simp [ints]]
                        exact hown'
                      clear hown' hgrow' hat' hvg
                      have e3 := HRG.out.cell 3
                      have ef := HRG.out.frozen 3
                      simp only [List.getElem?_cons_zero, List.getElem?_cons_succ] at e3
                      refine hK.out _ _ ?_ (fun hHeld => ?_)
                      · (try dsimp only); exact HS _ (by go_grown)
                      clear hK K
                      try go_simp
                      refine wpAnyH_take (i := 30) (v := ?vq42) rfl (by kernel_rfl) (by kernel_rfl) (by kernel_rfl) (fun _ _ _ h => h) (Or.inl ⟨by rfl, ?yq42⟩) (by assumption) ?rq42
                      case yq42 => intro w' hSw; (try dsimp only at hSw); go_simp; try (with_reducible rfl)
                      go_simp
                      refine wpAnyH_ready (rs := [31]) (by kernel_rfl) (by simp) ?_
                      refine AllReadyH.cons rfl (fun K hK => ?_) AllReadyH.nil
                      go_simp
                      refine hK.out _ _ ?_ (fun hHeld => ?_)
                      · (try dsimp only); exact HS _ (by go_grown)
                      clear hK K
                      try go_simp
                      refine wpAnyH_done (by kernel_rfl) ?_ _
                      clear o3 l2 e3 ef
                      go_wp2
                      go_roundg (wn - (xx + 1))
                      case measure => omega
                      case rel =>
                        refine ⟨xx + 1, .slice Ao' (yy * wn + xx + 1) co', by omega, by omega, by go_num, (show Below _ _ _ from BB'.setCell (by show w1.heap.size ≤ w1.heap.size; omega) _), ?_, ?_⟩
                        · show Row _ _ _ _
                          exact HRG.out.set 3 _
                        · show World.ownsRow _ _ _ _ _ _ _
                          rw [HOL.out]
                          exact own_far HO'.out (fun e => by have := (HO'.out.lt _ e).1; have h2 : w1.heap.size + 1 ≤ w1.heap.size := this; omega) _
                    · go_simp
                      go_at_call 40
                      refine (rMod_any ((xx : Int) - a) g.w _ q1 (by omega)).mono ?_
                      rw [HX.out]
                      rintro e w' ⟨rfl, rfl⟩
                      refine hK.out _ _ ?_ (fun hHeld => ?_)
                      · (try dsimp only); exact HS _ (by go_grown)
                      clear hK K
                      try go_simp
                      refine wpAnyH_take (i := 25) (v := ?vq43) rfl (by kernel_rfl) (by kernel_rfl) (by kernel_rfl) (fun _ _ _ h => h) (Or.inl ⟨by rfl, ?yq43⟩) (by assumption) ?rq43
                      case yq43 => intro w' hSw; (try dsimp only at hSw); go_simp; try (with_reducible rfl)
                      go_simp
                      refine wpAnyH_take (i := 26) (v := ?vq44) rfl (by kernel_rfl) (by kernel_rfl) (by kernel_rfl) (fun _ _ _ h => h) (Or.inl ⟨by rfl, ?yq44⟩) (by assumption) ?rq44
                      case yq44 => intro w' hSw; (try dsimp only at hSw); go_simp; try (with_reducible rfl)
                      go_simp
                      refine wpAnyH_take (i := 27) (v := ?vq45) rfl (by kernel_rfl) (by kernel_rfl) (by kernel_rfl) (fun _ _ _ h => h) (Or.inl ⟨by rfl, ?yq45⟩) (by assumption) ?rq45
                      case yq45 => intro w' hSw; (try dsimp only at hSw); go_simp; try (with_reducible rfl)
                      go_simp
                      refine wpAnyH_ready (rs := [1, 28]) (by kernel_rfl) (by simp) ?_
                      refine AllReadyH.cons rfl (fun K hK => ?_) (AllReadyH.cons rfl (fun K hK => ?_) AllReadyH.nil)
                      · go_simp
                        refine hK.out _ _ ?_ (fun hHeld => ?_)
                        · (try dsimp only); exact HS _ (by go_grown)
                        clear hK K
                        try go_simp
                        refine wpAnyH_ready (rs := [28]) (by kernel_rfl) (by simp) ?_
                        refine AllReadyH.cons rfl (fun K hK => ?_) AllReadyH.nil
                        go_simp
                        refine hK.out _ _ ?_ (fun hHeld => ?_)
                        · (try dsimp only); exact HS _ (by go_grown)
                        clear hK K
                        try go_simp
                        refine wpAnyH_ready (rs := [29]) (by kernel_rfl) (by simp) ?_
                        refine AllReadyH.cons rfl (fun K hK => ?_) AllReadyH.nil
                        refine step_app rfl (.tmp 40) (.tmp 67) 22 rfl (w1.heap.size + 1) 3 (.int .i64 0) 1 8 Try.underlying22 int_infog rfl (by decide) (by decide) (.slice Ao (yy * wn + xx) co) (yy * wn + xx) (ints ol) rfl (OW2.out.alloc _) (wy.heap.size + 1) (some ⟨wy.heap.size, 0, none⟩) 1 1 [.int .i64 v] rfl (Rd.lit wy #[.int .i64 v] 3 (sz := 1) (m := 1) rfl) (by intro u hu; simp at hu; subst hu; rfl) (by omega) (by simp; omega) ?_
                        intro v' w' hown' hgrow' hat'
                        obtain ⟨Ao', co', rfl, _⟩ := Rd.own hown'
                        have hvg : (Value.slice Ao (yy * wn + xx) co).ownBlock ≠ some w1.heap.size := fun e => by have := (OW2.out.lt _ e).1; omega
                        have HRG : Hid (Row w' w1.heap.size 24 [.int .i64 g.w, .int .i64 g.h, .int .i64 g.edge, .slice Ao (yy * wn + xx) co]) := (RO2.out.alloc _).grown hgrow' (fun e => hvg e.symm)
                        have BB' : Below w1.heap.size w1 w' := (BW2.out.alloc (by omega) _).grown hgrow' (by simp; omega) (fun k hk => by have := (OW2.out.lt k hk).1; omega)
                        have HO' : Hid (w'.ownsRow (w1.heap.size + 1) 3 1 (.slice Ao' (yy * wn + xx + 1) co') (yy * wn + xx + 1) (ints (ol ++ [v]))) := by
                          show World.ownsRow _ _ _ _ _ _ _
                          rw [show ints (ol ++ [v]) = ints ol ++ [.int .i64 v] from by simp [ints]]
                          exact hown'
                        clear hown' hgrow' hat' hvg
                        have e3 := HRG.out.cell 3
                        have ef := HRG.out.frozen 3
                        simp only [List.getElem?_cons_zero, List.getElem?_cons_succ] at e3
                        refine hK.out _ _ ?_ (fun hHeld => ?_)
                        · (try dsimp only); exact HS _ (by go_grown)
                        clear hK K
                        try go_simp
                        refine wpAnyH_take (i := 30) (v := ?vq46) rfl (by kernel_rfl) (by kernel_rfl) (by kernel_rfl) (fun _ _ _ h => h) (Or.inl ⟨by rfl, ?yq46⟩) (by assumption) ?rq46
                        case yq46 => intro w' hSw; (try dsimp only at hSw); go_simp; try (with_reducible rfl)
                        go_simp
                        refine wpAnyH_ready (rs := [31]) (by kernel_rfl) (by simp) ?_
                        refine AllReadyH.cons rfl (fun K hK => ?_) AllReadyH.nil
                        go_simp
                        refine hK.out _ _ ?_ (fun hHeld => ?_)
                        · (try dsimp only); exact HS _ (by go_grown)
                        clear hK K
                        try go_simp
                        refine wpAnyH_done (by kernel_rfl) ?_ _
                        clear o3 l2 e3 ef
                        go_wp2
                        go_roundg (wn - (xx + 1))
                        case measure => omega
                        case rel =>
                          refine ⟨xx + 1, .slice Ao' (yy * wn + xx + 1) co', by omega, by omega, by go_num, (show Below _ _ _ from BB'.setCell (by show w1.heap.size ≤ w1.heap.size; omega) _), ?_, ?_⟩
                          · show Row _ _ _ _
                            exact HRG.out.set 3 _
                          · show World.ownsRow _ _ _ _ _ _ _
                            rw [HOL.out]
                            exact own_far HO'.out (fun e => by have := (HO'.out.lt _ e).1; have h2 : w1.heap.size + 1 ≤ w1.heap.size := this; omega) _
                      · go_simp
                        refine hK.out _ _ ?_ (fun hHeld => ?_)
                        · (try dsimp only); exact HS _ (by go_grown)
                        clear hK K
                        try go_simp
                        refine wpAnyH_ready (rs := [1]) (by kernel_rfl) (by simp) ?_
                        refine AllReadyH.cons rfl (fun K hK => ?_) AllReadyH.nil
                        go_simp
                        refine hK.out _ _ ?_ (fun hHeld => ?_)
                        · (try dsimp only); exact HS _ (by go_grown)
                        clear hK K
                        try go_simp
                        refine wpAnyH_ready (rs := [29]) (by kernel_rfl) (by simp) ?_
                        refine AllReadyH.cons rfl (fun K hK => ?_) AllReadyH.nil
                        refine step_app rfl (.tmp 40) (.tmp 67) 22 rfl (w1.heap.size + 1) 3 (.int .i64 0) 1 8 Try.underlying22 int_infog rfl (by decide) (by decide) (.slice Ao (yy * wn + xx) co) (yy * wn + xx) (ints ol) rfl (OW2.out.alloc _) (wy.heap.size + 1) (some ⟨wy.heap.size, 0, none⟩) 1 1 [.int .i64 v] rfl (Rd.lit wy #[.int .i64 v] 3 (sz := 1) (m := 1) rfl) (by intro u hu; simp at hu; subst hu; rfl) (by omega) (by simp; omega) ?_
                        intro v' w' hown' hgrow' hat'
                        obtain ⟨Ao', co', rfl, _⟩ := Rd.own hown'
                        have hvg : (Value.slice Ao (yy * wn + xx) co).ownBlock ≠ some w1.heap.size := fun e => by have := (OW2.out.lt _ e).1; omega
                        have HRG : Hid (Row w' w1.heap.size 24 [.int .i64 g.w, .int .i64 g.h, .int .i64 g.edge, .slice Ao (yy * wn + xx) co]) := (RO2.out.alloc _).grown hgrow' (fun e => hvg e.symm)
                        have BB' : Below w1.heap.size w1 w' := (BW2.out.alloc (by omega) _).grown hgrow' (by simp; omega) (fun k hk => by have := (OW2.out.lt k hk).1; omega)
                        have HO' : Hid (w'.ownsRow (w1.heap.size + 1) 3 1 (.slice Ao' (yy * wn + xx + 1) co') (yy * wn + xx + 1) (ints (ol ++ [v]))) := by
                          show World.ownsRow _ _ _ _ _ _ _
                          rw [show ints (ol ++ [v]) = ints ol ++ [.int .i64 v] from by simp [ints]]
                          exact hown'
                        clear hown' hgrow' hat' hvg
                        have e3 := HRG.out.cell 3
                        have ef := HRG.out.frozen 3
                        simp only [List.getElem?_cons_zero, List.getElem?_cons_succ] at e3
                        refine hK.out _ _ ?_ (fun hHeld => ?_)
                        · (try dsimp only); exact HS _ (by go_grown)
                        clear hK K
                        try go_simp
                        refine wpAnyH_take (i := 30) (v := ?vq47) rfl (by kernel_rfl) (by kernel_rfl) (by kernel_rfl) (fun _ _ _ h => h) (Or.inl ⟨by rfl, ?yq47⟩) (by assumption) ?rq47
                        case yq47 => intro w' hSw; (try dsimp only at hSw); go_simp; try (with_reducible rfl)
                        go_simp
                        refine wpAnyH_ready (rs := [31]) (by kernel_rfl) (by simp) ?_
                        refine AllReadyH.cons rfl (fun K hK => ?_) AllReadyH.nil
                        go_simp
                        refine hK.out _ _ ?_ (fun hHeld => ?_)
                        · (try dsimp only); exact HS _ (by go_grown)
                        clear hK K
                        try go_simp
                        refine wpAnyH_done (by kernel_rfl) ?_ _
                        clear o3 l2 e3 ef
                        go_wp2
                        go_roundg (wn - (xx + 1))
                        case measure => omega
                        case rel =>
                          refine ⟨xx + 1, .slice Ao' (yy * wn + xx + 1) co', by omega, by omega, by go_num, (show Below _ _ _ from BB'.setCell (by show w1.heap.size ≤ w1.heap.size; omega) _), ?_, ?_⟩
                          · show Row _ _ _ _
                            exact HRG.out.set 3 _
                          · show World.ownsRow _ _ _ _ _ _ _
                            rw [HOL.out]
                            exact own_far HO'.out (fun e => by have := (HO'.out.lt _ e).1; have h2 : w1.heap.size + 1 ≤ w1.heap.size := this; omega) _
            · have hltxz : ¬ (xx : Int) < g.w := by have := HW.out; omega
              obtain rfl : xx = wn := by omega
              go_wp2
              go_roundg (hn - (yy + 1))
              case measure => omega
              case rel =>
                refine ⟨yy + 1, .slice Ao (yy * xx + xx) co, by omega, by omega, by go_num, BW.out, RO.out, ?_⟩
                show World.ownsRow _ _ _ _ _ _ _
                have := OW.out
                rw [show rollTo g.w g.h dx dy g.cells (yy + 1) = rollTo g.w g.h dx dy g.cells yy ++ rollRow g.w g.h dx dy g.cells yy xx from by simp [rollTo, List.range_succ, HWN.out], Nat.add_mul, Nat.one_mul]
                exact this
        · have hltyz : ¬ (yy : Int) < g.h := by have := HH.out; omega
          obtain rfl : yy = hn := by omega
          obtain ⟨Ao, co, rfl, _⟩ := Rd.own OW.out
          have RDr : Hid (Row wr (w.heap.size + 1) 24 [.int .i64 0, .int .i64 0, .int .i64 0, .slice none 0 0]) := rowCells RD.out BW.out
          have HBX : Hid (Below w.heap.size w wr) := below_on2 HB.out BW.out
          have d0 := RDr.out.cell 0
          have d1 := RDr.out.cell 1
          have d2 := RDr.out.cell 2
          have d3 := RDr.out.cell 3
          have f0 := RDr.out.frozen 0
          have f1 := RDr.out.frozen 1
          have f2 := RDr.out.frozen 2
          have f3 := RDr.out.frozen 3
          have o0 := RO.out.cell 0
          have o1 := RO.out.cell 1
          have o2 := RO.out.cell 2
          have o3 := RO.out.cell 3
          have hne1 : w1.heap.size ≠ w.heap.size + 1 := by omega
          simp only [List.getElem?_cons_zero, List.getElem?_cons_succ] at d0 d1 d2 d3 o0 o1 o2 o3
          have hoo : (Value.slice Ao (yy * wn) co).ownBlock ≠ some (w.heap.size + 1) := fun e => by have := (OW.out.lt _ e).1; omega
          have hyw : yy * wn ≤ 256 * 256 := Nat.mul_le_mul (by omega) hw8
          have hf := own_far (own_far (own_far (own_far OW.out (p := ⟨w.heap.size + 1, 0, none⟩) hoo (.int .i64 g.w)) (p := ⟨w.heap.size + 1, 1, none⟩) hoo (.int .i64 g.h)) (p := ⟨w.heap.size + 1, 2, none⟩) hoo (.int .i64 g.edge)) (p := ⟨w.heap.size + 1, 3, none⟩) hoo (.slice Ao (yy * wn) co)
          have HK2 : Hid (GPost (rollR g dx dy) (rollErr g) w (.returned (.tuple #[.agg #[.int .i64 g.w, .int .i64 g.h, .int .i64 g.edge, .slice Ao (yy * wn) co], .int .i64 0])) ((((wr.setCell ⟨w.heap.size + 1, 0, none⟩ (.int .i64 g.w)).setCell ⟨w.heap.size + 1, 1, none⟩ (.int .i64 g.h)).setCell ⟨w.heap.size + 1, 2, none⟩ (.int .i64 g.edge)).setCell ⟨w.heap.size + 1, 3, none⟩ (.slice Ao (yy * wn) co))) := by
            show GPost _ _ _ _ _
            rw [HV.out, HK.out]
            refine ⟨Ao, yy * wn, co, rfl, ⟨?_, by unfold maxLen; omega⟩, ?_⟩
            · show Rd _ _ _ _ _ (ints (rollTo g.w g.h dx dy g.cells g.h.toNat))
              rw [HHN.out]
              exact Rd.of_own hf
            · exact (((HBX.out.setCell (by show w.heap.size ≤ w.heap.size + 1; omega) _).setCell (by show w.heap.size ≤ w.heap.size + 1; omega) _).setCell (by show w.heap.size ≤ w.heap.size + 1; omega) _).setCell (by show w.heap.size ≤ w.heap.size + 1; omega) _
          clear hf
          go_wp2
          exact bodyPost_ret (v := .tuple #[.agg #[.int .i64 g.w, .int .i64 g.h, .int .i64 g.edge, .slice Ao (yy * wn) co], .int .i64 0]) (by simp [results, Try.results27, go_sem, d0, d1, d2, d3]) rfl HK2.out
    · have HK : Hid (rollErr g = 2) := by show _ = _; unfold rollErr; rw [if_neg (by rintro ⟨_, h⟩; exact he h)]
      have hec : (g.edge != 1) = true := by simpa using he
      clear he
      go_wp2
      all_goals exact bodyPost_ret (v := .tuple #[.agg #[.int .i64 0, .int .i64 0, .int .i64 0, .slice none 0 0], .int .i64 2]) (by simp [results, Try.results27, go_sem, d0, d1, d2, d3]) rfl (gpost_err (rollR_err' HK.out) HK.out ((((HBB.setCell (by show w.heap.size ≤ w.heap.size + 1; omega) _).setCell (by show w.heap.size ≤ w.heap.size + 1; omega) _).setCell (by show w.heap.size ≤ w.heap.size + 1; omega) _).setCell (by show w.heap.size ≤ w.heap.size + 1; omega) _))
end Go.Proofs.Ytoldjjgogdbalaa
