/-
  grid.Roll, walked.
-/
import Derived.Test.YtdkfaphclhaiaaaGPost
import Derived.Test.YtdkfaphclhaiaaaGRight
import Derived.Test.YtdkfaphclhaiaaaApp
import Derived.Test.YtdkfaphclhaiaaaGRollP
import Derived.BigRegion
import Derived.Deep.RegionLaw
import Derived.BigQuiet
import Derived.WalkSpells
import Derived.Deep.Light
import Derived.Deep.QuietTactic
import Derived.Deep.RegionHeld3
namespace Go.Proofs.Ytdkfaphclhaiaaa
open Go.RowKit
set_option linter.unusedSimpArgs false
set_option linter.unusedVariables false

theorem rollR_err {g : Grd} {dx dy : Int} (hk : rollErr g = 2) : rollR g dx dy = noGrd := by rw [rollR, if_neg (by rw [hk]; decide)]

set_option maxRecDepth 100000 in
set_option maxHeartbeats 8000000 in
theorem gRoll_bad (g : Grd) (A : Option Addr) (n c : Nat) (dx dy : Int) (w : World) (h : GAt w g A n) (hk0 : rollErr g = 2) :
    Calls Try.prog 20 #[.agg #[.int .i64 g.w, .int .i64 g.h, .int .i64 g.edge, .slice A n c], .int .i64 dx, .int .i64 dy] w (GPost (rollR g dx dy) (rollErr g) w) := by
  have H : Hid (GAt w g A n) := h
  have HL : Hid (g.cells.length = n) := h.cl
  have hm := h.c63
  unfold maxLen at hm
  clear h
  go_enter Try.func20, Try.ntmps20
  go_wp2_with fail
  refine (gRight_any g A n c _ (H.out.up (by go_grown))).mono ?_
  rintro e w1 ⟨rfl, hb⟩
  have HB : Hid (Below w.heap.size w w1) := below_next hb (by go_grown)
  have RC : Hid (Row w1 w.heap.size 28 [.int .i64 g.w, .int .i64 g.h, .int .i64 g.edge, .slice A n c]) := rowCells ((Row.new w 28 [.int .i64 g.w, .int .i64 g.h, .int .i64 g.edge, .slice A n c]).alloc _) hb
  have RD : Hid (Row w1 (w.heap.size + 1) 28 [.int .i64 0, .int .i64 0, .int .i64 0, .slice none 0 0]) := rowCells (rowNew1 w _ 28 [.int .i64 0, .int .i64 0, .int .i64 0, .slice none 0 0]) hb
  clear hb
  have c0 := RC.out.cell 0
  have c1 := RC.out.cell 1
  have c2 := RC.out.cell 2
  have c3 := RC.out.cell 3
  have d0 := RD.out.cell 0
  have d1 := RD.out.cell 1
  have d2 := RD.out.cell 2
  have d3 := RD.out.cell 3
  have g0 := RD.out.frozen 0
  have g1 := RD.out.frozen 1
  have g2 := RD.out.frozen 2
  have g3 := RD.out.frozen 3
  have l1 := RC.out.lt
  have l2 := RD.out.lt
  simp only [List.getElem?_cons_zero, List.getElem?_cons_succ] at c0 c1 c2 c3 d0 d1 d2 d3
  have HBB := HB.out
  have HK : Hid (rollErr g = 2) := hk0
  have hor : rightG g = true → g.edge ≠ 1 := fun hr he => by unfold rollErr at hk0; rw [if_pos ⟨hr, he⟩] at hk0; exact absurd hk0 (by decide)
  clear hk0
  cases hr : rightG g
  · clear hor
    go_wp2
    exact bodyPost_ret (v := .tuple #[.agg #[.int .i64 0, .int .i64 0, .int .i64 0, .slice none 0 0], .int .i64 2]) (by simp [results, Try.results20, go_sem, d0, d1, d2, d3]) rfl (gpost_err (rollR_err HK.out) HK.out ((((HBB.setCell (by show w.heap.size ≤ w.heap.size + 1; omega) _).setCell (by show w.heap.size ≤ w.heap.size + 1; omega) _).setCell (by show w.heap.size ≤ w.heap.size + 1; omega) _).setCell (by show w.heap.size ≤ w.heap.size + 1; omega) _))
  · have hec : (g.edge != 1) = true := by simpa using hor hr
    clear hor hr
    go_wp2
    all_goals exact bodyPost_ret (v := .tuple #[.agg #[.int .i64 0, .int .i64 0, .int .i64 0, .slice none 0 0], .int .i64 2]) (by simp [results, Try.results20, go_sem, d0, d1, d2, d3]) rfl (gpost_err (rollR_err HK.out) HK.out ((((HBB.setCell (by show w.heap.size ≤ w.heap.size + 1; omega) _).setCell (by show w.heap.size ≤ w.heap.size + 1; omega) _).setCell (by show w.heap.size ≤ w.heap.size + 1; omega) _).setCell (by show w.heap.size ≤ w.heap.size + 1; omega) _))

set_option maxRecDepth 100000 in
set_option maxHeartbeats 8000000 in
theorem gRoll_ok (g : Grd) (A : Option Addr) (n c : Nat) (dx dy : Int) (w : World) (h : GAt w g A n) (hr0 : rightG g = true) (he0 : g.edge = 1) :
    Calls Try.prog 20 #[.agg #[.int .i64 g.w, .int .i64 g.h, .int .i64 g.edge, .slice A n c], .int .i64 dx, .int .i64 dy] w (GPost (rollR g dx dy) (rollErr g) w) := by
  have H : Hid (GAt w g A n) := h
  have HL : Hid (g.cells.length = n) := h.cl
  have hm := h.c63
  unfold maxLen at hm
  clear h
  have HR0 : Hid (rightG g = true) := hr0
  have HE0 : Hid (g.edge = 1) := he0
  clear hr0 he0
  go_enter Try.func20, Try.ntmps20
  go_wp2_with fail
  refine (gRight_any g A n c _ (H.out.up (by go_grown))).mono ?_
  rintro e w1 ⟨rfl, hb⟩
  have HB : Hid (Below w.heap.size w w1) := below_next hb (by go_grown)
  have RC : Hid (Row w1 w.heap.size 28 [.int .i64 g.w, .int .i64 g.h, .int .i64 g.edge, .slice A n c]) := rowCells ((Row.new w 28 [.int .i64 g.w, .int .i64 g.h, .int .i64 g.edge, .slice A n c]).alloc _) hb
  have RD : Hid (Row w1 (w.heap.size + 1) 28 [.int .i64 0, .int .i64 0, .int .i64 0, .slice none 0 0]) := rowCells (rowNew1 w _ 28 [.int .i64 0, .int .i64 0, .int .i64 0, .slice none 0 0]) hb
  clear hb
  have c0 := RC.out.cell 0
  have c1 := RC.out.cell 1
  have c2 := RC.out.cell 2
  have c3 := RC.out.cell 3
  have d0 := RD.out.cell 0
  have d1 := RD.out.cell 1
  have d2 := RD.out.cell 2
  have d3 := RD.out.cell 3
  have g0 := RD.out.frozen 0
  have g1 := RD.out.frozen 1
  have g2 := RD.out.frozen 2
  have g3 := RD.out.frozen 3
  have l1 := RC.out.lt
  have l2 := RD.out.lt
  simp only [List.getElem?_cons_zero, List.getElem?_cons_succ] at c0 c1 c2 c3 d0 d1 d2 d3
  have HBB := HB.out
  have hr := HR0.out
  have he := HE0.out
  rw [hr]
  clear HR0 HE0
  have HK : Hid (rollErr g = 0) := by show _ = _; unfold rollErr; rw [if_pos ⟨hr, he⟩]
  obtain ⟨hs, hl, ha⟩ := rightG_parts hr
  obtain ⟨⟨q1, q2⟩, ⟨h1, h2⟩, hm', he1, he2⟩ := sizedF_parts hs
  obtain ⟨p1, p2⟩ := prod_bd ⟨q1, q2⟩ ⟨h1, h2⟩
  have HN : Hid ((n : Int) = g.w * g.h) := by have := HL.out; show _ = _; omega
  have hn4 : n ≤ 4096 := by have := HN.out; omega
  have hec : (g.edge != 1) = false := by simpa using he
  have HV : Hid (rollR g dx dy = { g with cells := rollTo g.w g.h dx dy g.cells g.h.toNat }) := by show _ = _; rw [rollR, if_pos HK.out]
  clear hr hs hl ha he
  have a1 := mod_bd dx g.w (by omega)
  have b1 := mod_bd dy g.h (by omega)
  have HSA : Hid (scat g.w g.h (dx % g.w) (dy % g.h) g.cells n n = rollTo g.w g.h dx dy g.cells g.h.toNat) := scat_all q1 h1 HN.out
  go_wp2_with fail
  go_quiet (first
    | (go_at_call_of 32 (Value.int .i64 dx); exact quiet_same (modulo_any dx g.w _ q1 (by omega)))
    | (go_at_call 32; exact quiet_same (modulo_any dy g.h _ h1 (by omega))))
  generalize dx % g.w = a at a1 HSA ⊢
  generalize dy % g.h = b at b1 HSA ⊢
  obtain ⟨a1, a2⟩ := a1
  obtain ⟨b1, b2⟩ := b1
  have hmk := fun W => make_like (P := Try.prog) Try.underlying26 int_infog rfl n (n : Int) rfl (by omega) (by omega) W
  go_wp2_with fail
  have HB2 : Hid (Below w.heap.size w (w1.drewN nq)) := below_drewN HB.out _
  have RC2 : Hid (Row (w1.drewN nq) w.heap.size 28 [.int .i64 g.w, .int .i64 g.h, .int .i64 g.edge, .slice A n c]) := RC.out.drewN _
  have RD2 : Hid (Row (w1.drewN nq) (w.heap.size + 1) 28 [.int .i64 0, .int .i64 0, .int .i64 0, .slice none 0 0]) := RD.out.drewN _
  clear c0 c1 c2 c3 d0 d1 d2 d3 g0 g1 g2 g3 l1 l2 HBB RC RD HB
  revert RC2 RD2 HB2
  generalize w1.drewN nq = w2
  intro HB2 RC2 RD2
  have c0 := RC2.out.cell 0
  have c1 := RC2.out.cell 1
  have c2 := RC2.out.cell 2
  have c3 := RC2.out.cell 3
  simp only [List.getElem?_cons_zero, List.getElem?_cons_succ] at c0 c1 c2 c3
  have l1 := RC2.out.lt
  have l2 := RD2.out.lt
  clear c0 c1 c2 c3
  rename_i K hK
  have key0 : ∀ (gO gZ : Nat) (w3 : World), (Below w.heap.size w w3 ∧ Row w3 w.heap.size 28 [.int .i64 g.w, .int .i64 g.h, .int .i64 g.edge, .slice A n c] ∧ Row w3 (w.heap.size + 1) 28 [.int .i64 0, .int .i64 0, .int .i64 0, .slice none 0 0] ∧ Row w3 gO 28 [.int .i64 g.w, .int .i64 g.h, .int .i64 g.edge, .slice (some ⟨gZ, 0, none⟩) n n] ∧ Row w3 gZ 3 (ints (scat g.w g.h a b g.cells n 0)) ∧ w.heap.size + 1 < gO ∧ w.heap.size + 1 < gZ ∧ gO ≠ gZ) → K { tmps := #[.agg #[.int .i64 g.w, .int .i64 g.h, .int .i64 g.edge, .slice A n c], .int .i64 a, .int .i64 b, .pointer (some ⟨w.heap.size, 0, none⟩), undef, undef, .pointer (some ⟨w.heap.size + 1, 0, none⟩), .int .i64 0, .pointer (some ⟨gO, 0, none⟩), undef, undef, undef, undef, .agg #[.int .i64 g.w, .int .i64 g.h, .int .i64 g.edge, .slice A n c], .bool true, .bool false, .bool false, .pointer (some ⟨w.heap.size, 2, none⟩), .int .i64 g.edge, .bool false, .bool false, undef, .int .i64 dx, .pointer (some ⟨w.heap.size, 0, none⟩), .int .i64 g.w, .int .i64 a, .int .i64 dy, .pointer (some ⟨w.heap.size, 1, none⟩), .int .i64 g.h, .int .i64 b, .pointer (some ⟨w.heap.size, 0, none⟩), .int .i64 g.w, .pointer (some ⟨w.heap.size, 1, none⟩), .int .i64 g.h, .pointer (some ⟨w.heap.size, 2, none⟩), .int .i64 g.edge, .pointer (some ⟨w.heap.size, 3, none⟩), .slice A n c, .int .i64 n, .slice (some ⟨gZ, 0, none⟩) n n, .agg #[.int .i64 g.w, .int .i64 g.h, .int .i64 g.edge, .slice (some ⟨gZ, 0, none⟩) n n], undef, undef, undef, undef, undef, undef, undef, undef, undef, undef, undef, undef, undef, undef, undef, undef, undef, undef, undef, undef, undef, undef, undef, undef, undef, undef, undef, undef, undef, undef, undef, undef, undef, undef, undef, undef, undef, undef], defers := [] } w3 := by
    rintro gO gZ w3 ⟨hb3, rc3, rd3, ro3, rz3, kO, kZ, kOZ⟩
    apply hK
    clear hK K hmk
    have HB3 : Hid (Below w.heap.size w w3) := hb3
    have RC3 : Hid (Row w3 w.heap.size 28 [.int .i64 g.w, .int .i64 g.h, .int .i64 g.edge, .slice A n c]) := rc3
    have RD3 : Hid (Row w3 (w.heap.size + 1) 28 [.int .i64 0, .int .i64 0, .int .i64 0, .slice none 0 0]) := rd3
    have RO3 : Hid (Row w3 gO 28 [.int .i64 g.w, .int .i64 g.h, .int .i64 g.edge, .slice (some ⟨gZ, 0, none⟩) n n]) := ro3
    have RZ3 : Hid (Row w3 gZ 3 (ints (scat g.w g.h a b g.cells n 0))) := rz3
    clear hb3 rc3 rd3 ro3 rz3 RC2 RD2 HB2
    have c3 := RC3.out.cell 3
    simp only [List.getElem?_cons_zero, List.getElem?_cons_succ] at c3
    go_wp2_with fail
    clear c3
    go_loopg [9, 10, 11, 12, 44] n (fun gg _ _ _ _ s44 wr => ∃ kk : Nat, kk ≤ n ∧ n - kk ≤ gg ∧ s44 = .int .i64 kk ∧ Aside (Below w.heap.size w wr) ∧ Aside (Row wr w.heap.size 28 [.int .i64 g.w, .int .i64 g.h, .int .i64 g.edge, .slice A n c]) ∧ Aside (Row wr (w.heap.size + 1) 28 [.int .i64 0, .int .i64 0, .int .i64 0, .slice none 0 0]) ∧ Aside (Row wr gO 28 [.int .i64 g.w, .int .i64 g.h, .int .i64 g.edge, .slice (some ⟨gZ, 0, none⟩) n n]) ∧ Aside (Row wr gZ 3 (ints (scat g.w g.h a b g.cells n kk))))
    case atStart => exact ⟨0, Nat.zero_le _, by omega, rfl, HB3.out, RC3.out, RD3.out, RO3.out, RZ3.out⟩
    case round =>
      clear RC3 RD3 RO3 RZ3 HB3
      obtain ⟨kk, hkk, hg, rfl, BW, RC, RD, RO, RZ⟩ := hrel
      have c0 := RC.out.cell 0
      have c1 := RC.out.cell 1
      have d0 := RD.out.cell 0
      have d1 := RD.out.cell 1
      have d2 := RD.out.cell 2
      have d3 := RD.out.cell 3
      have f0 := RD.out.frozen 0
      have f1 := RD.out.frozen 1
      have f2 := RD.out.frozen 2
      have f3 := RD.out.frozen 3
      have o0 := RO.out.cell 0
      have o1 := RO.out.cell 1
      have o2 := RO.out.cell 2
      have o3 := RO.out.cell 3
      simp only [List.getElem?_cons_zero, List.getElem?_cons_succ] at c0 c1 d0 d1 d2 d3 o0 o1 o2 o3
      have hne1 : gO ≠ w.heap.size + 1 := by omega
      have hne2 : gZ ≠ w.heap.size + 1 := by omega
      have hne3 : gO ≠ w.heap.size := by omega
      have hne4 : gZ ≠ w.heap.size := by omega
      by_cases hlt : kk < n
      · have hltz : (kk : Int) < (n : Int) := by omega
        obtain ⟨ad, rfl, hb, hcell⟩ := (H.out.up BW.out).cells.int hlt
        have hk0 : (0 : Int) ≤ (kk : Int) := by omega
        have hw0 : g.w ≠ 0 := by omega
        have hh0 : g.h ≠ 0 := by omega
        obtain ⟨m1, m2⟩ := mod_bd (kk : Int) g.w (by omega)
        have m3 : 0 ≤ (kk : Int) / g.w := Int.ediv_nonneg (by omega) (by omega)
        have m4 : (kk : Int) / g.w ≤ kk := Int.ediv_le_self _ hk0
        have t1 : Int.tmod (kk : Int) g.w = (kk : Int) % g.w := Int.tmod_eq_emod_of_nonneg hk0
        have t2 : Int.tmod ((kk : Int) % g.w + a) g.w = ((kk : Int) + a) % g.w := (Int.tmod_eq_emod_of_nonneg (by omega)).trans (Int.emod_add_emod _ _ _)
        have t3 : Int.tdiv (kk : Int) g.w = (kk : Int) / g.w := Int.tdiv_eq_ediv_of_nonneg hk0
        have t4 : Int.tmod ((kk : Int) / g.w + b) g.h = ((kk : Int) / g.w + b) % g.h := Int.tmod_eq_emod_of_nonneg (by omega)
        have x1 : IntKind.i64.wrap ((kk : Int) % g.w) = (kk : Int) % g.w := IntWalk.i64_in _ (by omega)
        have x2 : IntKind.i64.wrap ((kk : Int) % g.w + a) = (kk : Int) % g.w + a := IntWalk.i64_in _ (by omega)
        have x3 : IntKind.i64.wrap ((kk : Int) / g.w) = (kk : Int) / g.w := IntWalk.i64_in _ (by omega)
        have x4 : IntKind.i64.wrap ((kk : Int) / g.w + b) = (kk : Int) / g.w + b := IntWalk.i64_in _ (by omega)
        obtain ⟨X1, X2⟩ := mod_bd ((kk : Int) + a) g.w (by omega)
        obtain ⟨Y1, Y2⟩ := mod_bd ((kk : Int) / g.w + b) g.h (by omega)
        have x5 : IntKind.i64.wrap (((kk : Int) + a) % g.w) = ((kk : Int) + a) % g.w := IntWalk.i64_in _ (by omega)
        have x6 : IntKind.i64.wrap (((kk : Int) / g.w + b) % g.h) = ((kk : Int) / g.w + b) % g.h := IntWalk.i64_in _ (by omega)
        have HST : Hid (scat g.w g.h a b g.cells n (kk + 1) = (scat g.w g.h a b g.cells n kk).set ((((kk : Int) / g.w + b) % g.h) * g.w + ((kk : Int) + a) % g.w).toNat (g.cells.getD kk 0)) := by have := scat_step (a := a) (b := b) (cs := g.cells) q1 h1 HN.out hlt; unfold dstI at this; rw [Int.emod_add_emod] at this; exact this
        have hpl := place_bd (w := g.w) (h := g.h) ⟨X1, X2⟩ ⟨Y1, Y2⟩
        have HLS : Hid ((scat g.w g.h a b g.cells n kk).length = n) := scat_length _ _ _ _ _ _ _
        generalize g.cells.getD kk 0 = y at hcell HST
        go_wp2_with fail
        go_quiet (fail)
        have BW2 : Aside (Below w.heap.size w (wr.drewN nq)) := below_drewN BW.out _
        have RC2 : Aside (Row (wr.drewN nq) w.heap.size 28 [.int .i64 g.w, .int .i64 g.h, .int .i64 g.edge, .slice (some ad) n c]) := RC.out.drewN _
        have RD2 : Aside (Row (wr.drewN nq) (w.heap.size + 1) 28 [.int .i64 0, .int .i64 0, .int .i64 0, .slice none 0 0]) := RD.out.drewN _
        have RO2 : Aside (Row (wr.drewN nq) gO 28 [.int .i64 g.w, .int .i64 g.h, .int .i64 g.edge, .slice (some ⟨gZ, 0, none⟩) n n]) := RO.out.drewN _
        have RZ2 : Aside (Row (wr.drewN nq) gZ 3 (ints (scat g.w g.h a b g.cells n kk))) := RZ.out.drewN _
        clear c0 c1 d0 d1 d2 d3 f0 f1 f2 f3 o0 o1 o2 o3 BW RC RD RO RZ hcell
        revert BW2 RC2 RD2 RO2 RZ2
        generalize wr.drewN nq = wz
        intro BW2 RC2 RD2 RO2 RZ2
        have c0 := RC2.out.cell 0
        have o3 := RO2.out.cell 3
        simp only [List.getElem?_cons_zero, List.getElem?_cons_succ] at c0 o3
        clear t1 t2 t3 t4 x1 x2 x3 x4 x5 x6 m1 m2 m3 m4
        generalize ((kk : Int) + a) % g.w = X at *
        generalize ((kk : Int) / g.w + b) % g.h = Y at *
        obtain ⟨pl1, pl2⟩ := hpl
        have hY0 : 0 ≤ Y * g.w := Int.mul_nonneg Y1 (by omega)
        have hltz2 : Y * g.w + X < (n : Int) := by have := HN.out; omega
        have hlt2 : (Y * g.w + X).toNat < n := by omega
        have vc : wz.cell? ⟨gZ, (Y * g.w + X).toNat, none⟩ = some (.int .i64 ((scat g.w g.h a b g.cells n kk).getD (Y * g.w + X).toNat 0)) := (RZ2.out.cell _).trans (ints_get _ _ (by rw [HLS.out]; exact hlt2))
        have vf : wz.frozen? ⟨gZ, (Y * g.w + X).toNat, none⟩ = false := RZ2.out.frozen _
        generalize (scat g.w g.h a b g.cells n kk).getD (Y * g.w + X).toNat 0 = old at vc
        have BB := BW2.out
        go_wp2
        go_roundg (n - (kk + 1))
        case measure => omega
        case rel =>
          refine ⟨kk + 1, by omega, by omega, by go_num, (show Below _ _ _ by go_grown), (show Row _ _ _ _ from RC2.out.far (p := ⟨gZ, _, none⟩) (by show w.heap.size ≠ gZ; omega) _), (show Row _ _ _ _ from RD2.out.far (p := ⟨gZ, _, none⟩) (by show w.heap.size + 1 ≠ gZ; omega) _), (show Row _ _ _ _ from RO2.out.far (p := ⟨gZ, _, none⟩) (by show gO ≠ gZ; omega) _), ?_⟩
          show Row _ _ _ _
          rw [HST.out, ← ints_set]
          exact RZ2.out.set _ _
      · have hltz : ¬ (kk : Int) < (n : Int) := by omega
        obtain rfl : kk = n := by omega
        have BB := BW.out
        go_wp2
        refine bodyPost_ret (v := .tuple #[.agg #[.int .i64 g.w, .int .i64 g.h, .int .i64 g.edge, .slice (some ⟨gZ, 0, none⟩) kk kk], .int .i64 0]) (by simp [results, Try.results20, go_sem, d0, d1, d2, d3]) rfl ?_
        show GPost _ _ _ _ _
        rw [HV.out, HK.out]
        refine ⟨some ⟨gZ, 0, none⟩, kk, kk, rfl, ⟨?_, by unfold maxLen; omega⟩, ?_⟩
        · have hz := RZ.out
          rw [HSA.out] at hz
          have hl1 : (ints (rollTo g.w g.h dx dy g.cells g.h.toNat)).length = kk * 1 := by rw [ints_length, ← HSA.out, scat_length]; omega
          show Rd _ _ _ _ _ (ints (rollTo g.w g.h dx dy g.cells g.h.toNat))
          generalize ints (rollTo g.w g.h dx dy g.cells g.h.toNat) = zs at hz hl1 ⊢
          have hf := (((hz.far (p := ⟨w.heap.size + 1, 0, none⟩) (by show gZ ≠ w.heap.size + 1; omega) (.int .i64 g.w)).far (p := ⟨w.heap.size + 1, 1, none⟩) (by show gZ ≠ w.heap.size + 1; omega) (.int .i64 g.h)).far (p := ⟨w.heap.size + 1, 2, none⟩) (by show gZ ≠ w.heap.size + 1; omega) (.int .i64 g.edge)).far (p := ⟨w.heap.size + 1, 3, none⟩) (by show gZ ≠ w.heap.size + 1; omega) (.slice (some ⟨gZ, 0, none⟩) kk kk)
          exact hf.rd hl1
        · exact (((BB.setCell (by show w.heap.size ≤ w.heap.size + 1; omega) _).setCell (by show w.heap.size ≤ w.heap.size + 1; omega) _).setCell (by show w.heap.size ≤ w.heap.size + 1; omega) _).setCell (by show w.heap.size ≤ w.heap.size + 1; omega) _
  have c0 := RC2.out.cell 0
  have c1 := RC2.out.cell 1
  have c2 := RC2.out.cell 2
  have c3 := RC2.out.cell 3
  simp only [List.getElem?_cons_zero, List.getElem?_cons_succ] at c0 c1 c2 c3
  have hz0 : ints (scat g.w g.h a b g.cells n 0) = List.replicate n (.int .i64 0) := by rw [scat_zero, ints_zeros]
  have HZ0 : Hid (ints (scat g.w g.h a b g.cells n 0) = List.replicate n (.int .i64 0)) := hz0
  clear hz0
  have key : Hid (∀ (gO gZ : Nat) (w3 : World), (Below w.heap.size w w3 ∧ Row w3 w.heap.size 28 [.int .i64 g.w, .int .i64 g.h, .int .i64 g.edge, .slice A n c] ∧ Row w3 (w.heap.size + 1) 28 [.int .i64 0, .int .i64 0, .int .i64 0, .slice none 0 0] ∧ Row w3 gO 28 [.int .i64 g.w, .int .i64 g.h, .int .i64 g.edge, .slice (some ⟨gZ, 0, none⟩) n n] ∧ Row w3 gZ 3 (ints (scat g.w g.h a b g.cells n 0)) ∧ w.heap.size + 1 < gO ∧ w.heap.size + 1 < gZ ∧ gO ≠ gZ) → K { tmps := #[.agg #[.int .i64 g.w, .int .i64 g.h, .int .i64 g.edge, .slice A n c], .int .i64 a, .int .i64 b, .pointer (some ⟨w.heap.size, 0, none⟩), undef, undef, .pointer (some ⟨w.heap.size + 1, 0, none⟩), .int .i64 0, .pointer (some ⟨gO, 0, none⟩), undef, undef, undef, undef, .agg #[.int .i64 g.w, .int .i64 g.h, .int .i64 g.edge, .slice A n c], .bool true, .bool false, .bool false, .pointer (some ⟨w.heap.size, 2, none⟩), .int .i64 g.edge, .bool false, .bool false, undef, .int .i64 dx, .pointer (some ⟨w.heap.size, 0, none⟩), .int .i64 g.w, .int .i64 a, .int .i64 dy, .pointer (some ⟨w.heap.size, 1, none⟩), .int .i64 g.h, .int .i64 b, .pointer (some ⟨w.heap.size, 0, none⟩), .int .i64 g.w, .pointer (some ⟨w.heap.size, 1, none⟩), .int .i64 g.h, .pointer (some ⟨w.heap.size, 2, none⟩), .int .i64 g.edge, .pointer (some ⟨w.heap.size, 3, none⟩), .slice A n c, .int .i64 n, .slice (some ⟨gZ, 0, none⟩) n n, .agg #[.int .i64 g.w, .int .i64 g.h, .int .i64 g.edge, .slice (some ⟨gZ, 0, none⟩) n n], undef, undef, undef, undef, undef, undef, undef, undef, undef, undef, undef, undef, undef, undef, undef, undef, undef, undef, undef, undef, undef, undef, undef, undef, undef, undef, undef, undef, undef, undef, undef, undef, undef, undef, undef, undef, undef, undef], defers := [] } w3) := key0
  clear key0 hK
  go_region
  · refine key.out (w2.heap.size + 1) w2.heap.size _ ⟨below_on2 HB2.out (by go_grown), ((RC2.out.alloc _).alloc _).drew, ((RD2.out.alloc _).alloc _).drew, (rowNew1 w2 _ 28 [.int .i64 g.w, .int .i64 g.h, .int .i64 g.edge, .slice (some ⟨w2.heap.size, 0, none⟩) n n]).drew, ?_, by omega, by omega, by omega⟩
    rw [HZ0.out]
    exact ((Row.new w2 3 (List.replicate n (.int .i64 0))).alloc _).drew
  · refine key.out w2.heap.size (w2.heap.size + 1) _ ⟨below_on2 HB2.out (by go_grown), ((RC2.out.alloc _).alloc _).drew, ((RD2.out.alloc _).alloc _).drew, ((Row.new w2 28 [.int .i64 g.w, .int .i64 g.h, .int .i64 g.edge, .slice (some ⟨w2.heap.size + 1, 0, none⟩) n n]).alloc _).drew, ?_, by omega, by omega, by omega⟩
    rw [HZ0.out]
    exact (rowNew1 w2 _ 3 (List.replicate n (.int .i64 0))).drew

theorem gRoll_any (g : Grd) (A : Option Addr) (n c : Nat) (dx dy : Int) (w : World) (h : GAt w g A n) :
    Calls Try.prog 20 #[.agg #[.int .i64 g.w, .int .i64 g.h, .int .i64 g.edge, .slice A n c], .int .i64 dx, .int .i64 dy] w (GPost (rollR g dx dy) (rollErr g) w) := by
  by_cases hk : rightG g = true ∧ g.edge = 1
  · exact gRoll_ok g A n c dx dy w h hk.1 hk.2
  · exact gRoll_bad g A n c dx dy w h (by unfold rollErr; rw [if_neg hk])
end Go.Proofs.Ytdkfaphclhaiaaa
