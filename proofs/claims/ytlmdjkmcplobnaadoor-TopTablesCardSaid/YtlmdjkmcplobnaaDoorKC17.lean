/-
  tree.Right, walked to its end.
-/
import Derived.Test.YtlmdjkmcplobnaaDoorKC16
import Derived.Test.YtlmdjkmcplobnaaDoorKC1
import Derived.Test.YtlmdjkmcplobnaaDoorKC5
import Derived.Test.YtlmdjkmcplobnaaDoorKC4
namespace Go.Proofs.YtlmdjkmcplobnaaDoor
open Go.RowKit
set_option linter.unusedSimpArgs false
set_option linter.unusedVariables false

theorem headOk_parts {t : Tre} (h : headOk t = true) : (2 ≤ t.states ∧ t.states ≤ 8) ∧ 1 ≤ t.nodes.length ∧ t.nodes.length ≤ 4096 ∧ (t.nodes.getD (t.nodes.length - 1) default).level = t.hood.length := by
  simpa [headOk] using h
theorem rightT_all {t : Tre} (h1 : hoodOk t.hood = true) (h2 : headOk t = true) (h : ∀ i, i < t.nodes.length → nodeOk t i = true) : rightT t = true := by
  have : nodesOk t = true := decide_eq_true h
  simp [rightT, h1, h2, this]
theorem nodeOk_len {t : Tre} {i : Nat} {x : Nd} (hx : t.nodes.getD i default = x) (h : ¬ (1 ≤ x.level ∧ x.level ≤ t.hood.length ∧ (x.next.length : Int) = t.states)) : nodeOk t i = false := by
  rw [nodeOk, hx, decide_eq_false h]; rfl
theorem nodeOk_link {t : Tre} {i : Nat} {x : Nd} (hx : t.nodes.getD i default = x) (s : Nat) (hs : s < x.next.length) (h : linkOk t i x (x.next.getD s 0) = false) : nodeOk t i = false := by
  rw [nodeOk, hx, all_false_at _ _ s hs h]; simp
theorem nodeOk_all {t : Tre} {i : Nat} {x : Nd} (hx : t.nodes.getD i default = x) (h : 1 ≤ x.level ∧ x.level ≤ t.hood.length ∧ (x.next.length : Int) = t.states) (hs : ∀ s, s < x.next.length → linkOk t i x (x.next.getD s 0) = true) : nodeOk t i = true := by
  rw [nodeOk, hx, decide_eq_true h, all_true_at _ _ hs]; rfl

set_option maxRecDepth 100000 in
set_option maxHeartbeats 4000000 in
theorem treeRight_ok (t : Tre) (HA NA : Option Addr) (hn hc nn nc : Nat) (sl : List Sl) (w : World) (h : TAt w t HA NA hn nn sl) (hh : hoodOk t.hood = true) (hg : headOk t = true) :
    Calls Tryd.prog 15 #[.agg #[.int .i64 t.states, .slice HA hn hc, .slice NA nn nc]] w fun e w' => e = .returned (.bool (rightT t)) ∧ Below w.heap.size w w' := by
  have H : Hid (TAt w t HA NA hn nn sl) := h
  have HL : Hid (t.nodes.length = nn) := h.nl
  have HLH : Hid (t.hood.length = hn) := h.hl
  have hm1 := h.h63
  have HG : Hid (headOk t = true) := hg
  obtain ⟨⟨q1, q2⟩, q3, q4, q5⟩ := headOk_parts hg
  rw [HL.out] at q3 q4
  have hn25 : hn ≤ 25 := by
    simp only [hoodOk, Bool.and_eq_true, decide_eq_true_eq] at hh
    rw [HLH.out] at hh; omega
  have HH0 : Hid (hoodOk t.hood = true) := hh
  clear h hg
  have hs0 : ¬ t.states < 2 := by omega
  have hs1 : ¬ 8 < t.states := by omega
  have hd0 : decide (t.states < 2) = false := by simpa using hs0
  have hd1 : decide (8 < t.states) = false := by simpa using hs1
  obtain ⟨m, rfl⟩ : ∃ m, nn = m + 1 := ⟨nn - 1, by omega⟩
  obtain ⟨ad, rfl, hb, g0, g1⟩ := H.out.node (k := m) (by omega)
  clear g1
  rw [HL.out, Nat.add_sub_cancel, HLH.out] at q5
  rw [q5] at g0
  clear q5
  have hj1 : (0 : Int) ≤ (m : Int) := by omega
  have hjn : (m : Int) < (m : Int) + 1 := by omega
  have hwj : IntKind.i64.wrap (m : Int) = (m : Int) := IntWalk.i64_in _ (by omega)
  have he0 : decide ((m : Int) + 1 < 1) = false := by rw [decide_eq_false_iff_not]; omega
  have he1 : decide (4096 < (m : Int) + 1) = false := by rw [decide_eq_false_iff_not]; omega
  have hne : ((hn : Int) != (hn : Int)) = false := by simp
  go_enter Tryd.func15, Tryd.ntmps15
  go_wp2_with fail
  have RA : Hid (Row (World.alloc w _) w.heap.size 31 [.int .i64 t.states, .slice HA hn hc, .slice (some ad) (m + 1) nc]) := Row.new w 31 [.int .i64 t.states, .slice HA hn hc, .slice (some ad) (m + 1) nc]
  have HB : Hid (Below w.heap.size w (World.alloc w (.cells #[.int .i64 t.states, .slice HA hn hc, .slice (some ad) (m + 1) nc] 31))) := by show Below _ _ _; go_grown
  revert RA HB
  generalize World.alloc w (.cells #[.int .i64 t.states, .slice HA hn hc, .slice (some ad) (m + 1) nc] 31) = w1
  intro RA HB
  have hu : undef = Value.tuple #[] := rfl
  have HH : Hid (Rd w1 w1.heap.size 2 HA hn (hoodCells t.hood)) := H.out.hood.up HB.out
  have HN : Hid (Below w1.heap.size w1 w1) := Below.refl _ _
  have hbox : w.heap.size < w1.heap.size := RA.out.lt
  have HS : ∀ w', Below w1.heap.size w1 w' → w'.cell? ⟨w.heap.size, 0, none⟩ = some (.int .i64 t.states) ∧ w'.cell? ⟨w.heap.size, 1, none⟩ = some (.slice HA hn hc) ∧ w'.cell? ⟨w.heap.size, 2, none⟩ = some (.slice (some ad) (m + 1) nc) ∧ w'.cell? (ad.add (m * 2)) = some (.int .i64 hn) := fun w' hw => ⟨(rowCells RA.out hw).cell 0, (rowCells RA.out hw).cell 1, (rowCells RA.out hw).cell 2, ((HB.out.trans (hw.mono HB.out.size)).cell (by rw [add_block]; exact hb)).trans g0⟩
  clear g0
  refine wp_region_held_drew (S := fun w' => w'.cell? ⟨w.heap.size, 0, none⟩ = some (.int .i64 t.states) ∧ w'.cell? ⟨w.heap.size, 1, none⟩ = some (.slice HA hn hc) ∧ w'.cell? ⟨w.heap.size, 2, none⟩ = some (.slice (some ad) (m + 1) nc) ∧ w'.cell? (ad.add (m * 2)) = some (.int .i64 hn)) (by kernel_rfl) (by (try dsimp only); exact HS _ (by first | exact below_on2 HN.out (by go_grown) | go_grown)) (fun hHeld => ?_)
  refine wpAnyH_take (i := 0) (v := ?vg0) rfl (by kernel_rfl) (by kernel_rfl) (by kernel_rfl) (fun _ _ _ h => h) (Or.inl ⟨by rfl, ?yg0⟩) (by assumption) ?rg0
  case yg0 => intro w' hSw; (try dsimp only at hSw); go_simp; try (with_reducible rfl)
  go_simp
  refine wpAnyH_take (i := 1) (v := ?vg1) rfl (by kernel_rfl) (by kernel_rfl) (by kernel_rfl) (fun _ _ _ h => h) (Or.inl ⟨by rfl, ?yg1⟩) (by assumption) ?rg1
  case yg1 => intro w' hSw; (try dsimp only at hSw); go_simp; try (with_reducible rfl)
  go_simp
  refine wpAnyH_take (i := 2) (v := ?vg2) rfl (by kernel_rfl) (by kernel_rfl) (by kernel_rfl) (fun _ _ _ h => h) (Or.inl ⟨by rfl, ?yg2⟩) (by assumption) ?rg2
  case yg2 => intro w' hSw; (try dsimp only at hSw); go_simp; try (with_reducible rfl)
  go_simp
  refine wpAnyH_take (i := 3) (v := ?vg3) rfl (by kernel_rfl) (by kernel_rfl) (by kernel_rfl) (fun _ _ _ h => h) (Or.inl ⟨by rfl, ?yg3⟩) (by assumption) ?rg3
  case yg3 => intro w' hSw; (try dsimp only at hSw); go_simp; try (with_reducible rfl)
  go_simp
  refine wpAnyH_take (i := 4) (v := ?vg4) rfl (by kernel_rfl) (by kernel_rfl) (by kernel_rfl) (fun _ _ _ h => h) (Or.inl ⟨by first | rfl | (go_simp; done), ?yg4⟩) (by assumption) ?rg4
  case yg4 => intro w' hSw; (try dsimp only at hSw); go_simp; try (with_reducible rfl)
  go_simp
  refine wpAnyH_take (i := 5) (v := ?vg5) rfl (by kernel_rfl) (by kernel_rfl) (by kernel_rfl) (fun _ _ _ h => h) (Or.inl ⟨by first | rfl | (go_simp; done), ?yg5⟩) (by assumption) ?rg5
  case yg5 => intro w' hSw; (try dsimp only at hSw); go_simp; try (with_reducible rfl)
  go_simp
  refine wpAnyH_take (i := 6) (v := ?vg6) rfl (by kernel_rfl) (by kernel_rfl) (by kernel_rfl) (fun _ _ _ h => h) (Or.inl ⟨by first | rfl | (go_simp; done), ?yg6⟩) (by assumption) ?rg6
  case yg6 => intro w' hSw; (try dsimp only at hSw); go_simp; try (with_reducible rfl)
  go_simp
  refine wpAnyH_take (i := 7) (v := ?vg7) rfl (by kernel_rfl) (by kernel_rfl) (by kernel_rfl) (fun _ _ _ h => h) (Or.inl ⟨by rfl, ?yg7⟩) (by assumption) ?rg7
  case yg7 => intro w' hSw; (try dsimp only at hSw); go_simp; try (with_reducible rfl)
  go_simp
  refine wpAnyH_take (i := 8) (v := ?vg8) rfl (by kernel_rfl) (by kernel_rfl) (by kernel_rfl) (fun _ _ _ h => h) (Or.inl ⟨by rfl, ?yg8⟩) (by assumption) ?rg8
  case yg8 => intro w' hSw; (try dsimp only at hSw); go_simp; try (with_reducible rfl)
  go_simp
  refine wpAnyH_take (i := 9) (v := ?vg9) rfl (by kernel_rfl) (by kernel_rfl) (by kernel_rfl) (fun _ _ _ h => h) (Or.inl ⟨by first | rfl | (go_simp; done), ?yg9⟩) (by assumption) ?rg9
  case yg9 => intro w' hSw; (try dsimp only at hSw); go_simp; try (with_reducible rfl)
  go_simp
  refine wpAnyH_take (i := 10) (v := ?vg10) rfl (by kernel_rfl) (by kernel_rfl) (by kernel_rfl) (fun _ _ _ h => h) (Or.inl ⟨by first | rfl | (go_simp; done), ?yg10⟩) (by assumption) ?rg10
  case yg10 => intro w' hSw; (try dsimp only at hSw); go_simp; try (with_reducible rfl)
  go_simp
  refine wpAnyH_ready (rs := [11]) (by kernel_rfl) (by simp) ?_
  refine AllReadyH.cons rfl (fun K hK => ?_) AllReadyH.nil
  go_simp
  go_at_call 24
  refine (hoodRight_any t.hood HA hn hc _ (by exact HH.out.up (by first | exact below_on2 HN.out (by go_grown) | go_grown)) hm1).mono ?_
  rw [hh]
  rintro e w7 ⟨rfl, hb⟩
  have HN := (show Hid (Below w1.heap.size w1 w7) from below_on HN.out (by go_grown) hb)
  clear hb
  refine hK.out _ _ ?_ (fun hHeld => ?_)
  · (try dsimp only); exact HS _ (by first | exact below_on2 HN.out (by go_grown) | go_grown)
  clear hK K
  try go_simp
  refine wpAnyH_take (i := 12) (v := ?vg12) rfl (by kernel_rfl) (by kernel_rfl) (by kernel_rfl) (fun _ _ _ h => h) (Or.inl ⟨by first | rfl | (go_simp; done), ?yg12⟩) (by assumption) ?rg12
  case yg12 => intro w' hSw; (try dsimp only at hSw); go_simp; try (with_reducible rfl)
  go_simp
  refine wpAnyH_take (i := 13) (v := ?vg13) rfl (by kernel_rfl) (by kernel_rfl) (by kernel_rfl) (fun _ _ _ h => h) (Or.inl ⟨by rfl, ?yg13⟩) (by assumption) ?rg13
  case yg13 => intro w' hSw; (try dsimp only at hSw); go_simp; try (with_reducible rfl)
  go_simp
  refine wpAnyH_take (i := 14) (v := ?vg14) rfl (by kernel_rfl) (by kernel_rfl) (by kernel_rfl) (fun _ _ _ h => h) (Or.inl ⟨by rfl, ?yg14⟩) (by assumption) ?rg14
  case yg14 => intro w' hSw; (try dsimp only at hSw); go_simp; try (with_reducible rfl)
  go_simp
  refine wpAnyH_take (i := 15) (v := ?vg15) rfl (by kernel_rfl) (by kernel_rfl) (by kernel_rfl) (fun _ _ _ h => h) (Or.inl ⟨by first | rfl | (go_simp; done), ?yg15⟩) (by assumption) ?rg15
  case yg15 => intro w' hSw; (try dsimp only at hSw); go_simp; try (with_reducible rfl)
  go_simp
  refine wpAnyH_take (i := 16) (v := ?vg16) rfl (by kernel_rfl) (by kernel_rfl) (by kernel_rfl) (fun _ _ _ h => h) (Or.inl ⟨by first | rfl | (go_simp; done), ?yg16⟩) (by assumption) ?rg16
  case yg16 => intro w' hSw; (try dsimp only at hSw); go_simp; try (with_reducible rfl)
  go_simp
  refine wpAnyH_take (i := 17) (v := ?vg17) rfl (by kernel_rfl) (by kernel_rfl) (by kernel_rfl) (fun _ _ _ h => h) (Or.inl ⟨by rfl, ?yg17⟩) (by assumption) ?rg17
  case yg17 => intro w' hSw; (try dsimp only at hSw); go_simp; try (with_reducible rfl)
  go_simp
  refine wpAnyH_take (i := 18) (v := ?vg18) rfl (by kernel_rfl) (by kernel_rfl) (by kernel_rfl) (fun _ _ _ h => h) (Or.inl ⟨by rfl, ?yg18⟩) (by assumption) ?rg18
  case yg18 => intro w' hSw; (try dsimp only at hSw); go_simp; try (with_reducible rfl)
  go_simp
  refine wpAnyH_take (i := 19) (v := ?vg19) rfl (by kernel_rfl) (by kernel_rfl) (by kernel_rfl) (fun _ _ _ h => h) (Or.inl ⟨by first | rfl | (go_simp; done), ?yg19⟩) (by assumption) ?rg19
  case yg19 => intro w' hSw; (try dsimp only at hSw); go_simp; try (with_reducible rfl)
  go_simp
  refine wpAnyH_take (i := 20) (v := ?vg20) rfl (by kernel_rfl) (by kernel_rfl) (by kernel_rfl) (fun _ _ _ h => h) (Or.inl ⟨by first | rfl | (go_simp; done), ?yg20⟩) (by assumption) ?rg20
  case yg20 => intro w' hSw; (try dsimp only at hSw); go_simp; try (with_reducible rfl)
  go_simp
  refine wpAnyH_take (i := 21) (v := ?vg21) rfl (by kernel_rfl) (by kernel_rfl) (by kernel_rfl) (fun _ _ _ h => h) (Or.inl ⟨by rfl, ?yg21⟩) (by assumption) ?rg21
  case yg21 => intro w' hSw; (try dsimp only at hSw); go_simp; try (with_reducible rfl)
  go_simp
  refine wpAnyH_take (i := 22) (v := ?vg22) rfl (by kernel_rfl) (by kernel_rfl) (by kernel_rfl) (fun _ _ _ h => h) (Or.inl ⟨by rfl, ?yg22⟩) (by assumption) ?rg22
  case yg22 => intro w' hSw; (try dsimp only at hSw); go_simp; try (with_reducible rfl)
  go_simp
  refine wpAnyH_take (i := 23) (v := ?vg23) rfl (by kernel_rfl) (by kernel_rfl) (by kernel_rfl) (fun _ _ _ h => h) (Or.inl ⟨by first | rfl | (go_simp; done), ?yg23⟩) (by assumption) ?rg23
  case yg23 => intro w' hSw; (try dsimp only at hSw); go_simp; try (with_reducible rfl)
  go_simp
  refine wpAnyH_take (i := 24) (v := ?vg24) rfl (by kernel_rfl) (by kernel_rfl) (by kernel_rfl) (fun _ _ _ h => h) (Or.inl ⟨by first | rfl | (go_simp; done), ?yg24⟩) (by assumption) ?rg24
  case yg24 => intro w' hSw; (try dsimp only at hSw); go_simp; try (with_reducible rfl)
  go_simp
  refine wpAnyH_take (i := 25) (v := ?vg25) rfl (by kernel_rfl) (by kernel_rfl) (by kernel_rfl) (fun _ _ _ h => h) (Or.inl ⟨by first | rfl | (go_simp; done), ?yg25⟩) (by assumption) ?rg25
  case yg25 => intro w' hSw; (try dsimp only at hSw); go_simp; try (with_reducible rfl)
  go_simp
  refine wpAnyH_take (i := 26) (v := ?vg26) rfl (by kernel_rfl) (by kernel_rfl) (by kernel_rfl) (fun _ _ _ h => h) (Or.inl ⟨by first | rfl | (go_simp; done), ?yg26⟩) (by assumption) ?rg26
  case yg26 => intro w' hSw; (try dsimp only at hSw); go_simp; try (with_reducible rfl)
  go_simp
  refine wpAnyH_take (i := 27) (v := ?vg27) rfl (by kernel_rfl) (by kernel_rfl) (by kernel_rfl) (fun _ _ _ h => h) (Or.inl ⟨by first | rfl | (go_simp; done), ?yg27⟩) (by assumption) ?rg27
  case yg27 => intro w' hSw; (try dsimp only at hSw); go_simp; try (with_reducible rfl)
  go_simp
  refine wpAnyH_take (i := 28) (v := ?vg28) rfl (by kernel_rfl) (by kernel_rfl) (by kernel_rfl) (fun _ _ _ h => h) (Or.inl ⟨by first | rfl | (go_simp; done), ?yg28⟩) (by assumption) ?rg28
  case yg28 => intro w' hSw; (try dsimp only at hSw); go_simp; try (with_reducible rfl)
  go_simp
  refine wpAnyH_take (i := 29) (v := ?vg29) rfl (by kernel_rfl) (by kernel_rfl) (by kernel_rfl) (fun _ _ _ h => h) (Or.inl ⟨by first | rfl | (go_simp; done), ?yg29⟩) (by assumption) ?rg29
  case yg29 => intro w' hSw; (try dsimp only at hSw); go_simp; try (with_reducible rfl)
  go_simp
  refine wpAnyH_take (i := 30) (v := ?vg30) rfl (by kernel_rfl) (by kernel_rfl) (by kernel_rfl) (fun _ _ _ h => h) (Or.inl ⟨by first | rfl | (go_simp; done), ?yg30⟩) (by assumption) ?rg30
  case yg30 => intro w' hSw; (try dsimp only at hSw); go_simp; try (with_reducible rfl)
  go_simp
  refine wpAnyH_take (i := 31) (v := ?vg31) rfl (by kernel_rfl) (by kernel_rfl) (by kernel_rfl) (fun _ _ _ h => h) (Or.inl ⟨by first | rfl | (go_simp; done), ?yg31⟩) (by assumption) ?rg31
  case yg31 => intro w' hSw; (try dsimp only at hSw); go_simp; try (with_reducible rfl)
  go_simp
  refine wpAnyH_take (i := 32) (v := ?vg32) rfl (by kernel_rfl) (by kernel_rfl) (by kernel_rfl) (fun _ _ _ h => h) (Or.inl ⟨by first | rfl | (go_simp; done), ?yg32⟩) (by assumption) ?rg32
  case yg32 => intro w' hSw; (try dsimp only at hSw); go_simp; try (with_reducible rfl)
  go_simp
  refine wpAnyH_take (i := 33) (v := ?vg33) rfl (by kernel_rfl) (by kernel_rfl) (by kernel_rfl) (fun _ _ _ h => h) (Or.inl ⟨by first | rfl | (go_simp; done), ?yg33⟩) (by assumption) ?rg33
  case yg33 => intro w' hSw; (try dsimp only at hSw); go_simp; try (with_reducible rfl)
  go_simp
  refine wpAnyH_take (i := 34) (v := ?vg34) rfl (by kernel_rfl) (by kernel_rfl) (by kernel_rfl) (fun _ _ _ h => h) (Or.inl ⟨by rfl, ?yg34⟩) (by assumption) ?rg34
  case yg34 => intro w' hSw; (try dsimp only at hSw); go_simp; try (with_reducible rfl)
  go_simp
  refine wpAnyH_done (by kernel_rfl) ?_ _
  clear hs0 hs1 hd0 hd1 he0 he1 hne hwj hj1 hjn
  have RW : Hid (Row w7 w.heap.size 31 [.int .i64 t.states, .slice HA hn hc, .slice (some ad) (m + 1) nc]) := rowCells RA.out HN.out
  have k0 := RW.out.cell 0
  have k1 := RW.out.cell 1
  have k2 := RW.out.cell 2
  have kl := RW.out.lt
  simp only [List.getElem?_cons_zero, List.getElem?_cons_succ] at k0 k1 k2
  go_wp2
  clear k0 k1 k2 kl RW hHeld HS hb hh
  go_loopg [4, 49] (m + 1) (fun gg _ s49 wr => ∃ kk : Nat, kk ≤ m + 1 ∧ m + 1 - kk ≤ gg ∧ s49 = .int .i64 kk ∧ Aside (Below w1.heap.size w1 wr) ∧ Aside (∀ j, j < kk → nodeOk t j = true))
  case atStart => exact ⟨0, Nat.zero_le _, by omega, rfl, (by first | exact HN.out | exact below_drewN HN.out _ | exact below_on2 HN.out (by go_grown)), fun j hj => absurd hj (Nat.not_lt_zero _)⟩
  case round =>
    obtain ⟨kk, hkk, hgg, rfl, BW, AA⟩ := hrel
    clear HN
    have RW : Hid (Row wr w.heap.size 31 [.int .i64 t.states, .slice HA hn hc, .slice (some ad) (m + 1) nc]) := rowCells RA.out BW.out
    have k0 := RW.out.cell 0
    have k1 := RW.out.cell 1
    have k2 := RW.out.cell 2
    have kl := RW.out.lt
    simp only [List.getElem?_cons_zero, List.getElem?_cons_succ] at k0 k1 k2
    have HBr : Hid (Below w.heap.size w wr) := below_on2 HB.out BW.out
    by_cases hlt : kk < m + 1
    · have hltz : (kk : Int) < (m : Int) + 1 := by omega
      obtain ⟨ad', e', hb', g0, g1⟩ := (H.out.up HBr.out).node hlt
      cases e'
      have HNX := (H.out.up HBr.out).next kk (by rw [HL.out]; exact hlt)
      generalize hx : t.nodes.getD kk default = x at g0 HNX
      generalize hq : sl.getD kk default = q at g1 HNX
      obtain ⟨qa, ql, qc⟩ := q
      dsimp only at HNX g1
      obtain ⟨hnx, hql⟩ := HNX
      have HNX : Hid (Rd wr wr.heap.size 1 qa ql (ints x.next)) := hnx
      have HNL : Hid (x.next.length = ql) := by have := hnx.1; simp at this; show _ = _; omega
      have HX : Hid (t.nodes.getD kk default = x) := hx
      have hfalse : Hid (nodeOk t kk = false → rightT t = false) := fun he => rightT_node kk (by rw [HL.out]; exact hlt) he
      unfold maxLen at hql
      clear hx hq hnx
      by_cases c1 : x.level < 1
      · have HF : Hid (rightT t = false) := hfalse.out (nodeOk_len HX.out (by omega))
        go_wp2
        go_ret
        exact ⟨ret_bool HF.out.symm, below_on2 HBr.out (by go_grown)⟩
      by_cases c2 : (hn : Int) < x.level
      · have HF : Hid (rightT t = false) := hfalse.out (nodeOk_len HX.out (by rw [HLH.out]; omega))
        go_wp2
        go_ret
        exact ⟨ret_bool HF.out.symm, below_on2 HBr.out (by go_grown)⟩
      cases c3 : ((ql : Int) != t.states)
      case true =>
        have HF : Hid (rightT t = false) := hfalse.out (nodeOk_len HX.out (by rw [HNL.out]; rw [bne_iff_ne] at c3; omega))
        go_wp2
        go_ret
        exact ⟨ret_bool HF.out.symm, below_on2 HBr.out (by go_grown)⟩
      have HC : Hid (1 ≤ x.level ∧ x.level ≤ t.hood.length ∧ (x.next.length : Int) = t.states) := ⟨by omega, by rw [HLH.out]; omega, by rw [HNL.out]; simpa using c3⟩
      go_wp2
      clear c3 k0 k1 k2 kl g0 g1
      have RX : Hid (Row (World.alloc wr _) wr.heap.size 72 [.int .i64 x.level, .slice qa ql qc]) := Row.new wr 72 [.int .i64 x.level, .slice qa ql qc]
      have HW2 : Hid (Below wr.heap.size wr (World.alloc wr (.cells #[.int .i64 x.level, .slice qa ql qc] 72))) := by show Below _ _ _; go_grown
      have RT : Hid (Row (World.alloc wr (.cells #[.int .i64 x.level, .slice qa ql qc] 72)) w.heap.size 31 [.int .i64 t.states, .slice HA hn hc, .slice (some ad) (m + 1) nc]) := rowCells RW.out HW2.out
      revert RX HW2 RT
      generalize World.alloc wr (.cells #[.int .i64 x.level, .slice qa ql qc] 72) = w2
      intro RX HW2 RT
      have HB2 : Hid (Below w.heap.size w w2) := below_on2 HBr.out HW2.out
      have HN2 : Hid (Below w1.heap.size w1 w2) := below_on2 BW.out HW2.out
      have HNX2 : Hid (Rd w2 w2.heap.size 1 qa ql (ints x.next)) := HNX.out.up HW2.out
      clear HNX HBr RW BW HW2
      obtain ⟨wo, rfl⟩ : ∃ wo : World, wo = wr := ⟨_, rfl⟩
      go_loopg [7, 76] ql (fun gg _ s76 wr => ∃ k2 : Nat, k2 ≤ ql ∧ ql - k2 ≤ gg ∧ s76 = .int .i64 k2 ∧ Aside (Below w2.heap.size w2 wr) ∧ Aside (∀ s, s < k2 → linkOk t kk x (x.next.getD s 0) = true))
      case atStart => exact ⟨0, Nat.zero_le _, by omega, rfl, Below.refl _ _, fun j hj => absurd hj (Nat.not_lt_zero _)⟩
      case round =>
        obtain ⟨n2, hn2, hg2, rfl, BI, AI⟩ := hrel
        have RXi : Hid (Row wr wo.heap.size 72 [.int .i64 x.level, .slice qa ql qc]) := rowCells RX.out BI.out
        have RTi : Hid (Row wr w.heap.size 31 [.int .i64 t.states, .slice HA hn hc, .slice (some ad) (m + 1) nc]) := rowCells RT.out BI.out
        have k0 := RTi.out.cell 0
        have k1 := RTi.out.cell 1
        have k2 := RTi.out.cell 2
        have kl := RTi.out.lt
        simp only [List.getElem?_cons_zero, List.getElem?_cons_succ] at k0 k1 k2
        have x0 := RXi.out.cell 0
        have x1 := RXi.out.cell 1
        have xl := RXi.out.lt
        simp only [List.getElem?_cons_zero, List.getElem?_cons_succ] at x0 x1
        have HBi : Hid (Below w.heap.size w wr) := below_on2 HB2.out BI.out
        by_cases hlt2 : n2 < ql
        · have hltz2 : (n2 : Int) < (ql : Int) := by omega
          obtain ⟨adn, rfl, hbn, hz⟩ := (HNX2.out.up BI.out).int hlt2
          generalize hzz : x.next.getD n2 0 = z at hz
          have HZ : Hid (x.next.getD n2 0 = z) := hzz
          have hfl : Hid (linkOk t kk x z = false → rightT t = false) := fun he => hfalse.out (nodeOk_link HX.out n2 (by rw [HNL.out]; exact hlt2) (by rw [HZ.out]; exact he))
          clear hzz
          have hsub : IntKind.i64.wrap (x.level - 1) = x.level - 1 := IntWalk.i64_in _ (by omega)
          by_cases a1 : z < 0
          · have HF : Hid (rightT t = false) := hfl.out (decide_eq_false (by omega))
            have d1 : decide (z < 0) = true := by simpa using a1
            go_wp2_with fail
            go_quiet (fail)
            go_wp2
            go_ret
            exact ⟨ret_bool HF.out.symm, below_drewN HBi.out _⟩
          have d1 : decide (z < 0) = false := by simpa using a1
          cases d2 : (x.level == 1)
          · have hlev : 1 < x.level := by
              have : x.level ≠ 1 := by simpa using d2
              omega
            have d3 : decide (1 < x.level) = true := by simpa using hlev
            by_cases a2 : (kk : Int) ≤ z
            · have HF : Hid (rightT t = false) := hfl.out (decide_eq_false (by omega))
              have d4 : decide ((kk : Int) ≤ z) = true := by simpa using a2
              go_wp2_with fail
              go_quiet (fail)
              go_wp2
              go_ret
              exact ⟨ret_bool HF.out.symm, below_drewN HBi.out _⟩
            obtain ⟨zn, rfl⟩ : ∃ zn : Nat, z = (zn : Int) := ⟨z.toNat, by omega⟩
            have d4 : decide ((kk : Int) ≤ (zn : Int)) = false := by simpa using a2
            have d4' : decide (kk ≤ zn) = false := by rw [decide_eq_false_iff_not]; omega
            obtain ⟨ad3, e3, hb3, n0, n1⟩ := (H.out.up HBi.out).node (k := zn) (by omega)
            cases e3
            clear n1
            generalize hlv : (t.nodes.getD zn default).level = lv at n0
            have HV : Hid ((t.nodes.getD zn default).level = lv) := hlv
            clear hlv
            have hz1 : (zn : Int) < (m : Int) + 1 := by omega
            have hz2 : (0 : Int) ≤ (zn : Int) := by omega
            cases d5 : (lv != x.level - 1)
            · have HK : Hid (linkOk t kk x (zn : Int) = true) := decide_eq_true ⟨by omega, fun h => by omega, fun _ => ⟨by omega, by rw [Int.toNat_natCast, HV.out]; simpa using d5⟩⟩
              go_wp2_with fail
              go_quiet (fail)
              go_wp2
              go_roundg (ql - (n2 + 1))
              case measure => omega
              case rel =>
                refine ⟨n2 + 1, by omega, by omega, by go_num, (show Below _ _ _ from below_drewN BI.out _), (show Aside _ from fun j hj => ?_)⟩
                by_cases e : j = n2
                · subst e; rw [HZ.out]; exact HK.out
                · exact AI.out j (by omega)
            · have HF : Hid (rightT t = false) := hfl.out (decide_eq_false (fun h => by
                have := (h.2.2 hlev).2
                rw [Int.toNat_natCast, HV.out] at this
                rw [this] at d5; simp at d5))
              go_wp2_with fail
              go_quiet (fail)
              go_wp2
              go_ret
              exact ⟨ret_bool HF.out.symm, below_drewN HBi.out _⟩
          · have HL1 : Hid (x.level = 1) := by show _ = _; simpa using d2
            have d3 : decide (1 < x.level) = false := by rw [decide_eq_false_iff_not]; have := HL1.out; omega
            by_cases a2 : t.states ≤ z
            · have HF : Hid (rightT t = false) := hfl.out (decide_eq_false (fun h => by have := h.2.1 HL1.out; omega))
              have d4 : decide (t.states ≤ z) = true := by simpa using a2
              go_wp2_with fail
              go_quiet (fail)
              go_wp2
              go_ret
              exact ⟨ret_bool HF.out.symm, below_drewN HBi.out _⟩
            · have d4 : decide (t.states ≤ z) = false := by simpa using a2
              have HK : Hid (linkOk t kk x z = true) := decide_eq_true ⟨by omega, fun _ => by omega, fun h => by have := HL1.out; omega⟩
              go_wp2_with fail
              go_quiet (fail)
              go_wp2
              go_roundg (ql - (n2 + 1))
              case measure => omega
              case rel =>
                refine ⟨n2 + 1, by omega, by omega, by go_num, (show Below _ _ _ from below_drewN BI.out _), (show Aside _ from fun j hj => ?_)⟩
                by_cases e : j = n2
                · subst e; rw [HZ.out]; exact HK.out
                · exact AI.out j (by omega)
        · have hltz2 : ¬ (n2 : Int) < (ql : Int) := by omega
          have HK : Hid (nodeOk t kk = true) := nodeOk_all HX.out HC.out (fun s hs => AI.out s (by rw [HNL.out] at hs; omega))
          go_wp2
          go_roundg (m + 1 - (kk + 1))
          case measure => omega
          case rel =>
            refine ⟨kk + 1, by omega, by omega, by go_num, (show Below _ _ _ from below_on2 HN2.out BI.out), (show Aside _ from fun j hj => ?_)⟩
            by_cases e : j = kk
            · subst e; exact HK.out
            · exact AA.out j (by omega)
    · have hltz : ¬ (kk : Int) < (m : Int) + 1 := by omega
      go_wp2
      go_ret
      exact ⟨ret_bool (rightT_all HH0.out HG.out (fun i hi => AA.out i (by rw [HL.out] at hi; omega))).symm, HBr.out⟩

theorem treeRight_any (t : Tre) (HA NA : Option Addr) (hn hc nn nc : Nat) (sl : List Sl) (w : World) (h : TAt w t HA NA hn nn sl) :
    Calls Tryd.prog 15 #[.agg #[.int .i64 t.states, .slice HA hn hc, .slice NA nn nc]] w fun e w' => e = .returned (.bool (rightT t)) ∧ Below w.heap.size w w' := by
  by_cases hb : hoodOk t.hood = true ∧ headOk t = true
  · exact treeRight_ok t HA NA hn hc nn nc sl w h hb.1 hb.2
  · exact treeRight_bad t HA NA hn hc nn nc sl w h hb
end Go.Proofs.YtlmdjkmcplobnaaDoor

/-
  Rule trees: the law's Few, the reference's Value and Eval, walked.
-/
namespace Go.Proofs.YtlmdjkmcplobnaaDoor
open Go.RowKit
set_option linter.unusedSimpArgs false
set_option linter.unusedVariables false

def fewT (t : Tre) : Bool := decide (t.hood.length ≤ 40 ∧ t.nodes.length ≤ 400 ∧ ∀ i, i < t.nodes.length → (t.nodes.getD i default).next.length ≤ 20)
theorem fewT_parts {t : Tre} (h : fewT t = true) : t.hood.length ≤ 40 ∧ t.nodes.length ≤ 400 := by
  have := of_decide_eq_true h
  exact ⟨this.1, this.2.1⟩
theorem il_snoc (l : List Int) (k : Nat) (h : k < l.length) : l.take (k + 1) = l.take k ++ [l.getD k 0] := by
  rw [List.take_succ_eq_append_getElem h, List.getD_eq_getElem?_getD, List.getElem?_eq_getElem h]; rfl
/-- One step of the walk through a valid tree. -/
theorem walk_step {t : Tre} (hr : rightT t = true) (ins : List Int) (hl : ins.length = t.hood.length) (hs : ins.all (stateIn t) = true) (j : Nat) (hj : j < ins.length) :
    ∃ (kn sn : Nat), walkT t ((t.nodes.length : Int) - 1) (ins.take j) = (kn : Int) ∧ ins.getD j 0 = (sn : Int) ∧ kn < t.nodes.length ∧ sn < (t.nodes.getD kn default).next.length ∧
      walkT t ((t.nodes.length : Int) - 1) (ins.take (j + 1)) = (t.nodes.getD kn default).next.getD sn 0 := by
  have h1 := (walkT_at hr ins hl (fun j hj => stateIn_at hs hj) j (by omega)).1 hj
  have h2 := stateIn_at hs hj
  have e : walkT t ((t.nodes.length : Int) - 1) (ins.take (j + 1)) = stepT t (walkT t ((t.nodes.length : Int) - 1) (ins.take j)) (ins.getD j 0) := by rw [il_snoc _ _ hj, walkT_snoc]
  obtain ⟨kn, hk⟩ : ∃ kn : Nat, walkT t ((t.nodes.length : Int) - 1) (ins.take j) = (kn : Int) := ⟨_, (Int.toNat_of_nonneg h1.1).symm⟩
  obtain ⟨sn, hsn⟩ : ∃ sn : Nat, ins.getD j 0 = (sn : Int) := ⟨_, (Int.toNat_of_nonneg h2.1).symm⟩
  rw [hk, hsn] at e
  rw [hk] at h1
  rw [hsn] at h2
  obtain ⟨_, _, hn⟩ := rightT_parts hr
  have hkn : kn < t.nodes.length := by omega
  have hlen := (nodeOk_parts (hn kn hkn)).1.2.2
  refine ⟨kn, sn, hk, hsn, hkn, by omega, ?_⟩
  rw [e]; simp [stepT]

theorem evalErr_11 {t : Tre} {ins : List Int} (h : rightT t = false) : evalErr t ins = 11 := by rw [evalErr, h]; rfl
theorem evalErr_2 {t : Tre} {ins : List Int} (h : rightT t = true) (hl : ins.length ≠ t.hood.length) : evalErr t ins = 2 := by rw [evalErr, if_pos h, if_neg hl]
theorem evalErr_10 {t : Tre} {ins : List Int} (h : rightT t = true) (hl : ins.length = t.hood.length) (ha : ins.all (stateIn t) = false) : evalErr t ins = 10 := by rw [evalErr, if_pos h, if_pos hl, if_neg (by rw [ha]; simp)]
theorem evalErr_0 {t : Tre} {ins : List Int} (h : rightT t = true) (hl : ins.length = t.hood.length) (ha : ins.all (stateIn t) = true) : evalErr t ins = 0 := by rw [evalErr, if_pos h, if_pos hl, if_pos ha]
theorem evalV_err {t : Tre} {ins : List Int} {k : Int} (h : evalErr t ins = k) (h0 : k ≠ 0) : evalV t ins = 0 := by rw [evalV, if_neg (by rw [h]; exact h0)]
def TEvalPost (t : Tre) (ins : List Int) (w : World) (e : Ending) (w' : World) : Prop := e = .returned (.tuple #[.int .i64 (evalV t ins), .int .i64 (evalErr t ins)]) ∧ Below w.heap.size w w'
theorem tevalPost_err {t : Tre} {ins : List Int} {w w' : World} {k : Int} (h : evalErr t ins = k) (h0 : k ≠ 0) (hb : Below w.heap.size w w') : TEvalPost t ins w (.returned (.tuple #[.int .i64 0, .int .i64 k])) w' := by
  refine ⟨?_, hb⟩
  rw [evalV_err h h0, h]
theorem treeCells {t : Tre} {HA NA : Option Addr} {hn hc nn nc : Nat} {w w' : World} {T : TypeId} (h : Row w w.heap.size T [.int .i64 t.states, .slice HA hn hc, .slice NA nn nc]) : True := trivial

end Go.Proofs.YtlmdjkmcplobnaaDoor

/-
  Rule trees: tree.value, tree.Eval, and Quiet of the program and of the reference, walked.
-/
namespace Go.Proofs.YtlmdjkmcplobnaaDoor
open Go.RowKit
set_option linter.unusedSimpArgs false
set_option linter.unusedVariables false

set_option maxRecDepth 100000 in
set_option maxHeartbeats 2000000 in
theorem value_any (t : Tre) (HA NA IA : Option Addr) (hn hc nn nc n ic : Nat) (sl : List Sl) (ins : List Int) (w : World) (h : TAt w t HA NA hn nn sl) (hI : Rd w w.heap.size 1 IA n (ints ins))
    (hr : rightT t = true) (hl : ins.length = t.hood.length) (hs : ins.all (stateIn t) = true) :
    Calls Tryd.prog 18 #[.agg #[.int .i64 t.states, .slice HA hn hc, .slice NA nn nc], .slice IA n ic] w fun e w' => e = .returned (.int .i64 (valueT t ins)) ∧ Below w.heap.size w w' := by
  have H : Hid (TAt w t HA NA hn nn sl) := h
  have HL : Hid (t.nodes.length = nn) := h.nl
  have HI : Hid (Rd w w.heap.size 1 IA n (ints ins)) := hI
  have HIL : Hid (ins.length = n) := by have := hI.1; simp at this; show _ = _; omega
  have hm2 := h.n63
  have HLI : Hid (ins.length = t.hood.length) := hl
  have HS : Hid (ins.all (stateIn t) = true) := hs
  obtain ⟨hh, ⟨_, k1, k2, _⟩, _⟩ := rightT_parts hr
  have hn25 : n ≤ 25 := by
    simp only [hoodOk, Bool.and_eq_true, decide_eq_true_eq] at hh
    rw [← HIL.out, hl]; omega
  have HR : Hid (rightT t = true) := hr
  rw [HL.out] at k1 k2
  have hk0 : IntKind.i64.wrap ((nn : Int) - 1) = (nn : Int) - 1 := IntWalk.i64_in _ (by omega)
  clear h hI hr hl hs hh hm2
  go_enter Tryd.func18, Tryd.ntmps18
  go_wp2
  go_loopg [5, 7, 14] n (fun gg s5 s7 s14 wr => ∃ (kk : Nat) (z : Int), kk ≤ n ∧ n - kk ≤ gg ∧ s14 = .int .i64 kk ∧ s5 = .int .i64 z ∧ Aside (z = walkT t ((t.nodes.length : Int) - 1) (ins.take kk)) ∧ Aside (Below w.heap.size (w.alloc (.cells #[.int .i64 t.states, .slice HA hn hc, .slice NA nn nc] 31)) wr) ∧ Aside (Row wr w.heap.size 31 [.int .i64 t.states, .slice HA hn hc, .slice NA nn nc]))
  case atStart => exact ⟨0, _, Nat.zero_le _, by omega, rfl, rfl, (show _ = _ by rw [HL.out]; rfl), Below.refl _ _, Row.new w _ _⟩
  case round =>
    obtain ⟨kk, z, hkk, hgg, rfl, rfl, HZ, BW, RW⟩ := hrel
    have HBr : Hid (Below w.heap.size w wr) := (show Below w.heap.size w (w.alloc (.cells #[.int .i64 t.states, .slice HA hn hc, .slice NA nn nc] 31)) by go_grown).trans BW.out
    by_cases hlt : kk < n
    · have hltz : (kk : Int) < (n : Int) := by omega
      obtain ⟨kn, sn, e1, e2, h1, h2, e3⟩ := walk_step HR.out ins HLI.out HS.out kk (by rw [HIL.out]; exact hlt)
      rw [HZ.out.symm] at e1
      subst e1
      rw [HL.out] at h1
      obtain ⟨ad, rfl, hb', g0, g1⟩ := (H.out.up HBr.out).node h1
      have HNX := (H.out.up HBr.out).next kn (by rw [HL.out]; exact h1)
      have hql2 : (t.nodes.getD kn default).next.length = (sl.getD kn default).len := by have := HNX.1.1; rw [ints_length, Nat.mul_one] at this; exact this
      rw [hql2] at h2
      generalize hq : sl.getD kn default = q at g1 HNX h2
      obtain ⟨qa, ql, qc⟩ := q
      dsimp only at HNX g1 h2
      obtain ⟨ad2, rfl, hb2, g2⟩ := HNX.1.int h2
      obtain ⟨ad3, rfl, hb3, g3⟩ := (HI.out.up HBr.out).int hlt
      rw [e2] at g3
      rw [← e3] at g2
      generalize hv : walkT t ((t.nodes.length : Int) - 1) (ins.take (kk + 1)) = v at g2
      have HV : Hid (v = walkT t ((t.nodes.length : Int) - 1) (ins.take (kk + 1))) := hv.symm
      have hi1 : (kn : Int) < (nn : Int) := by omega
      have hi2 : (0 : Int) ≤ (kn : Int) := by omega
      have hi3 : (sn : Int) < (ql : Int) := by omega
      have hi4 : (0 : Int) ≤ (sn : Int) := by omega
      clear hv hq hql2 HNX e2 e3 g0 HZ
      have k0 := RW.out.cell 0
      have k1 := RW.out.cell 1
      have k2 := RW.out.cell 2
      have kl := RW.out.lt
      simp only [List.getElem?_cons_zero, List.getElem?_cons_succ] at k0 k1 k2
      go_wp2_with fail
      try go_quiet (fail)
      go_wp2
      go_roundg (n - (kk + 1))
      case measure => omega
      case rel => exact ⟨kk + 1, v, by omega, by omega, by go_num, rfl, HV.out, (by first | exact below_drewN BW.out _ | exact BW.out), (by first | exact RW.out | exact RW.out.drewN _)⟩
    · have hltz : ¬ (kk : Int) < (n : Int) := by omega
      obtain rfl : kk = n := by omega
      go_wp2
      go_ret
      refine ⟨ret_i64 ?_, HBr.out⟩
      rw [HZ.out, valueT, List.take_of_length_le (by rw [HIL.out]; exact Nat.le_refl _)]

/-- The predicate that a state is none of the rule's. -/
theorem evalPred_any (t : Tre) (x : Int) (b : Nat) (HA NA : Option Addr) (hn hc nn nc : Nat) (w : World) (hc0 : w.cell? ⟨b, 0, none⟩ = some (.int .i64 t.states)) :
    Calls Tryd.prog 17 #[.int .i64 x, .pointer (some ⟨b, 0, none⟩)] w fun e w' => e = .returned (.bool (!stateIn t x)) ∧ w = w' := by
  by_cases h0 : x < 0
  · have d0 : decide (x < 0) = true := by simpa using h0
    have HK : Hid ((!stateIn t x) = true) := by show _ = _; simp [stateIn]; omega
    go_enter Tryd.func17, Tryd.ntmps17
    go_wp2
    go_ret
    exact ⟨ret_bool HK.out.symm, rfl⟩
  · have d0 : decide (x < 0) = false := by simpa using h0
    go_enter Tryd.func17, Tryd.ntmps17
    go_wp2
    go_ret
    refine ⟨ret_bool ?_, rfl⟩
    rw [Bool.eq_iff_iff]; simp [stateIn]; omega

set_option maxRecDepth 100000 in
set_option maxHeartbeats 2000000 in
theorem tEval_any (t : Tre) (HA NA IA : Option Addr) (hn hc nn nc n ic : Nat) (sl : List Sl) (ins : List Int) (w : World) (h : TAt w t HA NA hn nn sl) (hI : Rd w w.heap.size 1 IA n (ints ins)) (hm : n ≤ maxLen) :
    Calls Tryd.prog 7 #[.agg #[.int .i64 t.states, .slice HA hn hc, .slice NA nn nc], .slice IA n ic] w (TEvalPost t ins w) := by
  have H : Hid (TAt w t HA NA hn nn sl) := h
  have HLH : Hid (t.hood.length = hn) := h.hl
  have HI : Hid (Rd w w.heap.size 1 IA n (ints ins)) := hI
  have HIL : Hid (ins.length = n) := by have := hI.1; simp at this; show _ = _; omega
  have hm1 := h.h63
  clear h hI
  unfold maxLen at hm hm1
  go_enter Tryd.func7, Tryd.ntmps7
  go_wp2_with fail
  refine (treeRight_any t HA NA hn hc nn nc sl _ (H.out.up (by go_grown))).mono ?_
  rintro e w1 ⟨rfl, hb⟩
  have HB : Hid (Below w.heap.size w w1) := below_next hb (by go_grown)
  have RA : Hid (Row w1 w.heap.size 31 [.int .i64 t.states, .slice HA hn hc, .slice NA nn nc]) := rowCells (Row.new w 31 [.int .i64 t.states, .slice HA hn hc, .slice NA nn nc]) hb
  clear hb
  have k0 := RA.out.cell 0
  have k1 := RA.out.cell 1
  have k2 := RA.out.cell 2
  have kl := RA.out.lt
  simp only [List.getElem?_cons_zero, List.getElem?_cons_succ] at k0 k1 k2
  cases hr : rightT t
  · have HE : Hid (evalErr t ins = 11) := evalErr_11 hr
    clear hr
    go_wp2
    go_ret2
    exact tevalPost_err HE.out (by decide) HB.out
  have HR : Hid (rightT t = true) := hr
  clear hr
  cases hne : ((n : Int) != (hn : Int))
  case true =>
    have HE : Hid (evalErr t ins = 2) := evalErr_2 HR.out (by rw [HIL.out, HLH.out]; intro e; rw [e] at hne; simp at hne)
    go_wp2
    go_ret2
    exact tevalPost_err HE.out (by decide) HB.out
  have hqq : (n : Int) = (hn : Int) := by simpa using hne
  obtain rfl : n = hn := by omega
  clear hne hqq
  have HLI : Hid (ins.length = t.hood.length) := HIL.out.trans HLH.out.symm
  have hnn : ((n : Int) != (n : Int)) = false := by simp
  go_wp2_with fail
  refine (containsFunc_ints IA n ic ins _ _ (fun x => !stateIn t x) _ (enters Tryd.func17 (by kernel_rfl) rfl) (HI.out.up HB.out) (by omega) ?_).mono ?_
  · intro W x hx hb
    refine (evalPred_any t x w.heap.size HA NA n hc nn nc W ((rowCells RA.out hb).cell 0)).mono ?_
    rintro e w' ⟨rfl, rfl⟩
    exact ⟨rfl, hb⟩
  rintro e w2 ⟨rfl, hb⟩
  have HB2 : Hid (Below w.heap.size w w2) := below_on2 HB.out hb
  have RA := (show Hid (Row w2 _ _ _) from rowCells RA.out hb)
  have hall : ins.any (fun x => !stateIn t x) = !ins.all (stateIn t) := by simp [List.all_eq_not_any_not]
  rw [hall]
  clear hb hall k0 k1 k2 kl
  have k0 := RA.out.cell 0
  have k1 := RA.out.cell 1
  have k2 := RA.out.cell 2
  have kl := RA.out.lt
  simp only [List.getElem?_cons_zero, List.getElem?_cons_succ] at k0 k1 k2
  cases hs : ins.all (stateIn t)
  · have HE : Hid (evalErr t ins = 10) := evalErr_10 HR.out HLI.out hs
    clear hs
    go_wp2
    go_ret2
    exact tevalPost_err HE.out (by decide) HB2.out
  have HS : Hid (ins.all (stateIn t) = true) := hs
  clear hs
  go_wp2_with fail
  refine (value_any t HA NA IA n hc nn nc n ic sl ins _ (H.out.up HB2.out) (HI.out.up HB2.out) HR.out HLI.out HS.out).mono ?_
  rintro e w3 ⟨rfl, hb⟩
  have HB3 : Hid (Below w.heap.size w w3) := below_on2 HB2.out hb
  have HE : Hid (evalErr t ins = 0) := evalErr_0 HR.out HLI.out HS.out
  clear hb
  go_wp2
  go_ret2
  refine ⟨?_, HB3.out⟩
  rw [evalV, if_pos HE.out, HE.out]
  rfl
end Go.Proofs.YtlmdjkmcplobnaaDoor
