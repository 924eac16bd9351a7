/-
  Rule trees: Quiet of the program and of the reference, walked.
-/
import Derived.Test.YtjacgoipfmiaiaaTVal
import Derived.Test.YtjacgoipfmiaiaaTSize
namespace Go.Proofs.Ytjacgoipfmiaiaa
open Go.RowKit
set_option linter.unusedSimpArgs false
set_option linter.unusedVariables false
theorem zerosRow (w : World) (n : Nat) (T : TypeId) : Row (w.alloc (.cells (likeRow (.int .i64 0) n) T)) w.heap.size T (ints (List.replicate n 0)) := by
  have h := Row.new w T (List.replicate n (Value.int .i64 0))
  have e : ints (List.replicate n 0) = List.replicate n (Value.int .i64 0) := by simp [ints]
  rw [e]; exact h
theorem zerosRd (w : World) (n : Nat) (T : TypeId) : Rd (w.alloc (.cells (likeRow (.int .i64 0) n) T)) (w.alloc (.cells (likeRow (.int .i64 0) n) T)).heap.size 1 (some ⟨w.heap.size, 0, none⟩) n (ints (List.replicate n 0)) :=
  (zerosRow w n T).rd (by simp)
theorem zerosRdD (w : World) (n : Nat) (T : TypeId) : Rd (w.alloc (.cells (likeRow (.int .i64 0) n) T)).drew (w.alloc (.cells (likeRow (.int .i64 0) n) T)).drew.heap.size 1 (some ⟨w.heap.size, 0, none⟩) n (ints (List.replicate n 0)) := zerosRd w n T

set_option maxRecDepth 100000 in
set_option maxHeartbeats 2000000 in
theorem tQuiet_any (t : Tre) (HA NA : Option Addr) (hn hc nn nc : Nat) (sl : List Sl) (w : World) (h : TAt w t HA NA hn nn sl) :
    Calls Try.prog 13 #[.agg #[.int .i64 t.states, .slice HA hn hc, .slice NA nn nc]] w fun e w' => e = .returned (.bool (quietT t)) ∧ Below w.heap.size w w' := by
  have H : Hid (TAt w t HA NA hn nn sl) := h
  have HL : Hid (t.nodes.length = nn) := h.nl
  have HLH : Hid (t.hood.length = hn) := h.hl
  have hm1 := h.h63
  clear h
  unfold maxLen at hm1
  have hmk := fun (hh : hn ≤ 1000) W => make_like (P := Try.prog) Try.underlying29 int_infoT rfl hn (hn : Int) rfl (by omega) (by omega) W
  cases hr : rightT t
  · have HF : Hid (quietT t = false) := by show _ = _; rw [quietT, hr]; rfl
    go_enter Try.func13, Try.ntmps13
    go_wp2_with fail
    have RA : Hid (Row (World.alloc w _) w.heap.size 25 [.int .i64 t.states, .slice HA hn hc, .slice NA nn nc]) := Row.new w 25 [.int .i64 t.states, .slice HA hn hc, .slice NA nn nc]
    have HB : Hid (Below w.heap.size w (World.alloc w (.cells #[.int .i64 t.states, .slice HA hn hc, .slice NA nn nc] 25))) := by show Below _ _ _; go_grown
    revert RA HB
    generalize World.alloc w (.cells #[.int .i64 t.states, .slice HA hn hc, .slice NA nn nc] 25) = w1
    intro RA HB
    have hu : undef = Value.tuple #[] := rfl
    have HN : Hid (Below w1.heap.size w1 w1) := Below.refl _ _
    have hbox : w.heap.size < w1.heap.size := RA.out.lt
    have HS : ∀ w', Below w1.heap.size w1 w' → w'.cell? ⟨w.heap.size, 0, none⟩ = some (.int .i64 t.states) ∧ w'.cell? ⟨w.heap.size, 1, none⟩ = some (.slice HA hn hc) ∧ w'.cell? ⟨w.heap.size, 2, none⟩ = some (.slice NA nn nc) := fun w' hw => ⟨(rowCells RA.out hw).cell 0, (rowCells RA.out hw).cell 1, (rowCells RA.out hw).cell 2⟩
    have HT : Hid (TAt w1 t HA NA hn nn sl) := H.out.up HB.out
    clear RA
    refine wp_region_held_drew (S := fun w' => w'.cell? ⟨w.heap.size, 0, none⟩ = some (.int .i64 t.states) ∧ w'.cell? ⟨w.heap.size, 1, none⟩ = some (.slice HA hn hc) ∧ w'.cell? ⟨w.heap.size, 2, none⟩ = some (.slice NA nn nc)) (by kernel_rfl) (by (try dsimp only); exact HS _ (by first | exact below_on2 HN.out (by go_grown) | go_grown)) (fun hHeld => ?_)
    refine wpAnyH_take (i := 0) (v := ?va1) rfl (by kernel_rfl) (by kernel_rfl) (by kernel_rfl) (fun _ _ _ h => h) (Or.inl ⟨by rfl, ?ya1⟩) (by assumption) ?ra1
    case ya1 => intro w' hSw; (try dsimp only at hSw); go_simp; try (with_reducible rfl)
    go_simp
    refine wpAnyH_ready (rs := [1]) (by kernel_rfl) (by simp) ?_
    refine AllReadyH.cons rfl (fun K hK => ?_) AllReadyH.nil
    go_simp
    go_at_call 11
    refine (treeRight_any t HA NA hn hc nn nc sl _ (by exact HT.out.up (by first | exact below_on2 HN.out (by go_grown) | go_grown))).mono ?_
    rw [hr]
    rintro e w7 ⟨rfl, hb⟩
    have HN := (show Hid (Below w1.heap.size w1 w7) from below_on HN.out (by go_grown) hb)
    clear hb
    refine hK.out _ _ ?_ (fun hHeld => ?_)
    · (try dsimp only); exact HS _ (by first | exact below_on2 HN.out (by go_grown) | go_grown)
    clear hK K
    try go_simp
    refine wpAnyH_take (i := 2) (v := ?va2) rfl (by kernel_rfl) (by kernel_rfl) (by kernel_rfl) (fun _ _ _ h => h) (Or.inl ⟨by rfl, ?ya2⟩) (by assumption) ?ra2
    case ya2 => intro w' hSw; (try dsimp only at hSw); go_simp; try (with_reducible rfl)
    go_simp
    refine wpAnyH_take (i := 3) (v := undef) rfl (by kernel_rfl) (by kernel_rfl) (by kernel_rfl) (fun _ _ _ h => h) (Or.inr ⟨by go_simp, rfl⟩) (by assumption) ?_
    go_simp
    refine wpAnyH_take (i := 4) (v := undef) rfl (by kernel_rfl) (by kernel_rfl) (by kernel_rfl) (fun _ _ _ h => h) (Or.inr ⟨by go_simp, rfl⟩) (by assumption) ?_
    go_simp
    refine wpAnyH_take (i := 5) (v := undef) rfl (by kernel_rfl) (by kernel_rfl) (by kernel_rfl) (fun _ _ _ h => h) (Or.inr ⟨by go_simp, rfl⟩) (by assumption) ?_
    go_simp
    refine wpAnyH_take (i := 6) (v := undef) rfl (by kernel_rfl) (by kernel_rfl) (by kernel_rfl) (fun _ _ _ h => h) (Or.inr ⟨by go_simp, rfl⟩) (by assumption) ?_
    go_simp
    refine wpAnyH_take (i := 7) (v := undef) rfl (by kernel_rfl) (by kernel_rfl) (by kernel_rfl) (fun _ _ _ h => h) (Or.inr ⟨by go_simp, rfl⟩) (by assumption) ?_
    go_simp
    refine wpAnyH_take (i := 8) (v := undef) rfl (by kernel_rfl) (by kernel_rfl) (by kernel_rfl) (fun _ _ _ h => h) (Or.inr ⟨by go_simp, rfl⟩) (by assumption) ?_
    go_simp
    refine wpAnyH_take (i := 9) (v := undef) rfl (by kernel_rfl) (by kernel_rfl) (by kernel_rfl) (fun _ _ _ h => h) (Or.inr ⟨by go_simp, rfl⟩) (by assumption) ?_
    go_simp
    refine wpAnyH_take (i := 10) (v := ?va10) rfl (by kernel_rfl) (by kernel_rfl) (by kernel_rfl) (fun _ _ _ h => h) (Or.inl ⟨by rfl, ?ya10⟩) (by assumption) ?ra10
    case ya10 => intro w' hSw; (try dsimp only at hSw); go_simp; try (with_reducible rfl)
    go_simp
    refine wpAnyH_take (i := 11) (v := ?va11) rfl (by kernel_rfl) (by kernel_rfl) (by kernel_rfl) (fun _ _ _ h => h) (Or.inl ⟨by rfl, ?ya11⟩) (by assumption) ?ra11
    case ya11 => intro w' hSw; (try dsimp only at hSw); go_simp; try (with_reducible rfl)
    go_simp
    refine wpAnyH_done (by kernel_rfl) ?_ _
    go_wp2
    go_ret
    exact ⟨ret_bool HF.out.symm, below_on HB.out HN.out (by go_grown)⟩
  have HR : Hid (rightT t = true) := hr
  have HZ : Hid ((List.replicate hn (0 : Int)).all (stateIn t) = true) := by have := zeros_in hr; rw [HLH.out] at this; exact this
  have hn25 : hn ≤ 25 := by have := (hoodOk_len (rightT_parts hr).1).2; rw [HLH.out] at this; exact this
  have hmk2 := hmk (by omega)
  have HF : Hid (quietT t = decide (valueT t (List.replicate hn 0) = 0)) := by show _ = _; rw [quietT, hr, HLH.out]; rfl
  clear hmk
  generalize hv : valueT t (List.replicate hn 0) = v at HF
  have HV : Hid (valueT t (List.replicate hn 0) = v) := hv
  clear hv
  go_enter Try.func13, Try.ntmps13
  go_wp2_with fail
  have RA : Hid (Row (World.alloc w _) w.heap.size 25 [.int .i64 t.states, .slice HA hn hc, .slice NA nn nc]) := Row.new w 25 [.int .i64 t.states, .slice HA hn hc, .slice NA nn nc]
  have HB : Hid (Below w.heap.size w (World.alloc w (.cells #[.int .i64 t.states, .slice HA hn hc, .slice NA nn nc] 25))) := by show Below _ _ _; go_grown
  revert RA HB
  generalize World.alloc w (.cells #[.int .i64 t.states, .slice HA hn hc, .slice NA nn nc] 25) = w1
  intro RA HB
  have hu : undef = Value.tuple #[] := rfl
  have HN : Hid (Below w1.heap.size w1 w1) := Below.refl _ _
  have hbox : w.heap.size < w1.heap.size := RA.out.lt
  have HS : ∀ w', Below w1.heap.size w1 w' → w'.cell? ⟨w.heap.size, 0, none⟩ = some (.int .i64 t.states) ∧ w'.cell? ⟨w.heap.size, 1, none⟩ = some (.slice HA hn hc) ∧ w'.cell? ⟨w.heap.size, 2, none⟩ = some (.slice NA nn nc) := fun w' hw => ⟨(rowCells RA.out hw).cell 0, (rowCells RA.out hw).cell 1, (rowCells RA.out hw).cell 2⟩
  have HT : Hid (TAt w1 t HA NA hn nn sl) := H.out.up HB.out
  clear RA
  refine wp_region_held_drew (S := fun w' => w'.cell? ⟨w.heap.size, 0, none⟩ = some (.int .i64 t.states) ∧ w'.cell? ⟨w.heap.size, 1, none⟩ = some (.slice HA hn hc) ∧ w'.cell? ⟨w.heap.size, 2, none⟩ = some (.slice NA nn nc)) (by kernel_rfl) (by (try dsimp only); exact HS _ (by first | exact below_on2 HN.out (by go_grown) | go_grown)) (fun hHeld => ?_)
  refine wpAnyH_take (i := 0) (v := ?vb1) rfl (by kernel_rfl) (by kernel_rfl) (by kernel_rfl) (fun _ _ _ h => h) (Or.inl ⟨by rfl, ?yb1⟩) (by assumption) ?rb1
  case yb1 => intro w' hSw; (try dsimp only at hSw); go_simp; try (with_reducible rfl)
  go_simp
  refine wpAnyH_ready (rs := [1]) (by kernel_rfl) (by simp) ?_
  refine AllReadyH.cons rfl (fun K hK => ?_) AllReadyH.nil
  go_simp
  go_at_call 11
  refine (treeRight_any t HA NA hn hc nn nc sl _ (by exact HT.out.up (by first | exact below_on2 HN.out (by go_grown) | go_grown))).mono ?_
  rw [HR.out]
  rintro e w7 ⟨rfl, hb⟩
  have HN := (show Hid (Below w1.heap.size w1 w7) from below_on HN.out (by go_grown) hb)
  clear hb
  refine hK.out _ _ ?_ (fun hHeld => ?_)
  · (try dsimp only); exact HS _ (by first | exact below_on2 HN.out (by go_grown) | go_grown)
  clear hK K
  try go_simp
  refine wpAnyH_take (i := 2) (v := ?vb2) rfl (by kernel_rfl) (by kernel_rfl) (by kernel_rfl) (fun _ _ _ h => h) (Or.inl ⟨by rfl, ?yb2⟩) (by assumption) ?rb2
  case yb2 => intro w' hSw; (try dsimp only at hSw); go_simp; try (with_reducible rfl)
  go_simp
  refine wpAnyH_take (i := 3) (v := ?vb3) rfl (by kernel_rfl) (by kernel_rfl) (by kernel_rfl) (fun _ _ _ h => h) (Or.inl ⟨by first | rfl | (go_simp; done), ?yb3⟩) (by assumption) ?rb3
  case yb3 => intro w' hSw; (try dsimp only at hSw); go_simp; try (with_reducible rfl)
  go_simp
  refine wpAnyH_take (i := 4) (v := ?vb4) rfl (by kernel_rfl) (by kernel_rfl) (by kernel_rfl) (fun _ _ _ h => h) (Or.inl ⟨by first | rfl | (go_simp; done), ?yb4⟩) (by assumption) ?rb4
  case yb4 => intro w' hSw; (try dsimp only at hSw); go_simp; try (with_reducible rfl)
  go_simp
  refine wpAnyH_take (i := 5) (v := ?vb5) rfl (by kernel_rfl) (by kernel_rfl) (by kernel_rfl) (fun _ _ _ h => h) (Or.inl ⟨by first | rfl | (go_simp; done), ?yb5⟩) (by assumption) ?rb5
  case yb5 => intro w' hSw; (try dsimp only at hSw); go_simp; try (with_reducible rfl)
  go_simp
  refine wpAnyH_take (i := 6) (v := ?vb6) rfl (by kernel_rfl) (by kernel_rfl) (by kernel_rfl) (fun _ _ _ h => h) (Or.inl ⟨by first | rfl | (go_simp; done), ?yb6⟩) (by assumption) ?rb6
  case yb6 => intro w' hSw; (try dsimp only at hSw); go_simp; try (with_reducible rfl)
  go_simp
  refine wpAnyH_ready (rs := [7]) (by kernel_rfl) (by simp) ?_
  refine AllReadyH.cons rfl (fun K hK => ?_) AllReadyH.nil
  go_simp
  refine hK.out _ _ ?_ (fun hHeld => ?_)
  · (try dsimp only); exact HS _ (by first | exact below_on2 HN.out (by go_grown) | go_grown)
  clear hK K
  try go_simp
  refine wpAnyH_ready (rs := [8]) (by kernel_rfl) (by simp) ?_
  refine AllReadyH.cons rfl (fun K hK => ?_) AllReadyH.nil
  go_simp
  go_at_call 28
  refine (value_any t HA NA _ hn hc nn nc hn hn sl (List.replicate hn 0) _ (by exact HT.out.up (by first | exact below_on2 HN.out (by go_grown) | go_grown)) (by first | exact zerosRd _ _ _ | exact zerosRdD _ _ _ | (rw [World.size_alloc]; exact zerosRd _ _ _)) HR.out (by rw [List.length_replicate, HLH.out]) HZ.out).mono ?_
  rw [HV.out]
  rintro e w7 ⟨rfl, hb⟩
  have HN := (show Hid (Below w1.heap.size w1 w7) from below_on HN.out (by go_grown) hb)
  clear hb
  refine hK.out _ _ ?_ (fun hHeld => ?_)
  · (try dsimp only); exact HS _ (by first | exact below_on2 HN.out (by go_grown) | go_grown)
  clear hK K
  try go_simp
  refine wpAnyH_take (i := 9) (v := ?vb7) rfl (by kernel_rfl) (by kernel_rfl) (by kernel_rfl) (fun _ _ _ h => h) (Or.inl ⟨by first | rfl | (go_simp; done), ?yb7⟩) (by assumption) ?rb7
  case yb7 => intro w' hSw; (try dsimp only at hSw); go_simp; try (with_reducible rfl)
  go_simp
  refine wpAnyH_take (i := 10) (v := ?vb8) rfl (by kernel_rfl) (by kernel_rfl) (by kernel_rfl) (fun _ _ _ h => h) (Or.inl ⟨by rfl, ?yb8⟩) (by assumption) ?rb8
  case yb8 => intro w' hSw; (try dsimp only at hSw); go_simp; try (with_reducible rfl)
  go_simp
  refine wpAnyH_take (i := 11) (v := ?vb9) rfl (by kernel_rfl) (by kernel_rfl) (by kernel_rfl) (fun _ _ _ h => h) (Or.inl ⟨by rfl, ?yb9⟩) (by assumption) ?rb9
  case yb9 => intro w' hSw; (try dsimp only at hSw); go_simp; try (with_reducible rfl)
  go_simp
  refine wpAnyH_done (by kernel_rfl) ?_ _
  go_wp2
  go_ret
  refine ⟨ret_bool ?_, below_on HB.out HN.out (by go_grown)⟩
  rw [HF.out, Bool.eq_iff_iff]
  simp

set_option maxRecDepth 100000 in
set_option maxHeartbeats 2000000 in
theorem rQuiet_any (t : Tre) (HA NA : Option Addr) (hn hc nn nc : Nat) (sl : List Sl) (w : World) (h : TAt w t HA NA hn nn sl) :
    Calls Try.prog 14 #[.agg #[.int .i64 t.states, .slice HA hn hc, .slice NA nn nc]] w fun e w' => e = .returned (.bool (quietT t)) ∧ Below w.heap.size w w' := by
  have H : Hid (TAt w t HA NA hn nn sl) := h
  have HL : Hid (t.nodes.length = nn) := h.nl
  have HLH : Hid (t.hood.length = hn) := h.hl
  have hm1 := h.h63
  clear h
  unfold maxLen at hm1
  have hmk := fun (hh : hn ≤ 1000) W => make_like (P := Try.prog) Try.underlying29 int_infoT rfl hn (hn : Int) rfl (by omega) (by omega) W
  cases hr : rightT t
  · have HF : Hid (quietT t = false) := by show _ = _; rw [quietT, hr]; rfl
    go_enter Try.func14, Try.ntmps14
    go_wp2_with fail
    refine (rTreeRight_any t HA NA hn hc nn nc sl _ (H.out.up (by go_grown))).mono ?_
    rw [hr]
    rintro e w1 ⟨rfl, hb⟩
    have HB : Hid (Below w.heap.size w w1) := below_next hb (by go_grown)
    clear hb
    go_wp2
    go_ret
    exact ⟨ret_bool HF.out.symm, HB.out⟩
  have HR : Hid (rightT t = true) := hr
  have HZ : Hid ((List.replicate hn (0 : Int)).all (stateIn t) = true) := by have := zeros_in hr; rw [HLH.out] at this; exact this
  have hn25 : hn ≤ 25 := by have := (hoodOk_len (rightT_parts hr).1).2; rw [HLH.out] at this; exact this
  have hmk2 := hmk (by omega)
  have HF : Hid (quietT t = decide (valueT t (List.replicate hn 0) = 0)) := by show _ = _; rw [quietT, hr, HLH.out]; rfl
  have HE : Hid (evalErr t (List.replicate hn 0) = 0) := evalErr_0 hr (by rw [List.length_replicate, HLH.out]) HZ.out
  have HE2 : Hid (evalV t (List.replicate hn 0) = valueT t (List.replicate hn 0)) := by show _ = _; rw [evalV, if_pos HE.out]
  clear hmk hr
  generalize hv : valueT t (List.replicate hn 0) = v at HF HE2
  clear hv
  go_enter Try.func14, Try.ntmps14
  go_wp2_with fail
  refine (rTreeRight_any t HA NA hn hc nn nc sl _ (H.out.up (by go_grown))).mono ?_
  rw [HR.out]
  rintro e w1 ⟨rfl, hb⟩
  have HB : Hid (Below w.heap.size w w1) := below_next hb (by go_grown)
  have RA : Hid (Row w1 w.heap.size 25 [.int .i64 t.states, .slice HA hn hc, .slice NA nn nc]) := rowCells (Row.new w 25 [.int .i64 t.states, .slice HA hn hc, .slice NA nn nc]) hb
  clear hb
  have hu : undef = Value.tuple #[] := rfl
  have HN : Hid (Below w1.heap.size w1 w1) := Below.refl _ _
  have hbox : w.heap.size < w1.heap.size := RA.out.lt
  have HS : ∀ w', Below w1.heap.size w1 w' → w'.cell? ⟨w.heap.size, 0, none⟩ = some (.int .i64 t.states) ∧ w'.cell? ⟨w.heap.size, 1, none⟩ = some (.slice HA hn hc) ∧ w'.cell? ⟨w.heap.size, 2, none⟩ = some (.slice NA nn nc) := fun w' hw => ⟨(rowCells RA.out hw).cell 0, (rowCells RA.out hw).cell 1, (rowCells RA.out hw).cell 2⟩
  have HT : Hid (TAt w1 t HA NA hn nn sl) := H.out.up HB.out
  have C := HS w1 HN.out
  clear RA
  go_wp2_with fail
  clear C
  refine wp_region_held_drew (S := fun w' => w'.cell? ⟨w.heap.size, 0, none⟩ = some (.int .i64 t.states) ∧ w'.cell? ⟨w.heap.size, 1, none⟩ = some (.slice HA hn hc) ∧ w'.cell? ⟨w.heap.size, 2, none⟩ = some (.slice NA nn nc)) (by kernel_rfl) (by (try dsimp only); exact HS _ (by first | exact below_on2 HN.out (by go_grown) | go_grown)) (fun hHeld => ?_)
  refine wpAnyH_take (i := 0) (v := ?vc1) rfl (by kernel_rfl) (by kernel_rfl) (by kernel_rfl) (fun _ _ _ h => h) (Or.inl ⟨by rfl, ?yc1⟩) (by assumption) ?rc1
  case yc1 => intro w' hSw; (try dsimp only at hSw); go_simp; try (with_reducible rfl)
  go_simp
  refine wpAnyH_take (i := 1) (v := ?vc2) rfl (by kernel_rfl) (by kernel_rfl) (by kernel_rfl) (fun _ _ _ h => h) (Or.inl ⟨by rfl, ?yc2⟩) (by assumption) ?rc2
  case yc2 => intro w' hSw; (try dsimp only at hSw); go_simp; try (with_reducible rfl)
  go_simp
  refine wpAnyH_take (i := 2) (v := ?vc3) rfl (by kernel_rfl) (by kernel_rfl) (by kernel_rfl) (fun _ _ _ h => h) (Or.inl ⟨by rfl, ?yc3⟩) (by assumption) ?rc3
  case yc3 => intro w' hSw; (try dsimp only at hSw); go_simp; try (with_reducible rfl)
  go_simp
  refine wpAnyH_take (i := 3) (v := ?vc4) rfl (by kernel_rfl) (by kernel_rfl) (by kernel_rfl) (fun _ _ _ h => h) (Or.inl ⟨by rfl, ?yc4⟩) (by assumption) ?rc4
  case yc4 => intro w' hSw; (try dsimp only at hSw); go_simp; try (with_reducible rfl)
  go_simp
  refine wpAnyH_ready (rs := [4]) (by kernel_rfl) (by simp) ?_
  refine AllReadyH.cons rfl (fun K hK => ?_) AllReadyH.nil
  go_simp
  refine hK.out _ _ ?_ (fun hHeld => ?_)
  · (try dsimp only); exact HS _ (by first | exact below_on2 HN.out (by go_grown) | go_grown)
  clear hK K
  try go_simp
  refine wpAnyH_ready (rs := [5]) (by kernel_rfl) (by simp) ?_
  refine AllReadyH.cons rfl (fun K hK => ?_) AllReadyH.nil
  go_simp
  go_at_call 19
  refine (rTEval_any t HA NA _ hn hc nn nc hn hn sl (List.replicate hn 0) _ (by exact HT.out.up (by first | exact below_on2 HN.out (by go_grown) | go_grown)) (by first | exact zerosRd _ _ _ | exact zerosRdD _ _ _ | (rw [World.size_alloc]; exact zerosRd _ _ _)) (by unfold maxLen; omega)).mono ?_
  unfold TEvalPost
  rw [HE.out, HE2.out]
  rintro e w7 ⟨rfl, hb⟩
  have HN := (show Hid (Below w1.heap.size w1 w7) from below_on HN.out (by go_grown) hb)
  clear hb
  refine hK.out _ _ ?_ (fun hHeld => ?_)
  · (try dsimp only); exact HS _ (by first | exact below_on2 HN.out (by go_grown) | go_grown)
  clear hK K
  try go_simp
  refine wpAnyH_take (i := 6) (v := ?vc5) rfl (by kernel_rfl) (by kernel_rfl) (by kernel_rfl) (fun _ _ _ h => h) (Or.inl ⟨by rfl, ?yc5⟩) (by assumption) ?rc5
  case yc5 => intro w' hSw; (try dsimp only at hSw); go_simp; try (with_reducible rfl)
  go_simp
  refine wpAnyH_take (i := 7) (v := ?vc6) rfl (by kernel_rfl) (by kernel_rfl) (by kernel_rfl) (fun _ _ _ h => h) (Or.inl ⟨by rfl, ?yc6⟩) (by assumption) ?rc6
  case yc6 => intro w' hSw; (try dsimp only at hSw); go_simp; try (with_reducible rfl)
  go_simp
  refine wpAnyH_take (i := 8) (v := ?vc7) rfl (by kernel_rfl) (by kernel_rfl) (by kernel_rfl) (fun _ _ _ h => h) (Or.inl ⟨by rfl, ?yc7⟩) (by assumption) ?rc7
  case yc7 => intro w' hSw; (try dsimp only at hSw); go_simp; try (with_reducible rfl)
  go_simp
  refine wpAnyH_take (i := 9) (v := ?vc8) rfl (by kernel_rfl) (by kernel_rfl) (by kernel_rfl) (fun _ _ _ h => h) (Or.inl ⟨by rfl, ?yc8⟩) (by assumption) ?rc8
  case yc8 => intro w' hSw; (try dsimp only at hSw); go_simp; try (with_reducible rfl)
  go_simp
  refine wpAnyH_take (i := 10) (v := ?vc9) rfl (by kernel_rfl) (by kernel_rfl) (by kernel_rfl) (fun _ _ _ h => h) (Or.inl ⟨by rfl, ?yc9⟩) (by assumption) ?rc9
  case yc9 => intro w' hSw; (try dsimp only at hSw); go_simp; try (with_reducible rfl)
  go_simp
  refine wpAnyH_done (by kernel_rfl) ?_ _
  go_wp2
  go_ret
  refine ⟨ret_bool ?_, below_on HB.out HN.out (by go_grown)⟩
  rw [HF.out, Bool.eq_iff_iff]
  simp
end Go.Proofs.Ytjacgoipfmiaiaa
