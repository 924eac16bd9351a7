/-
  Rule trees: Size of the program and of the reference, walked.
-/
import Derived.Test.YtjacgoipfmiaiaaTEval
import Derived.Test.YtjacgoipfmiaiaaTSPlain
import Derived.BigRegion
namespace Go.Proofs.Ytjacgoipfmiaiaa
open Go.RowKit
set_option linter.unusedSimpArgs false
set_option linter.unusedVariables false
theorem int_infoT : (Try.prog.info? 3).map (fun i => (i.zero, i.size, i.bytes)) = some (some (.int .i64 0), 1, 8) := by kernel_rfl
/-- A list of integers, at some place. -/
def IntsPost (l : List Int) (w : World) (e : Ending) (w' : World) : Prop := ∃ A n c, e = .returned (.slice A n c) ∧ Rd w' w'.heap.size 1 A n (ints l) ∧ n ≤ maxLen ∧ Below w.heap.size w w'
theorem bumpAt (l : List Int) (i : Nat) : (ints l).set i (.int .i64 (l.getD i 0 + 1)) = ints (bump l i) := by
  simp [ints, bump, List.map_set]
theorem sizeN_bd (n : Nat) (ns : List Nd) (i : Nat) : 0 ≤ (sizeN n ns).getD i 0 ∧ (sizeN n ns).getD i 0 ≤ ns.length := by
  unfold sizeN
  have : ∀ (l : List Int) (b : Int), (∀ i : Nat, 0 ≤ l.getD i 0 ∧ l.getD i 0 ≤ b) → ∀ i : Nat, 0 ≤ (ns.foldl (fun l x => bump l (x.level - 1).toNat) l).getD i 0 ∧ (ns.foldl (fun l x => bump l (x.level - 1).toNat) l).getD i 0 ≤ b + ns.length := by
    induction ns with
    | nil => intro l b h i; simpa using h i
    | cons x ns ih =>
      intro l b h i
      simp only [List.foldl_cons, List.length_cons]
      have := ih (bump l (x.level - 1).toNat) (b + 1) (fun j => by
        unfold bump
        rw [List.getD_eq_getElem?_getD, List.getElem?_set]
        have h1 := h (x.level - 1).toNat
        have h2 := h j
        split
        · split
          · simp only [Option.getD_some]; omega
          · simp only [Option.getD_none]
            omega
        · rw [← List.getD_eq_getElem?_getD]; omega) i
      omega
  have h := this (List.replicate n 0) 0 (fun j => by rw [List.getD_eq_getElem?_getD, List.getElem?_replicate]; split <;> simp) i
  omega

set_option maxRecDepth 100000 in
set_option maxHeartbeats 2000000 in
theorem tSize_any (t : Tre) (HA NA : Option Addr) (hn hc nn nc : Nat) (sl : List Sl) (w : World) (h : TAt w t HA NA hn nn sl) :
    Calls Try.prog 16 #[.agg #[.int .i64 t.states, .slice HA hn hc, .slice NA nn nc]] w (IntsPost (sizeT t) w) := by
  have H : Hid (TAt w t HA NA hn nn sl) := h
  have HL : Hid (t.nodes.length = nn) := h.nl
  have HLH : Hid (t.hood.length = hn) := h.hl
  have hm1 := h.h63
  have hm2 := h.n63
  clear h
  unfold maxLen at hm1 hm2
  cases hr : rightT t
  · have HR : Hid (rightT t = false) := hr
    clear hr
    go_enter Try.func16, Try.ntmps16
    go_wp2_with fail
    refine (treeRight_any t HA NA hn hc nn nc sl _ (H.out.up (by go_grown))).mono ?_
    rw [HR.out]
    rintro e w1 ⟨rfl, hb⟩
    have HB : Hid (Below w.heap.size w w1) := below_next hb (by go_grown)
    clear hb
    go_wp2
    go_ret
    refine ⟨none, 0, 0, rfl, ?_, by unfold maxLen; omega, HB.out⟩
    rw [sizeT, if_neg (by rw [HR.out]; simp)]
    exact Rd.empty none
  have HR : Hid (rightT t = true) := hr
  obtain ⟨hh, ⟨hst, hn1, hn2, _⟩, HN0⟩ := rightT_parts hr
  have HN : Hid (∀ i, i < t.nodes.length → nodeOk t i = true) := HN0
  have hn25 : hn ≤ 25 := by
    simp only [hoodOk, Bool.and_eq_true, decide_eq_true_eq] at hh
    rw [HLH.out] at hh; omega
  have hn4 : nn ≤ 4096 := by rw [HL.out] at hn2; exact hn2
  clear hr hh hst hn1 hn2 HN0
  have hmk := fun W => make_like (P := Try.prog) Try.underlying29 int_infoT rfl hn (hn : Int) rfl (by omega) (by omega) W
  go_enter Try.func16, Try.ntmps16
  go_wp2_with fail
  refine (treeRight_any t HA NA hn hc nn nc sl _ (H.out.up (by go_grown))).mono ?_
  rw [HR.out]
  rintro e w1 ⟨rfl, hb⟩
  have HB : Hid (Below w.heap.size w w1) := below_next hb (by go_grown)
  have RA : Hid (Row w1 w.heap.size 25 [.int .i64 t.states, .slice HA hn hc, .slice NA nn nc]) := rowCells (Row.new w 25 [.int .i64 t.states, .slice HA hn hc, .slice NA nn nc]) hb
  clear hb
  have k0 := RA.out.cell 0
  have k1 := RA.out.cell 1
  have k2 := RA.out.cell 2
  have kl := RA.out.lt
  simp only [List.getElem?_cons_zero, List.getElem?_cons_succ] at k0 k1 k2
  go_wp2
  clear hmk k0 k1 k2 kl
  go_loopg [5, 16] nn (fun gg _ s16 wr => ∃ kk : Nat, kk ≤ nn ∧ nn - kk ≤ gg ∧ s16 = .int .i64 kk ∧ Aside (Below w1.heap.size w1 wr) ∧ Aside (Row wr w1.heap.size 3 (ints (sizeN hn (t.nodes.take kk)))))
  case atStart =>
    refine ⟨0, Nat.zero_le _, by omega, rfl, (show Below _ _ _ by go_grown), ?_⟩
    show Row _ _ _ _
    have h0 := Row.new w1 3 (List.replicate hn (Value.int .i64 0))
    have e0 : ints (sizeN hn (t.nodes.take 0)) = List.replicate hn (Value.int .i64 0) := by simp [sizeN, ints]
    rw [e0]
    exact h0
  case round =>
    obtain ⟨kk, hkk, hgg, rfl, BW, RZ⟩ := hrel
    have HBr : Hid (Below w.heap.size w wr) := below_on2 HB.out BW.out
    have RT : Hid (Row wr w.heap.size 25 [.int .i64 t.states, .slice HA hn hc, .slice NA nn nc]) := rowCells RA.out BW.out
    have hsz : w1.heap.size ≤ wr.heap.size := BW.out.size
    have hw1 : w.heap.size < w1.heap.size := RA.out.lt
    have RZ : Hid (Row wr w1.heap.size 3 (ints (sizeN hn (t.nodes.take kk)))) := RZ.out
    have k0 := RT.out.cell 0
    have k1 := RT.out.cell 1
    have k2 := RT.out.cell 2
    have kl := RT.out.lt
    simp only [List.getElem?_cons_zero, List.getElem?_cons_succ] at k0 k1 k2
    by_cases hlt : kk < nn
    · have hltz : (kk : Int) < (nn : Int) := by omega
      obtain ⟨ad, rfl, hb', g0, g1⟩ := (H.out.up HBr.out).node hlt
      obtain ⟨⟨l1, l2, _⟩, _⟩ := nodeOk_parts (HN.out kk (by rw [HL.out]; exact hlt))
      rw [HLH.out] at l2
      have HS := sizeN_snoc hn t.nodes kk (by rw [HL.out]; exact hlt)
      generalize (t.nodes.getD kk default).level = lev at g0 l1 l2 HS
      obtain ⟨pz, hpz⟩ : ∃ pz : Nat, lev - 1 = (pz : Int) := ⟨(lev - 1).toNat, by omega⟩
      rw [hpz, Int.toNat_natCast] at HS
      have hp1 : (pz : Int) < (hn : Int) := by omega
      have hp0 : (0 : Int) ≤ (pz : Int) := by omega
      have hpn : pz < hn := by omega
      have hbd := sizeN_bd hn (t.nodes.take kk) pz
      rw [List.length_take, HL.out] at hbd
      have hlen := sizeN_length hn (t.nodes.take kk)
      generalize sizeN hn (t.nodes.take kk) = zs at RZ HS hbd hlen
      have hcell : wr.cell? ⟨w1.heap.size, pz, none⟩ = some (.int .i64 (zs.getD pz 0)) := by rw [RZ.out.cell]; exact ints_get zs pz (by omega)
      have hfr : wr.frozen? ⟨w1.heap.size, pz, none⟩ = false := RZ.out.frozen pz
      have hbz := RZ.out.lt
      have HS' : Hid (sizeN hn (t.nodes.take (kk + 1)) = bump zs pz) := HS
      generalize hv : zs.getD pz 0 = v at hcell hbd
      have HV : Hid (zs.getD pz 0 = v) := hv
      have hw1 : IntKind.i64.wrap (pz : Int) = (pz : Int) := IntWalk.i64_in _ (by omega)
      have hw2 : IntKind.i64.wrap (v + 1) = v + 1 := IntWalk.i64_in _ (by omega)
      have hlz : Hid (zs.length = hn) := hlen
      clear hv HS hlen
      go_wp2
      go_roundg (nn - (kk + 1))
      case measure => omega
      case rel =>
        refine ⟨kk + 1, by omega, by omega, by go_num, ?_, ?_⟩
        · show Below _ _ _
          exact (BW.out.setCell (p := ⟨w1.heap.size, pz, none⟩) (Nat.le_refl _) _).alloc (by rw [World.size_setCell]; exact hsz) _
        · show Row _ _ _ _
          rw [HS'.out, ← bumpAt, HV.out]
          exact (RZ.out.set pz _).alloc _
    · have hltz : ¬ (kk : Int) < (nn : Int) := by omega
      obtain rfl : kk = nn := by omega
      go_wp2
      go_ret
      refine ⟨_, _, _, rfl, ?_, by unfold maxLen; omega, HBr.out⟩
      rw [sizeT, if_pos HR.out, HLH.out]
      have e1 : t.nodes.take kk = t.nodes := List.take_of_length_le (by rw [HL.out]; exact Nat.le_refl _)
      rw [e1] at RZ
      exact RZ.out.rd (by rw [ints_length, sizeN_length, Nat.mul_one])


set_option maxRecDepth 100000 in
set_option maxHeartbeats 2000000 in
theorem rSize_any (t : Tre) (HA NA : Option Addr) (hn hc nn nc : Nat) (sl : List Sl) (w : World) (h : TAt w t HA NA hn nn sl) :
    Calls Try.prog 17 #[.agg #[.int .i64 t.states, .slice HA hn hc, .slice NA nn nc]] w (IntsPost (sizeT t) w) := by
  have H : Hid (TAt w t HA NA hn nn sl) := h
  have HL : Hid (t.nodes.length = nn) := h.nl
  have HLH : Hid (t.hood.length = hn) := h.hl
  have hm1 := h.h63
  have hm2 := h.n63
  clear h
  unfold maxLen at hm1 hm2
  cases hr : rightT t
  · have HR : Hid (rightT t = false) := hr
    clear hr
    go_enter Try.func17, Try.ntmps17
    go_wp2_with fail
    refine (rTreeRight_any t HA NA hn hc nn nc sl _ (H.out.up (by go_grown))).mono ?_
    rw [HR.out]
    rintro e w1 ⟨rfl, hb⟩
    have HB : Hid (Below w.heap.size w w1) := below_next hb (by go_grown)
    clear hb
    go_wp2
    go_ret
    refine ⟨none, 0, 0, rfl, ?_, by unfold maxLen; omega, HB.out⟩
    rw [sizeT, if_neg (by rw [HR.out]; simp)]
    exact Rd.empty none
  have HR : Hid (rightT t = true) := hr
  obtain ⟨hh, ⟨hst, hn1, hn2, _⟩, HN0⟩ := rightT_parts hr
  have HN : Hid (∀ i, i < t.nodes.length → nodeOk t i = true) := HN0
  have hn25 : hn ≤ 25 := by
    simp only [hoodOk, Bool.and_eq_true, decide_eq_true_eq] at hh
    rw [HLH.out] at hh; omega
  have hn4 : nn ≤ 4096 := by rw [HL.out] at hn2; exact hn2
  clear hr hh hst hn1 hn2 HN0
  have hmk := fun W => make_like (P := Try.prog) Try.underlying29 int_infoT rfl hn (hn : Int) rfl (by omega) (by omega) W
  go_enter Try.func17, Try.ntmps17
  go_wp2_with fail
  refine (rTreeRight_any t HA NA hn hc nn nc sl _ (H.out.up (by go_grown))).mono ?_
  rw [HR.out]
  rintro e w1 ⟨rfl, hb⟩
  have HB : Hid (Below w.heap.size w w1) := below_next hb (by go_grown)
  have RA : Hid (Row w1 w.heap.size 25 [.int .i64 t.states, .slice HA hn hc, .slice NA nn nc]) := rowCells (Row.new w 25 [.int .i64 t.states, .slice HA hn hc, .slice NA nn nc]) hb
  clear hb
  have k0 := RA.out.cell 0
  have k1 := RA.out.cell 1
  have k2 := RA.out.cell 2
  have kl := RA.out.lt
  simp only [List.getElem?_cons_zero, List.getElem?_cons_succ] at k0 k1 k2
  go_wp2
  clear hmk k0 k1 k2 kl
  go_loopg [4] nn (fun gg s4 wr => ∃ kk : Nat, kk ≤ nn ∧ nn - kk ≤ gg ∧ s4 = .int .i64 kk ∧ Aside (Below w1.heap.size w1 wr) ∧ Aside (Row wr w1.heap.size 3 (ints (sizeN hn (t.nodes.take kk)))))
  case atStart =>
    refine ⟨0, Nat.zero_le _, by omega, rfl, (show Below _ _ _ by go_grown), ?_⟩
    show Row _ _ _ _
    have h0 := Row.new w1 3 (List.replicate hn (Value.int .i64 0))
    have e0 : ints (sizeN hn (t.nodes.take 0)) = List.replicate hn (Value.int .i64 0) := by simp [sizeN, ints]
    rw [e0]
    exact h0
  case round =>
    obtain ⟨kk, hkk, hgg, rfl, BW, RZ⟩ := hrel
    have HBr : Hid (Below w.heap.size w wr) := below_on2 HB.out BW.out
    have RT : Hid (Row wr w.heap.size 25 [.int .i64 t.states, .slice HA hn hc, .slice NA nn nc]) := rowCells RA.out BW.out
    have hsz : w1.heap.size ≤ wr.heap.size := BW.out.size
    have hw1 : w.heap.size < w1.heap.size := RA.out.lt
    have RZ : Hid (Row wr w1.heap.size 3 (ints (sizeN hn (t.nodes.take kk)))) := RZ.out
    have k0 := RT.out.cell 0
    have k1 := RT.out.cell 1
    have k2 := RT.out.cell 2
    have kl := RT.out.lt
    simp only [List.getElem?_cons_zero, List.getElem?_cons_succ] at k0 k1 k2
    by_cases hlt : kk < nn
    · have hltz : (kk : Int) < (nn : Int) := by omega
      obtain ⟨ad, rfl, hb', g0, g1⟩ := (H.out.up HBr.out).node hlt
      obtain ⟨⟨l1, l2, _⟩, _⟩ := nodeOk_parts (HN.out kk (by rw [HL.out]; exact hlt))
      rw [HLH.out] at l2
      have HS := sizeN_snoc hn t.nodes kk (by rw [HL.out]; exact hlt)
      generalize (t.nodes.getD kk default).level = lev at g0 l1 l2 HS
      obtain ⟨pz, hpz⟩ : ∃ pz : Nat, lev - 1 = (pz : Int) := ⟨(lev - 1).toNat, by omega⟩
      rw [hpz, Int.toNat_natCast] at HS
      have hp1 : (pz : Int) < (hn : Int) := by omega
      have hp0 : (0 : Int) ≤ (pz : Int) := by omega
      have hpn : pz < hn := by omega
      have hbd := sizeN_bd hn (t.nodes.take kk) pz
      rw [List.length_take, HL.out] at hbd
      have hlen := sizeN_length hn (t.nodes.take kk)
      generalize sizeN hn (t.nodes.take kk) = zs at RZ HS hbd hlen
      have hcell : wr.cell? ⟨w1.heap.size, pz, none⟩ = some (.int .i64 (zs.getD pz 0)) := by rw [RZ.out.cell]; exact ints_get zs pz (by omega)
      have hfr : wr.frozen? ⟨w1.heap.size, pz, none⟩ = false := RZ.out.frozen pz
      have hbz := RZ.out.lt
      have HS' : Hid (sizeN hn (t.nodes.take (kk + 1)) = bump zs pz) := HS
      generalize hv : zs.getD pz 0 = v at hcell hbd
      have HV : Hid (zs.getD pz 0 = v) := hv
      have hw1 : IntKind.i64.wrap (pz : Int) = (pz : Int) := IntWalk.i64_in _ (by omega)
      have hw2 : IntKind.i64.wrap (v + 1) = v + 1 := IntWalk.i64_in _ (by omega)
      have hlz : Hid (zs.length = hn) := hlen
      clear hv HS hlen
      go_wp2
      go_roundg (nn - (kk + 1))
      case measure => omega
      case rel =>
        refine ⟨kk + 1, by omega, by omega, by go_num, ?_, ?_⟩
        · show Below _ _ _
          exact BW.out.setCell (p := ⟨w1.heap.size, pz, none⟩) (Nat.le_refl _) _
        · show Row _ _ _ _
          rw [HS'.out, ← bumpAt, HV.out]
          exact RZ.out.set pz _
    · have hltz : ¬ (kk : Int) < (nn : Int) := by omega
      obtain rfl : kk = nn := by omega
      go_wp2
      go_ret
      refine ⟨_, _, _, rfl, ?_, by unfold maxLen; omega, HBr.out⟩
      rw [sizeT, if_pos HR.out, HLH.out]
      have e1 : t.nodes.take kk = t.nodes := List.take_of_length_le (by rw [HL.out]; exact Nat.le_refl _)
      rw [e1] at RZ
      exact RZ.out.rd (by rw [ints_length, sizeN_length, Nat.mul_one])

end Go.Proofs.Ytjacgoipfmiaiaa
