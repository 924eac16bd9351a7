/-
  The law LowerNumbers: what it does.
-/
import Derived.Test.YtlkpdmdgeppmdaaLAwake
namespace Go.Proofs.Ytlkpdmdgeppmdaa
open Go.RowKit
set_option linter.unusedSimpArgs false
set_option linter.unusedVariables false

set_option maxRecDepth 100000 in
set_option maxHeartbeats 4000000 in
theorem lawLowNum_any (t : Tre) (HA NA IA LA : Option Addr) (hn hc nn nc n ic ln lc : Nat) (sl : List Sl) (ins : List Int) (l : List Bool) (w : World) (h : TAt w t HA NA hn nn sl) (hI : Rd w w.heap.size 1 IA n (ints ins)) (hm : n ≤ maxLen) (hL : Rd w w.heap.size 1 LA ln (bools l)) (hm2 : ln ≤ maxLen) :
    Calls Try.prog 3 #[.agg #[.int .i64 t.states, .slice HA hn hc, .slice NA nn nc], .slice IA n ic, .slice LA ln lc] w fun e w' => e = .returned (.bool true) ∧ Below w.heap.size w w' := by
  have A0 : Hid (TAt w t HA NA hn nn sl) := h
  have HI : Hid (Rd w w.heap.size 1 IA n (ints ins)) := hI
  have HI2 : Hid (Rd w w.heap.size 1 LA ln (bools l)) := hL
  have HM : Hid (n ≤ maxLen ∧ ln ≤ maxLen) := ⟨hm, hm2⟩
  unfold maxLen at hm hm2
  clear h hI hL
  go_enter Try.func3, Try.ntmps3
  go_wp2_with fail
  refine (fewL_any t HA NA hn hc nn nc sl _ (A0.out.up (by go_grown))).mono ?_
  rintro e w1 ⟨rfl, hb⟩
  have RT : Hid (Row w1 w.heap.size 25 [.int .i64 t.states, .slice HA hn hc, .slice NA nn nc]) := rowCells (Row.new w 25 [.int .i64 t.states, .slice HA hn hc, .slice NA nn nc]) hb
  have HB : Hid (Below w.heap.size w w1) := below_next hb (by go_grown)
  have A := (show Hid (TAt w1 _ _ _ _ _ _) from A0.out.up HB.out)
  have HI := (show Hid (Rd w1 _ _ _ _ _) from HI.out.up HB.out)
  have HI2 := (show Hid (Rd w1 _ _ _ _ _) from HI2.out.up HB.out)
  clear hb A0
  cases hf : fewL t
  · clear RT
    go_wp2_with fail
    refine (awake_any _).mono ?_
    rintro e w9 ⟨rfl, hb⟩
    have HBE : Hid (Below w.heap.size w w9) := below_on HB.out (by go_grown) hb
    clear hb
    go_wp2
    go_ret
    exact ⟨rfl, HBE.out⟩
  clear hf
  by_cases hn40 : 40 < n
  · clear RT
    go_wp2_with fail
    refine (awake_any _).mono ?_
    rintro e w9 ⟨rfl, hb⟩
    have HBE : Hid (Below w.heap.size w w9) := below_on HB.out (by go_grown) hb
    clear hb
    go_wp2
    go_ret
    exact ⟨rfl, HBE.out⟩
  by_cases hl40 : 40 < ln
  · clear RT
    go_wp2_with fail
    refine (awake_any _).mono ?_
    rintro e w9 ⟨rfl, hb⟩
    have HBE : Hid (Below w.heap.size w w9) := below_on HB.out (by go_grown) hb
    clear hb
    go_wp2
    go_ret
    exact ⟨rfl, HBE.out⟩
  have k0 := RT.out.cell 0
  have k1 := RT.out.cell 1
  have k2 := RT.out.cell 2
  have kl := RT.out.lt
  simp only [List.getElem?_cons_zero, List.getElem?_cons_succ] at k0 k1 k2
  go_wp2_with fail
  refine (lInputs_any t HA NA IA hn hc nn nc n ic sl ins _ A.out HI.out HM.out.1).mono ?_
  rintro e w2 ⟨VA, vn, vc, rfl, hv, hvm, hb⟩
  have HI3 : Hid (Rd w2 w2.heap.size 1 VA vn (bools (inputsR t ins))) := hv
  have HVM : Hid (vn ≤ maxLen) := hvm
  clear k0 k1 k2 kl hv hvm
  have hn : Below w1.heap.size w1 w2 := below_next hb (by go_grown)
  have RT := (show Hid (Row _ _ _ _) from rowCells RT.out hn)
  have A := (show Hid (TAt w2 _ _ _ _ _ _) from A.out.up hn)
  have HI := (show Hid (Rd w2 _ _ _ _ _) from HI.out.up hn)
  have HI2 := (show Hid (Rd w2 _ _ _ _ _) from HI2.out.up hn)
  have HB := (show Hid (Below w.heap.size w w2) from below_on2 HB.out hn)
  clear hb hn
  have k0 := RT.out.cell 0
  have k1 := RT.out.cell 1
  have k2 := RT.out.cell 2
  have kl := RT.out.lt
  simp only [List.getElem?_cons_zero, List.getElem?_cons_succ] at k0 k1 k2
  go_wp2_with fail
  refine (rInputs_any t HA NA IA hn hc nn nc n ic sl ins _ A.out HI.out HM.out.1).mono ?_
  rintro e w3 ⟨UA, un, uc, rfl, hv, hvm, hb⟩
  have HI4 : Hid (Rd w3 w3.heap.size 1 UA un (bools (inputsR t ins))) := hv
  have HUM : Hid (un ≤ maxLen) := hvm
  clear k0 k1 k2 kl hv hvm
  have hn : Below w2.heap.size w2 w3 := below_next hb (by go_grown)
  have RT := (show Hid (Row _ _ _ _) from rowCells RT.out hn)
  have HI2 := (show Hid (Rd w3 _ _ _ _ _) from HI2.out.up hn)
  have HI3 := (show Hid (Rd w3 _ _ _ _ _) from HI3.out.up hn)
  have HB := (show Hid (Below w.heap.size w w3) from below_on2 HB.out hn)
  clear hb hn
  have HS : ∀ w', Below w3.heap.size w3 w' → w'.cell? ⟨w.heap.size, 0, none⟩ = some (.int .i64 t.states) := fun w' hw => (rowCells RT.out hw).cell 0
  have HN : Hid (Below w3.heap.size w3 w3) := Below.refl _ _
  have HSP : ∀ w', Below w3.heap.size w3 w' → w.heap.size < w'.heap.size := fun w' hw => Nat.lt_of_lt_of_le RT.out.lt hw.size
  obtain ⟨w1, rfl⟩ : ∃ w1 : World, w1 = w3 := ⟨_, rfl⟩
  clear RT A HI
  generalize evalErr t ins = er
  generalize hst : stateF l = sf
  have HSF : Hid (stateF l = sf) := hst
  generalize hbs : ((bitsF t.states : Nat) : Int) = bs
  have HBS : Hid (((bitsF t.states : Nat) : Int) = bs) := hbs
  generalize hbn : ((bitsF (n : Int) : Nat) : Int) = bn
  have HBN : Hid (((bitsF (n : Int) : Nat) : Int) = bn) := hbn
  clear hst hbs hbn
  go_wp2_with fail
  try simp only [List.append_eq, List.cons_append, List.nil_append]
  go_region_held3 (fun w' => w'.cell? ⟨w.heap.size, 0, none⟩ = some (.int .i64 t.states)) (exact HS _ (by first | exact below_on2 HN.out (by go_grown) | go_grown)) (first
    | (go_at_call 11
       refine (lBools_any VA UA vn un vc uc _ _ _ (by exact HI3.out.up (by first | exact below_on2 HN.out (by go_grown) | go_grown)) (by exact HI4.out.up (by first | exact below_on2 HN.out (by go_grown) | go_grown)) HVM.out HUM.out).mono ?_
       rw [decide_eq_true (rfl : inputsR t ins = inputsR t ins)]
       rintro e w7 ⟨rfl, hb⟩
       have HN := (show Hid (Below w1.heap.size w1 w7) from below_on HN.out (by go_grown) hb)
       clear hb)
    | (go_at_call 12
       refine (lState_any LA ln lc l _ (by exact HI2.out.up (by first | exact below_on2 HN.out (by go_grown) | go_grown)) HM.out.2).mono ?_
       rw [HSF.out]
       rintro e w7 ⟨rfl, rfl⟩)
    | (go_at_call 13
       refine (rState_any LA ln lc l _ (by exact HI2.out.up (by first | exact below_on2 HN.out (by go_grown) | go_grown)) HM.out.2).mono ?_
       rw [HSF.out]
       rintro e w7 ⟨rfl, rfl⟩)
    | (go_at_call_of 14 (Value.int .i64 t.states)
       refine (lBits_any t.states _).mono ?_
       rw [HBS.out]
       rintro e w7 ⟨rfl, rfl⟩)
    | (go_at_call 14
       refine (lBits_any n _).mono ?_
       rw [HBN.out]
       rintro e w7 ⟨rfl, rfl⟩)
    | (go_at_call_of 15 (Value.int .i64 t.states)
       refine (rBits_any t.states _).mono ?_
       rw [HBS.out]
       rintro e w7 ⟨rfl, rfl⟩)
    | (go_at_call 15
       refine (rBits_any n _).mono ?_
       rw [HBN.out]
       rintro e w7 ⟨rfl, rfl⟩)
    | (go_at_call 8
       refine (awake_any _).mono ?_
       rintro e w7 ⟨rfl, hb⟩
       have HN := (show Hid (Below w1.heap.size w1 w7) from below_on HN.out (by go_grown) hb)
       clear hb))
  all_goals
    go_wp2
    go_ret
    exact ⟨rfl, below_on HB.out HN.out (by go_grown)⟩
end Go.Proofs.Ytlkpdmdgeppmdaa
