/-
  Chapter 18: few and awake, walked.
-/
import Derived.Test.YtlkpdmdgeppmdaaLLower
import Derived.Test.YtlkpdmdgeppmdaaLInputs
import Derived.Test.YtlkpdmdgeppmdaaLBools
import Derived.Test.YtlkpdmdgeppmdaaCRefSame
namespace Go.Proofs.Ytlkpdmdgeppmdaa
open Go.RowKit
set_option linter.unusedSimpArgs false
set_option linter.unusedVariables false

def fewL (t : Tre) : Bool := fewT t && decide (t.nodes.length ≤ 60)
set_option maxHeartbeats 400000 in
theorem fewL_any (t : Tre) (HA NA : Option Addr) (hn hc nn nc : Nat) (sl : List Sl) (w : World) (h : TAt w t HA NA hn nn sl) :
    Calls Try.prog 7 #[.agg #[.int .i64 t.states, .slice HA hn hc, .slice NA nn nc]] w fun e w' => e = .returned (.bool (fewL t)) ∧ Below w.heap.size w w' := by
  have H : Hid (TAt w t HA NA hn nn sl) := h
  have HL : Hid (t.nodes.length = nn) := h.nl
  have hm1 := h.h63
  have hm2 := h.n63
  clear h
  unfold maxLen at hm1 hm2
  go_enter Try.func7, Try.ntmps7
  go_wp2_with fail
  refine (fewT_any t HA NA hn hc nn nc sl _ (H.out.up (by go_grown))).mono ?_
  rintro e w1 ⟨rfl, hb⟩
  have HB : Hid (Below w.heap.size w w1) := below_next hb (by go_grown)
  have RA : Hid (Row w1 w.heap.size 25 [.int .i64 t.states, .slice HA hn hc, .slice NA nn nc]) := rowCells (Row.new w 25 [.int .i64 t.states, .slice HA hn hc, .slice NA nn nc]) hb
  clear hb
  have k0 := RA.out.cell 0
  have k1 := RA.out.cell 1
  have k2 := RA.out.cell 2
  have kl := RA.out.lt
  simp only [List.getElem?_cons_zero, List.getElem?_cons_succ] at k0 k1 k2
  cases hf : fewT t
  · go_wp2
    go_ret
    exact ⟨ret_bool (by simp [fewL, hf]), HB.out⟩
  · go_wp2
    go_ret
    exact ⟨ret_bool (by rw [fewL, hf, HL.out]; rw [Bool.eq_iff_iff]; simp; omega), HB.out⟩

theorem tat_zero (w : World) : TAt w ⟨0, [], []⟩ none none 0 0 [] :=
  ⟨Rd.empty none, Rd.empty none, rfl, fun i hi => absurd hi (Nat.not_lt_zero _), by unfold maxLen; omega, by unfold maxLen; omega⟩
theorem tat_one {w : World} {h n x : Nat} {PT NT IT : TypeId} {st lev : Int} {hood : List Pt} {nx : List Int} (rh : Row w h PT (hoodCells hood)) (rn : Row w n NT [.int .i64 lev, .slice (some ⟨x, 0, none⟩) nx.length nx.length]) (rx : Row w x IT (ints nx)) (hb : hood.length ≤ 100) (hx : nx.length ≤ 100) :
    TAt w ⟨st, hood, [⟨lev, nx⟩]⟩ (some ⟨h, 0, none⟩) (some ⟨n, 0, none⟩) hood.length 1 [⟨some ⟨x, 0, none⟩, nx.length, nx.length⟩] := by
  refine ⟨rh.rd (by rw [hoodCells, flat2_length _ (fun _ => rfl)]), rn.rd rfl, rfl, fun i hi => ?_, by unfold maxLen; omega, by unfold maxLen; omega⟩
  obtain rfl : i = 0 := by simpa using hi
  exact ⟨rx.rd (by simp), by show nx.length ≤ maxLen; unfold maxLen; omega⟩
theorem tat_two {w : World} {h n x y : Nat} {PT NT IT : TypeId} {st lev lev' : Int} {hood : List Pt} {nx ny : List Int} (rh : Row w h PT (hoodCells hood)) (rn : Row w n NT [.int .i64 lev, .slice (some ⟨x, 0, none⟩) nx.length nx.length, .int .i64 lev', .slice (some ⟨y, 0, none⟩) ny.length ny.length]) (rx : Row w x IT (ints nx)) (ry : Row w y IT (ints ny)) (hb : hood.length ≤ 100) (hx : nx.length ≤ 100) (hy : ny.length ≤ 100) :
    TAt w ⟨st, hood, [⟨lev, nx⟩, ⟨lev', ny⟩]⟩ (some ⟨h, 0, none⟩) (some ⟨n, 0, none⟩) hood.length 2 [⟨some ⟨x, 0, none⟩, nx.length, nx.length⟩, ⟨some ⟨y, 0, none⟩, ny.length, ny.length⟩] := by
  refine ⟨rh.rd (by rw [hoodCells, flat2_length _ (fun _ => rfl)]), rn.rd rfl, rfl, fun i hi => ?_, by unfold maxLen; omega, by unfold maxLen; omega⟩
  have : i = 0 ∨ i = 1 := by
    have : i < 2 := hi
    omega
  rcases this with rfl | rfl
  · exact ⟨rx.rd (by simp), by show nx.length ≤ maxLen; unfold maxLen; omega⟩
  · exact ⟨ry.rd (by simp), by show ny.length ≤ maxLen; unfold maxLen; omega⟩
def awT1 : Tre := ⟨2, [⟨0, 0⟩], [⟨1, [0, 1]⟩]⟩
def awT2 : Tre := ⟨2, [⟨0, 0⟩], [⟨1, [0, 0]⟩]⟩
def awT3 : Tre := ⟨3, [⟨0, 0⟩, ⟨1, 0⟩], [⟨1, [0, 0, 0]⟩, ⟨2, [0, 0, 0]⟩]⟩
def awT4 : Tre := ⟨0, [], []⟩
theorem aw_1 : lowR awT1 = ⟨1, [⟨2, 0, 0⟩], [0]⟩ ∧ lowErr awT1 = 0 := ⟨rfl, rfl⟩
theorem aw_2 : lowR awT2 = ⟨1, [⟨2, 0, 0⟩, ⟨0, 0, 0⟩], [2]⟩ ∧ lowErr awT2 = 0 := ⟨rfl, rfl⟩
theorem aw_3 : inputsR awT3 [2, 1] = [false, true, true, false] ∧ evalErr awT3 [2, 1] = 0 := ⟨rfl, rfl⟩
theorem aw_4 : evalErr awT3 [3, 1] = 10 := rfl
theorem aw_5 : lowErr awT4 = 11 := rfl
theorem aw_6 : stateF [false, true, true] = 6 := rfl

set_option maxRecDepth 100000 in
set_option maxHeartbeats 4000000 in
/-- The fixed examples hold. -/
theorem awake_any (w : World) : Calls Try.prog 8 #[] w fun e w' => e = .returned (.bool true) ∧ Below w.heap.size w w' := by
  go_enter Try.func8, Try.ntmps8
  go_wp2_with fail
  have R0 : Hid (Row (World.alloc (World.alloc (World.alloc (World.alloc (World.alloc (World.alloc (World.alloc (World.alloc (World.alloc (World.alloc (World.alloc (World.alloc w (.cells #[.int .i64 0, .int .i64 0] 49)) (.cells #[.int .i64 0, .int .i64 1] 3)) (.cells #[.int .i64 1, .slice (some ⟨(w.heap.size + 1), 0, none⟩) 2 2] 51)) (.cells #[.int .i64 2, .slice (some ⟨w.heap.size, 0, none⟩) 1 1, .slice (some ⟨(w.heap.size + 1 + 1), 0, none⟩) 1 1] 25)) (.cells #[.int .i64 0, .int .i64 0] 3)) (.cells #[.int .i64 1, .slice (some ⟨(w.heap.size + 1 + 1 + 1 + 1), 0, none⟩) 2 2] 51)) (.cells #[.int .i64 2, .slice (some ⟨w.heap.size, 0, none⟩) 1 1, .slice (some ⟨(w.heap.size + 1 + 1 + 1 + 1 + 1), 0, none⟩) 1 1] 25)) (.cells #[.int .i64 0, .int .i64 0, .int .i64 1, .int .i64 0] 49)) (.cells #[.int .i64 0, .int .i64 0, .int .i64 0] 3)) (.cells #[.int .i64 0, .int .i64 0, .int .i64 0] 3)) (.cells #[.int .i64 1, .slice (some ⟨(w.heap.size + 1 + 1 + 1 + 1 + 1 + 1 + 1 + 1), 0, none⟩) 3 3, .int .i64 2, .slice (some ⟨(w.heap.size + 1 + 1 + 1 + 1 + 1 + 1 + 1 + 1 + 1), 0, none⟩) 3 3] 51)) (.cells #[.int .i64 3, .slice (some ⟨(w.heap.size + 1 + 1 + 1 + 1 + 1 + 1 + 1), 0, none⟩) 2 2, .slice (some ⟨(w.heap.size + 1 + 1 + 1 + 1 + 1 + 1 + 1 + 1 + 1 + 1), 0, none⟩) 2 2] 25)) (w.heap.size) 49 [.int .i64 0, .int .i64 0]) := by
    have h0 := Row.new w 49 [.int .i64 0, .int .i64 0]
    try simp only [World.size_alloc] at h0
    exact (((((((((((h0.alloc _).alloc _).alloc _).alloc _).alloc _).alloc _).alloc _).alloc _).alloc _).alloc _).alloc _)
  have R1 : Hid (Row (World.alloc (World.alloc (World.alloc (World.alloc (World.alloc (World.alloc (World.alloc (World.alloc (World.alloc (World.alloc (World.alloc (World.alloc w (.cells #[.int .i64 0, .int .i64 0] 49)) (.cells #[.int .i64 0, .int .i64 1] 3)) (.cells #[.int .i64 1, .slice (some ⟨(w.heap.size + 1), 0, none⟩) 2 2] 51)) (.cells #[.int .i64 2, .slice (some ⟨w.heap.size, 0, none⟩) 1 1, .slice (some ⟨(w.heap.size + 1 + 1), 0, none⟩) 1 1] 25)) (.cells #[.int .i64 0, .int .i64 0] 3)) (.cells #[.int .i64 1, .slice (some ⟨(w.heap.size + 1 + 1 + 1 + 1), 0, none⟩) 2 2] 51)) (.cells #[.int .i64 2, .slice (some ⟨w.heap.size, 0, none⟩) 1 1, .slice (some ⟨(w.heap.size + 1 + 1 + 1 + 1 + 1), 0, none⟩) 1 1] 25)) (.cells #[.int .i64 0, .int .i64 0, .int .i64 1, .int .i64 0] 49)) (.cells #[.int .i64 0, .int .i64 0, .int .i64 0] 3)) (.cells #[.int .i64 0, .int .i64 0, .int .i64 0] 3)) (.cells #[.int .i64 1, .slice (some ⟨(w.heap.size + 1 + 1 + 1 + 1 + 1 + 1 + 1 + 1), 0, none⟩) 3 3, .int .i64 2, .slice (some ⟨(w.heap.size + 1 + 1 + 1 + 1 + 1 + 1 + 1 + 1 + 1), 0, none⟩) 3 3] 51)) (.cells #[.int .i64 3, .slice (some ⟨(w.heap.size + 1 + 1 + 1 + 1 + 1 + 1 + 1), 0, none⟩) 2 2, .slice (some ⟨(w.heap.size + 1 + 1 + 1 + 1 + 1 + 1 + 1 + 1 + 1 + 1), 0, none⟩) 2 2] 25)) (w.heap.size + 1) 3 [.int .i64 0, .int .i64 1]) := by
    have h0 := Row.new (World.alloc w (.cells #[.int .i64 0, .int .i64 0] 49)) 3 [.int .i64 0, .int .i64 1]
    try simp only [World.size_alloc] at h0
    exact ((((((((((h0.alloc _).alloc _).alloc _).alloc _).alloc _).alloc _).alloc _).alloc _).alloc _).alloc _)
  have R2 : Hid (Row (World.alloc (World.alloc (World.alloc (World.alloc (World.alloc (World.alloc (World.alloc (World.alloc (World.alloc (World.alloc (World.alloc (World.alloc w (.cells #[.int .i64 0, .int .i64 0] 49)) (.cells #[.int .i64 0, .int .i64 1] 3)) (.cells #[.int .i64 1, .slice (some ⟨(w.heap.size + 1), 0, none⟩) 2 2] 51)) (.cells #[.int .i64 2, .slice (some ⟨w.heap.size, 0, none⟩) 1 1, .slice (some ⟨(w.heap.size + 1 + 1), 0, none⟩) 1 1] 25)) (.cells #[.int .i64 0, .int .i64 0] 3)) (.cells #[.int .i64 1, .slice (some ⟨(w.heap.size + 1 + 1 + 1 + 1), 0, none⟩) 2 2] 51)) (.cells #[.int .i64 2, .slice (some ⟨w.heap.size, 0, none⟩) 1 1, .slice (some ⟨(w.heap.size + 1 + 1 + 1 + 1 + 1), 0, none⟩) 1 1] 25)) (.cells #[.int .i64 0, .int .i64 0, .int .i64 1, .int .i64 0] 49)) (.cells #[.int .i64 0, .int .i64 0, .int .i64 0] 3)) (.cells #[.int .i64 0, .int .i64 0, .int .i64 0] 3)) (.cells #[.int .i64 1, .slice (some ⟨(w.heap.size + 1 + 1 + 1 + 1 + 1 + 1 + 1 + 1), 0, none⟩) 3 3, .int .i64 2, .slice (some ⟨(w.heap.size + 1 + 1 + 1 + 1 + 1 + 1 + 1 + 1 + 1), 0, none⟩) 3 3] 51)) (.cells #[.int .i64 3, .slice (some ⟨(w.heap.size + 1 + 1 + 1 + 1 + 1 + 1 + 1), 0, none⟩) 2 2, .slice (some ⟨(w.heap.size + 1 + 1 + 1 + 1 + 1 + 1 + 1 + 1 + 1 + 1), 0, none⟩) 2 2] 25)) (w.heap.size + 1 + 1) 51 [.int .i64 1, .slice (some ⟨(w.heap.size + 1), 0, none⟩) 2 2]) := by
    have h0 := Row.new (World.alloc (World.alloc w (.cells #[.int .i64 0, .int .i64 0] 49)) (.cells #[.int .i64 0, .int .i64 1] 3)) 51 [.int .i64 1, .slice (some ⟨(w.heap.size + 1), 0, none⟩) 2 2]
    try simp only [World.size_alloc] at h0
    exact (((((((((h0.alloc _).alloc _).alloc _).alloc _).alloc _).alloc _).alloc _).alloc _).alloc _)
  have RT1 : Hid (Row (World.alloc (World.alloc (World.alloc (World.alloc (World.alloc (World.alloc (World.alloc (World.alloc (World.alloc (World.alloc (World.alloc (World.alloc w (.cells #[.int .i64 0, .int .i64 0] 49)) (.cells #[.int .i64 0, .int .i64 1] 3)) (.cells #[.int .i64 1, .slice (some ⟨(w.heap.size + 1), 0, none⟩) 2 2] 51)) (.cells #[.int .i64 2, .slice (some ⟨w.heap.size, 0, none⟩) 1 1, .slice (some ⟨(w.heap.size + 1 + 1), 0, none⟩) 1 1] 25)) (.cells #[.int .i64 0, .int .i64 0] 3)) (.cells #[.int .i64 1, .slice (some ⟨(w.heap.size + 1 + 1 + 1 + 1), 0, none⟩) 2 2] 51)) (.cells #[.int .i64 2, .slice (some ⟨w.heap.size, 0, none⟩) 1 1, .slice (some ⟨(w.heap.size + 1 + 1 + 1 + 1 + 1), 0, none⟩) 1 1] 25)) (.cells #[.int .i64 0, .int .i64 0, .int .i64 1, .int .i64 0] 49)) (.cells #[.int .i64 0, .int .i64 0, .int .i64 0] 3)) (.cells #[.int .i64 0, .int .i64 0, .int .i64 0] 3)) (.cells #[.int .i64 1, .slice (some ⟨(w.heap.size + 1 + 1 + 1 + 1 + 1 + 1 + 1 + 1), 0, none⟩) 3 3, .int .i64 2, .slice (some ⟨(w.heap.size + 1 + 1 + 1 + 1 + 1 + 1 + 1 + 1 + 1), 0, none⟩) 3 3] 51)) (.cells #[.int .i64 3, .slice (some ⟨(w.heap.size + 1 + 1 + 1 + 1 + 1 + 1 + 1), 0, none⟩) 2 2, .slice (some ⟨(w.heap.size + 1 + 1 + 1 + 1 + 1 + 1 + 1 + 1 + 1 + 1), 0, none⟩) 2 2] 25)) (w.heap.size + 1 + 1 + 1) 25 [.int .i64 2, .slice (some ⟨w.heap.size, 0, none⟩) 1 1, .slice (some ⟨(w.heap.size + 1 + 1), 0, none⟩) 1 1]) := by
    have h0 := Row.new (World.alloc (World.alloc (World.alloc w (.cells #[.int .i64 0, .int .i64 0] 49)) (.cells #[.int .i64 0, .int .i64 1] 3)) (.cells #[.int .i64 1, .slice (some ⟨(w.heap.size + 1), 0, none⟩) 2 2] 51)) 25 [.int .i64 2, .slice (some ⟨w.heap.size, 0, none⟩) 1 1, .slice (some ⟨(w.heap.size + 1 + 1), 0, none⟩) 1 1]
    try simp only [World.size_alloc] at h0
    exact ((((((((h0.alloc _).alloc _).alloc _).alloc _).alloc _).alloc _).alloc _).alloc _)
  have R4 : Hid (Row (World.alloc (World.alloc (World.alloc (World.alloc (World.alloc (World.alloc (World.alloc (World.alloc (World.alloc (World.alloc (World.alloc (World.alloc w (.cells #[.int .i64 0, .int .i64 0] 49)) (.cells #[.int .i64 0, .int .i64 1] 3)) (.cells #[.int .i64 1, .slice (some ⟨(w.heap.size + 1), 0, none⟩) 2 2] 51)) (.cells #[.int .i64 2, .slice (some ⟨w.heap.size, 0, none⟩) 1 1, .slice (some ⟨(w.heap.size + 1 + 1), 0, none⟩) 1 1] 25)) (.cells #[.int .i64 0, .int .i64 0] 3)) (.cells #[.int .i64 1, .slice (some ⟨(w.heap.size + 1 + 1 + 1 + 1), 0, none⟩) 2 2] 51)) (.cells #[.int .i64 2, .slice (some ⟨w.heap.size, 0, none⟩) 1 1, .slice (some ⟨(w.heap.size + 1 + 1 + 1 + 1 + 1), 0, none⟩) 1 1] 25)) (.cells #[.int .i64 0, .int .i64 0, .int .i64 1, .int .i64 0] 49)) (.cells #[.int .i64 0, .int .i64 0, .int .i64 0] 3)) (.cells #[.int .i64 0, .int .i64 0, .int .i64 0] 3)) (.cells #[.int .i64 1, .slice (some ⟨(w.heap.size + 1 + 1 + 1 + 1 + 1 + 1 + 1 + 1), 0, none⟩) 3 3, .int .i64 2, .slice (some ⟨(w.heap.size + 1 + 1 + 1 + 1 + 1 + 1 + 1 + 1 + 1), 0, none⟩) 3 3] 51)) (.cells #[.int .i64 3, .slice (some ⟨(w.heap.size + 1 + 1 + 1 + 1 + 1 + 1 + 1), 0, none⟩) 2 2, .slice (some ⟨(w.heap.size + 1 + 1 + 1 + 1 + 1 + 1 + 1 + 1 + 1 + 1), 0, none⟩) 2 2] 25)) (w.heap.size + 1 + 1 + 1 + 1) 3 [.int .i64 0, .int .i64 0]) := by
    have h0 := Row.new (World.alloc (World.alloc (World.alloc (World.alloc w (.cells #[.int .i64 0, .int .i64 0] 49)) (.cells #[.int .i64 0, .int .i64 1] 3)) (.cells #[.int .i64 1, .slice (some ⟨(w.heap.size + 1), 0, none⟩) 2 2] 51)) (.cells #[.int .i64 2, .slice (some ⟨w.heap.size, 0, none⟩) 1 1, .slice (some ⟨(w.heap.size + 1 + 1), 0, none⟩) 1 1] 25)) 3 [.int .i64 0, .int .i64 0]
    try simp only [World.size_alloc] at h0
    exact (((((((h0.alloc _).alloc _).alloc _).alloc _).alloc _).alloc _).alloc _)
  have R5 : Hid (Row (World.alloc (World.alloc (World.alloc (World.alloc (World.alloc (World.alloc (World.alloc (World.alloc (World.alloc (World.alloc (World.alloc (World.alloc w (.cells #[.int .i64 0, .int .i64 0] 49)) (.cells #[.int .i64 0, .int .i64 1] 3)) (.cells #[.int .i64 1, .slice (some ⟨(w.heap.size + 1), 0, none⟩) 2 2] 51)) (.cells #[.int .i64 2, .slice (some ⟨w.heap.size, 0, none⟩) 1 1, .slice (some ⟨(w.heap.size + 1 + 1), 0, none⟩) 1 1] 25)) (.cells #[.int .i64 0, .int .i64 0] 3)) (.cells #[.int .i64 1, .slice (some ⟨(w.heap.size + 1 + 1 + 1 + 1), 0, none⟩) 2 2] 51)) (.cells #[.int .i64 2, .slice (some ⟨w.heap.size, 0, none⟩) 1 1, .slice (some ⟨(w.heap.size + 1 + 1 + 1 + 1 + 1), 0, none⟩) 1 1] 25)) (.cells #[.int .i64 0, .int .i64 0, .int .i64 1, .int .i64 0] 49)) (.cells #[.int .i64 0, .int .i64 0, .int .i64 0] 3)) (.cells #[.int .i64 0, .int .i64 0, .int .i64 0] 3)) (.cells #[.int .i64 1, .slice (some ⟨(w.heap.size + 1 + 1 + 1 + 1 + 1 + 1 + 1 + 1), 0, none⟩) 3 3, .int .i64 2, .slice (some ⟨(w.heap.size + 1 + 1 + 1 + 1 + 1 + 1 + 1 + 1 + 1), 0, none⟩) 3 3] 51)) (.cells #[.int .i64 3, .slice (some ⟨(w.heap.size + 1 + 1 + 1 + 1 + 1 + 1 + 1), 0, none⟩) 2 2, .slice (some ⟨(w.heap.size + 1 + 1 + 1 + 1 + 1 + 1 + 1 + 1 + 1 + 1), 0, none⟩) 2 2] 25)) (w.heap.size + 1 + 1 + 1 + 1 + 1) 51 [.int .i64 1, .slice (some ⟨(w.heap.size + 1 + 1 + 1 + 1), 0, none⟩) 2 2]) := by
    have h0 := Row.new (World.alloc (World.alloc (World.alloc (World.alloc (World.alloc w (.cells #[.int .i64 0, .int .i64 0] 49)) (.cells #[.int .i64 0, .int .i64 1] 3)) (.cells #[.int .i64 1, .slice (some ⟨(w.heap.size + 1), 0, none⟩) 2 2] 51)) (.cells #[.int .i64 2, .slice (some ⟨w.heap.size, 0, none⟩) 1 1, .slice (some ⟨(w.heap.size + 1 + 1), 0, none⟩) 1 1] 25)) (.cells #[.int .i64 0, .int .i64 0] 3)) 51 [.int .i64 1, .slice (some ⟨(w.heap.size + 1 + 1 + 1 + 1), 0, none⟩) 2 2]
    try simp only [World.size_alloc] at h0
    exact ((((((h0.alloc _).alloc _).alloc _).alloc _).alloc _).alloc _)
  have RT2 : Hid (Row (World.alloc (World.alloc (World.alloc (World.alloc (World.alloc (World.alloc (World.alloc (World.alloc (World.alloc (World.alloc (World.alloc (World.alloc w (.cells #[.int .i64 0, .int .i64 0] 49)) (.cells #[.int .i64 0, .int .i64 1] 3)) (.cells #[.int .i64 1, .slice (some ⟨(w.heap.size + 1), 0, none⟩) 2 2] 51)) (.cells #[.int .i64 2, .slice (some ⟨w.heap.size, 0, none⟩) 1 1, .slice (some ⟨(w.heap.size + 1 + 1), 0, none⟩) 1 1] 25)) (.cells #[.int .i64 0, .int .i64 0] 3)) (.cells #[.int .i64 1, .slice (some ⟨(w.heap.size + 1 + 1 + 1 + 1), 0, none⟩) 2 2] 51)) (.cells #[.int .i64 2, .slice (some ⟨w.heap.size, 0, none⟩) 1 1, .slice (some ⟨(w.heap.size + 1 + 1 + 1 + 1 + 1), 0, none⟩) 1 1] 25)) (.cells #[.int .i64 0, .int .i64 0, .int .i64 1, .int .i64 0] 49)) (.cells #[.int .i64 0, .int .i64 0, .int .i64 0] 3)) (.cells #[.int .i64 0, .int .i64 0, .int .i64 0] 3)) (.cells #[.int .i64 1, .slice (some ⟨(w.heap.size + 1 + 1 + 1 + 1 + 1 + 1 + 1 + 1), 0, none⟩) 3 3, .int .i64 2, .slice (some ⟨(w.heap.size + 1 + 1 + 1 + 1 + 1 + 1 + 1 + 1 + 1), 0, none⟩) 3 3] 51)) (.cells #[.int .i64 3, .slice (some ⟨(w.heap.size + 1 + 1 + 1 + 1 + 1 + 1 + 1), 0, none⟩) 2 2, .slice (some ⟨(w.heap.size + 1 + 1 + 1 + 1 + 1 + 1 + 1 + 1 + 1 + 1), 0, none⟩) 2 2] 25)) (w.heap.size + 1 + 1 + 1 + 1 + 1 + 1) 25 [.int .i64 2, .slice (some ⟨w.heap.size, 0, none⟩) 1 1, .slice (some ⟨(w.heap.size + 1 + 1 + 1 + 1 + 1), 0, none⟩) 1 1]) := by
    have h0 := Row.new (World.alloc (World.alloc (World.alloc (World.alloc (World.alloc (World.alloc w (.cells #[.int .i64 0, .int .i64 0] 49)) (.cells #[.int .i64 0, .int .i64 1] 3)) (.cells #[.int .i64 1, .slice (some ⟨(w.heap.size + 1), 0, none⟩) 2 2] 51)) (.cells #[.int .i64 2, .slice (some ⟨w.heap.size, 0, none⟩) 1 1, .slice (some ⟨(w.heap.size + 1 + 1), 0, none⟩) 1 1] 25)) (.cells #[.int .i64 0, .int .i64 0] 3)) (.cells #[.int .i64 1, .slice (some ⟨(w.heap.size + 1 + 1 + 1 + 1), 0, none⟩) 2 2] 51)) 25 [.int .i64 2, .slice (some ⟨w.heap.size, 0, none⟩) 1 1, .slice (some ⟨(w.heap.size + 1 + 1 + 1 + 1 + 1), 0, none⟩) 1 1]
    try simp only [World.size_alloc] at h0
    exact (((((h0.alloc _).alloc _).alloc _).alloc _).alloc _)
  have R7 : Hid (Row (World.alloc (World.alloc (World.alloc (World.alloc (World.alloc (World.alloc (World.alloc (World.alloc (World.alloc (World.alloc (World.alloc (World.alloc w (.cells #[.int .i64 0, .int .i64 0] 49)) (.cells #[.int .i64 0, .int .i64 1] 3)) (.cells #[.int .i64 1, .slice (some ⟨(w.heap.size + 1), 0, none⟩) 2 2] 51)) (.cells #[.int .i64 2, .slice (some ⟨w.heap.size, 0, none⟩) 1 1, .slice (some ⟨(w.heap.size + 1 + 1), 0, none⟩) 1 1] 25)) (.cells #[.int .i64 0, .int .i64 0] 3)) (.cells #[.int .i64 1, .slice (some ⟨(w.heap.size + 1 + 1 + 1 + 1), 0, none⟩) 2 2] 51)) (.cells #[.int .i64 2, .slice (some ⟨w.heap.size, 0, none⟩) 1 1, .slice (some ⟨(w.heap.size + 1 + 1 + 1 + 1 + 1), 0, none⟩) 1 1] 25)) (.cells #[.int .i64 0, .int .i64 0, .int .i64 1, .int .i64 0] 49)) (.cells #[.int .i64 0, .int .i64 0, .int .i64 0] 3)) (.cells #[.int .i64 0, .int .i64 0, .int .i64 0] 3)) (.cells #[.int .i64 1, .slice (some ⟨(w.heap.size + 1 + 1 + 1 + 1 + 1 + 1 + 1 + 1), 0, none⟩) 3 3, .int .i64 2, .slice (some ⟨(w.heap.size + 1 + 1 + 1 + 1 + 1 + 1 + 1 + 1 + 1), 0, none⟩) 3 3] 51)) (.cells #[.int .i64 3, .slice (some ⟨(w.heap.size + 1 + 1 + 1 + 1 + 1 + 1 + 1), 0, none⟩) 2 2, .slice (some ⟨(w.heap.size + 1 + 1 + 1 + 1 + 1 + 1 + 1 + 1 + 1 + 1), 0, none⟩) 2 2] 25)) (w.heap.size + 1 + 1 + 1 + 1 + 1 + 1 + 1) 49 [.int .i64 0, .int .i64 0, .int .i64 1, .int .i64 0]) := by
    have h0 := Row.new (World.alloc (World.alloc (World.alloc (World.alloc (World.alloc (World.alloc (World.alloc w (.cells #[.int .i64 0, .int .i64 0] 49)) (.cells #[.int .i64 0, .int .i64 1] 3)) (.cells #[.int .i64 1, .slice (some ⟨(w.heap.size + 1), 0, none⟩) 2 2] 51)) (.cells #[.int .i64 2, .slice (some ⟨w.heap.size, 0, none⟩) 1 1, .slice (some ⟨(w.heap.size + 1 + 1), 0, none⟩) 1 1] 25)) (.cells #[.int .i64 0, .int .i64 0] 3)) (.cells #[.int .i64 1, .slice (some ⟨(w.heap.size + 1 + 1 + 1 + 1), 0, none⟩) 2 2] 51)) (.cells #[.int .i64 2, .slice (some ⟨w.heap.size, 0, none⟩) 1 1, .slice (some ⟨(w.heap.size + 1 + 1 + 1 + 1 + 1), 0, none⟩) 1 1] 25)) 49 [.int .i64 0, .int .i64 0, .int .i64 1, .int .i64 0]
    try simp only [World.size_alloc] at h0
    exact ((((h0.alloc _).alloc _).alloc _).alloc _)
  have R8 : Hid (Row (World.alloc (World.alloc (World.alloc (World.alloc (World.alloc (World.alloc (World.alloc (World.alloc (World.alloc (World.alloc (World.alloc (World.alloc w (.cells #[.int .i64 0, .int .i64 0] 49)) (.cells #[.int .i64 0, .int .i64 1] 3)) (.cells #[.int .i64 1, .slice (some ⟨(w.heap.size + 1), 0, none⟩) 2 2] 51)) (.cells #[.int .i64 2, .slice (some ⟨w.heap.size, 0, none⟩) 1 1, .slice (some ⟨(w.heap.size + 1 + 1), 0, none⟩) 1 1] 25)) (.cells #[.int .i64 0, .int .i64 0] 3)) (.cells #[.int .i64 1, .slice (some ⟨(w.heap.size + 1 + 1 + 1 + 1), 0, none⟩) 2 2] 51)) (.cells #[.int .i64 2, .slice (some ⟨w.heap.size, 0, none⟩) 1 1, .slice (some ⟨(w.heap.size + 1 + 1 + 1 + 1 + 1), 0, none⟩) 1 1] 25)) (.cells #[.int .i64 0, .int .i64 0, .int .i64 1, .int .i64 0] 49)) (.cells #[.int .i64 0, .int .i64 0, .int .i64 0] 3)) (.cells #[.int .i64 0, .int .i64 0, .int .i64 0] 3)) (.cells #[.int .i64 1, .slice (some ⟨(w.heap.size + 1 + 1 + 1 + 1 + 1 + 1 + 1 + 1), 0, none⟩) 3 3, .int .i64 2, .slice (some ⟨(w.heap.size + 1 + 1 + 1 + 1 + 1 + 1 + 1 + 1 + 1), 0, none⟩) 3 3] 51)) (.cells #[.int .i64 3, .slice (some ⟨(w.heap.size + 1 + 1 + 1 + 1 + 1 + 1 + 1), 0, none⟩) 2 2, .slice (some ⟨(w.heap.size + 1 + 1 + 1 + 1 + 1 + 1 + 1 + 1 + 1 + 1), 0, none⟩) 2 2] 25)) (w.heap.size + 1 + 1 + 1 + 1 + 1 + 1 + 1 + 1) 3 [.int .i64 0, .int .i64 0, .int .i64 0]) := by
    have h0 := Row.new (World.alloc (World.alloc (World.alloc (World.alloc (World.alloc (World.alloc (World.alloc (World.alloc w (.cells #[.int .i64 0, .int .i64 0] 49)) (.cells #[.int .i64 0, .int .i64 1] 3)) (.cells #[.int .i64 1, .slice (some ⟨(w.heap.size + 1), 0, none⟩) 2 2] 51)) (.cells #[.int .i64 2, .slice (some ⟨w.heap.size, 0, none⟩) 1 1, .slice (some ⟨(w.heap.size + 1 + 1), 0, none⟩) 1 1] 25)) (.cells #[.int .i64 0, .int .i64 0] 3)) (.cells #[.int .i64 1, .slice (some ⟨(w.heap.size + 1 + 1 + 1 + 1), 0, none⟩) 2 2] 51)) (.cells #[.int .i64 2, .slice (some ⟨w.heap.size, 0, none⟩) 1 1, .slice (some ⟨(w.heap.size + 1 + 1 + 1 + 1 + 1), 0, none⟩) 1 1] 25)) (.cells #[.int .i64 0, .int .i64 0, .int .i64 1, .int .i64 0] 49)) 3 [.int .i64 0, .int .i64 0, .int .i64 0]
    try simp only [World.size_alloc] at h0
    exact (((h0.alloc _).alloc _).alloc _)
  have R9 : Hid (Row (World.alloc (World.alloc (World.alloc (World.alloc (World.alloc (World.alloc (World.alloc (World.alloc (World.alloc (World.alloc (World.alloc (World.alloc w (.cells #[.int .i64 0, .int .i64 0] 49)) (.cells #[.int .i64 0, .int .i64 1] 3)) (.cells #[.int .i64 1, .slice (some ⟨(w.heap.size + 1), 0, none⟩) 2 2] 51)) (.cells #[.int .i64 2, .slice (some ⟨w.heap.size, 0, none⟩) 1 1, .slice (some ⟨(w.heap.size + 1 + 1), 0, none⟩) 1 1] 25)) (.cells #[.int .i64 0, .int .i64 0] 3)) (.cells #[.int .i64 1, .slice (some ⟨(w.heap.size + 1 + 1 + 1 + 1), 0, none⟩) 2 2] 51)) (.cells #[.int .i64 2, .slice (some ⟨w.heap.size, 0, none⟩) 1 1, .slice (some ⟨(w.heap.size + 1 + 1 + 1 + 1 + 1), 0, none⟩) 1 1] 25)) (.cells #[.int .i64 0, .int .i64 0, .int .i64 1, .int .i64 0] 49)) (.cells #[.int .i64 0, .int .i64 0, .int .i64 0] 3)) (.cells #[.int .i64 0, .int .i64 0, .int .i64 0] 3)) (.cells #[.int .i64 1, .slice (some ⟨(w.heap.size + 1 + 1 + 1 + 1 + 1 + 1 + 1 + 1), 0, none⟩) 3 3, .int .i64 2, .slice (some ⟨(w.heap.size + 1 + 1 + 1 + 1 + 1 + 1 + 1 + 1 + 1), 0, none⟩) 3 3] 51)) (.cells #[.int .i64 3, .slice (some ⟨(w.heap.size + 1 + 1 + 1 + 1 + 1 + 1 + 1), 0, none⟩) 2 2, .slice (some ⟨(w.heap.size + 1 + 1 + 1 + 1 + 1 + 1 + 1 + 1 + 1 + 1), 0, none⟩) 2 2] 25)) (w.heap.size + 1 + 1 + 1 + 1 + 1 + 1 + 1 + 1 + 1) 3 [.int .i64 0, .int .i64 0, .int .i64 0]) := by
    have h0 := Row.new (World.alloc (World.alloc (World.alloc (World.alloc (World.alloc (World.alloc (World.alloc (World.alloc (World.alloc w (.cells #[.int .i64 0, .int .i64 0] 49)) (.cells #[.int .i64 0, .int .i64 1] 3)) (.cells #[.int .i64 1, .slice (some ⟨(w.heap.size + 1), 0, none⟩) 2 2] 51)) (.cells #[.int .i64 2, .slice (some ⟨w.heap.size, 0, none⟩) 1 1, .slice (some ⟨(w.heap.size + 1 + 1), 0, none⟩) 1 1] 25)) (.cells #[.int .i64 0, .int .i64 0] 3)) (.cells #[.int .i64 1, .slice (some ⟨(w.heap.size + 1 + 1 + 1 + 1), 0, none⟩) 2 2] 51)) (.cells #[.int .i64 2, .slice (some ⟨w.heap.size, 0, none⟩) 1 1, .slice (some ⟨(w.heap.size + 1 + 1 + 1 + 1 + 1), 0, none⟩) 1 1] 25)) (.cells #[.int .i64 0, .int .i64 0, .int .i64 1, .int .i64 0] 49)) (.cells #[.int .i64 0, .int .i64 0, .int .i64 0] 3)) 3 [.int .i64 0, .int .i64 0, .int .i64 0]
    try simp only [World.size_alloc] at h0
    exact ((h0.alloc _).alloc _)
  have R10 : Hid (Row (World.alloc (World.alloc (World.alloc (World.alloc (World.alloc (World.alloc (World.alloc (World.alloc (World.alloc (World.alloc (World.alloc (World.alloc w (.cells #[.int .i64 0, .int .i64 0] 49)) (.cells #[.int .i64 0, .int .i64 1] 3)) (.cells #[.int .i64 1, .slice (some ⟨(w.heap.size + 1), 0, none⟩) 2 2] 51)) (.cells #[.int .i64 2, .slice (some ⟨w.heap.size, 0, none⟩) 1 1, .slice (some ⟨(w.heap.size + 1 + 1), 0, none⟩) 1 1] 25)) (.cells #[.int .i64 0, .int .i64 0] 3)) (.cells #[.int .i64 1, .slice (some ⟨(w.heap.size + 1 + 1 + 1 + 1), 0, none⟩) 2 2] 51)) (.cells #[.int .i64 2, .slice (some ⟨w.heap.size, 0, none⟩) 1 1, .slice (some ⟨(w.heap.size + 1 + 1 + 1 + 1 + 1), 0, none⟩) 1 1] 25)) (.cells #[.int .i64 0, .int .i64 0, .int .i64 1, .int .i64 0] 49)) (.cells #[.int .i64 0, .int .i64 0, .int .i64 0] 3)) (.cells #[.int .i64 0, .int .i64 0, .int .i64 0] 3)) (.cells #[.int .i64 1, .slice (some ⟨(w.heap.size + 1 + 1 + 1 + 1 + 1 + 1 + 1 + 1), 0, none⟩) 3 3, .int .i64 2, .slice (some ⟨(w.heap.size + 1 + 1 + 1 + 1 + 1 + 1 + 1 + 1 + 1), 0, none⟩) 3 3] 51)) (.cells #[.int .i64 3, .slice (some ⟨(w.heap.size + 1 + 1 + 1 + 1 + 1 + 1 + 1), 0, none⟩) 2 2, .slice (some ⟨(w.heap.size + 1 + 1 + 1 + 1 + 1 + 1 + 1 + 1 + 1 + 1), 0, none⟩) 2 2] 25)) (w.heap.size + 1 + 1 + 1 + 1 + 1 + 1 + 1 + 1 + 1 + 1) 51 [.int .i64 1, .slice (some ⟨(w.heap.size + 1 + 1 + 1 + 1 + 1 + 1 + 1 + 1), 0, none⟩) 3 3, .int .i64 2, .slice (some ⟨(w.heap.size + 1 + 1 + 1 + 1 + 1 + 1 + 1 + 1 + 1), 0, none⟩) 3 3]) := by
    have h0 := Row.new (World.alloc (World.alloc (World.alloc (World.alloc (World.alloc (World.alloc (World.alloc (World.alloc (World.alloc (World.alloc w (.cells #[.int .i64 0, .int .i64 0] 49)) (.cells #[.int .i64 0, .int .i64 1] 3)) (.cells #[.int .i64 1, .slice (some ⟨(w.heap.size + 1), 0, none⟩) 2 2] 51)) (.cells #[.int .i64 2, .slice (some ⟨w.heap.size, 0, none⟩) 1 1, .slice (some ⟨(w.heap.size + 1 + 1), 0, none⟩) 1 1] 25)) (.cells #[.int .i64 0, .int .i64 0] 3)) (.cells #[.int .i64 1, .slice (some ⟨(w.heap.size + 1 + 1 + 1 + 1), 0, none⟩) 2 2] 51)) (.cells #[.int .i64 2, .slice (some ⟨w.heap.size, 0, none⟩) 1 1, .slice (some ⟨(w.heap.size + 1 + 1 + 1 + 1 + 1), 0, none⟩) 1 1] 25)) (.cells #[.int .i64 0, .int .i64 0, .int .i64 1, .int .i64 0] 49)) (.cells #[.int .i64 0, .int .i64 0, .int .i64 0] 3)) (.cells #[.int .i64 0, .int .i64 0, .int .i64 0] 3)) 51 [.int .i64 1, .slice (some ⟨(w.heap.size + 1 + 1 + 1 + 1 + 1 + 1 + 1 + 1), 0, none⟩) 3 3, .int .i64 2, .slice (some ⟨(w.heap.size + 1 + 1 + 1 + 1 + 1 + 1 + 1 + 1 + 1), 0, none⟩) 3 3]
    try simp only [World.size_alloc] at h0
    exact (h0.alloc _)
  have RT3 : Hid (Row (World.alloc (World.alloc (World.alloc (World.alloc (World.alloc (World.alloc (World.alloc (World.alloc (World.alloc (World.alloc (World.alloc (World.alloc w (.cells #[.int .i64 0, .int .i64 0] 49)) (.cells #[.int .i64 0, .int .i64 1] 3)) (.cells #[.int .i64 1, .slice (some ⟨(w.heap.size + 1), 0, none⟩) 2 2] 51)) (.cells #[.int .i64 2, .slice (some ⟨w.heap.size, 0, none⟩) 1 1, .slice (some ⟨(w.heap.size + 1 + 1), 0, none⟩) 1 1] 25)) (.cells #[.int .i64 0, .int .i64 0] 3)) (.cells #[.int .i64 1, .slice (some ⟨(w.heap.size + 1 + 1 + 1 + 1), 0, none⟩) 2 2] 51)) (.cells #[.int .i64 2, .slice (some ⟨w.heap.size, 0, none⟩) 1 1, .slice (some ⟨(w.heap.size + 1 + 1 + 1 + 1 + 1), 0, none⟩) 1 1] 25)) (.cells #[.int .i64 0, .int .i64 0, .int .i64 1, .int .i64 0] 49)) (.cells #[.int .i64 0, .int .i64 0, .int .i64 0] 3)) (.cells #[.int .i64 0, .int .i64 0, .int .i64 0] 3)) (.cells #[.int .i64 1, .slice (some ⟨(w.heap.size + 1 + 1 + 1 + 1 + 1 + 1 + 1 + 1), 0, none⟩) 3 3, .int .i64 2, .slice (some ⟨(w.heap.size + 1 + 1 + 1 + 1 + 1 + 1 + 1 + 1 + 1), 0, none⟩) 3 3] 51)) (.cells #[.int .i64 3, .slice (some ⟨(w.heap.size + 1 + 1 + 1 + 1 + 1 + 1 + 1), 0, none⟩) 2 2, .slice (some ⟨(w.heap.size + 1 + 1 + 1 + 1 + 1 + 1 + 1 + 1 + 1 + 1), 0, none⟩) 2 2] 25)) (w.heap.size + 1 + 1 + 1 + 1 + 1 + 1 + 1 + 1 + 1 + 1 + 1) 25 [.int .i64 3, .slice (some ⟨(w.heap.size + 1 + 1 + 1 + 1 + 1 + 1 + 1), 0, none⟩) 2 2, .slice (some ⟨(w.heap.size + 1 + 1 + 1 + 1 + 1 + 1 + 1 + 1 + 1 + 1), 0, none⟩) 2 2]) := by
    have h0 := Row.new (World.alloc (World.alloc (World.alloc (World.alloc (World.alloc (World.alloc (World.alloc (World.alloc (World.alloc (World.alloc (World.alloc w (.cells #[.int .i64 0, .int .i64 0] 49)) (.cells #[.int .i64 0, .int .i64 1] 3)) (.cells #[.int .i64 1, .slice (some ⟨(w.heap.size + 1), 0, none⟩) 2 2] 51)) (.cells #[.int .i64 2, .slice (some ⟨w.heap.size, 0, none⟩) 1 1, .slice (some ⟨(w.heap.size + 1 + 1), 0, none⟩) 1 1] 25)) (.cells #[.int .i64 0, .int .i64 0] 3)) (.cells #[.int .i64 1, .slice (some ⟨(w.heap.size + 1 + 1 + 1 + 1), 0, none⟩) 2 2] 51)) (.cells #[.int .i64 2, .slice (some ⟨w.heap.size, 0, none⟩) 1 1, .slice (some ⟨(w.heap.size + 1 + 1 + 1 + 1 + 1), 0, none⟩) 1 1] 25)) (.cells #[.int .i64 0, .int .i64 0, .int .i64 1, .int .i64 0] 49)) (.cells #[.int .i64 0, .int .i64 0, .int .i64 0] 3)) (.cells #[.int .i64 0, .int .i64 0, .int .i64 0] 3)) (.cells #[.int .i64 1, .slice (some ⟨(w.heap.size + 1 + 1 + 1 + 1 + 1 + 1 + 1 + 1), 0, none⟩) 3 3, .int .i64 2, .slice (some ⟨(w.heap.size + 1 + 1 + 1 + 1 + 1 + 1 + 1 + 1 + 1), 0, none⟩) 3 3] 51)) 25 [.int .i64 3, .slice (some ⟨(w.heap.size + 1 + 1 + 1 + 1 + 1 + 1 + 1), 0, none⟩) 2 2, .slice (some ⟨(w.heap.size + 1 + 1 + 1 + 1 + 1 + 1 + 1 + 1 + 1 + 1), 0, none⟩) 2 2]
    try simp only [World.size_alloc] at h0
    exact h0
  have HW9 : Hid (Below w.heap.size w (World.alloc (World.alloc (World.alloc (World.alloc (World.alloc (World.alloc (World.alloc (World.alloc (World.alloc (World.alloc (World.alloc (World.alloc w (.cells #[.int .i64 0, .int .i64 0] 49)) (.cells #[.int .i64 0, .int .i64 1] 3)) (.cells #[.int .i64 1, .slice (some ⟨(w.heap.size + 1), 0, none⟩) 2 2] 51)) (.cells #[.int .i64 2, .slice (some ⟨w.heap.size, 0, none⟩) 1 1, .slice (some ⟨(w.heap.size + 1 + 1), 0, none⟩) 1 1] 25)) (.cells #[.int .i64 0, .int .i64 0] 3)) (.cells #[.int .i64 1, .slice (some ⟨(w.heap.size + 1 + 1 + 1 + 1), 0, none⟩) 2 2] 51)) (.cells #[.int .i64 2, .slice (some ⟨w.heap.size, 0, none⟩) 1 1, .slice (some ⟨(w.heap.size + 1 + 1 + 1 + 1 + 1), 0, none⟩) 1 1] 25)) (.cells #[.int .i64 0, .int .i64 0, .int .i64 1, .int .i64 0] 49)) (.cells #[.int .i64 0, .int .i64 0, .int .i64 0] 3)) (.cells #[.int .i64 0, .int .i64 0, .int .i64 0] 3)) (.cells #[.int .i64 1, .slice (some ⟨(w.heap.size + 1 + 1 + 1 + 1 + 1 + 1 + 1 + 1), 0, none⟩) 3 3, .int .i64 2, .slice (some ⟨(w.heap.size + 1 + 1 + 1 + 1 + 1 + 1 + 1 + 1 + 1), 0, none⟩) 3 3] 51)) (.cells #[.int .i64 3, .slice (some ⟨(w.heap.size + 1 + 1 + 1 + 1 + 1 + 1 + 1), 0, none⟩) 2 2, .slice (some ⟨(w.heap.size + 1 + 1 + 1 + 1 + 1 + 1 + 1 + 1 + 1 + 1), 0, none⟩) 2 2] 25))) := by show Below _ _ _; go_grown
  revert R0 R1 R2 RT1 R4 R5 RT2 R7 R8 R9 R10 RT3 HW9
  generalize (World.alloc (World.alloc (World.alloc (World.alloc (World.alloc (World.alloc (World.alloc (World.alloc (World.alloc (World.alloc (World.alloc (World.alloc w (.cells #[.int .i64 0, .int .i64 0] 49)) (.cells #[.int .i64 0, .int .i64 1] 3)) (.cells #[.int .i64 1, .slice (some ⟨(w.heap.size + 1), 0, none⟩) 2 2] 51)) (.cells #[.int .i64 2, .slice (some ⟨w.heap.size, 0, none⟩) 1 1, .slice (some ⟨(w.heap.size + 1 + 1), 0, none⟩) 1 1] 25)) (.cells #[.int .i64 0, .int .i64 0] 3)) (.cells #[.int .i64 1, .slice (some ⟨(w.heap.size + 1 + 1 + 1 + 1), 0, none⟩) 2 2] 51)) (.cells #[.int .i64 2, .slice (some ⟨w.heap.size, 0, none⟩) 1 1, .slice (some ⟨(w.heap.size + 1 + 1 + 1 + 1 + 1), 0, none⟩) 1 1] 25)) (.cells #[.int .i64 0, .int .i64 0, .int .i64 1, .int .i64 0] 49)) (.cells #[.int .i64 0, .int .i64 0, .int .i64 0] 3)) (.cells #[.int .i64 0, .int .i64 0, .int .i64 0] 3)) (.cells #[.int .i64 1, .slice (some ⟨(w.heap.size + 1 + 1 + 1 + 1 + 1 + 1 + 1 + 1), 0, none⟩) 3 3, .int .i64 2, .slice (some ⟨(w.heap.size + 1 + 1 + 1 + 1 + 1 + 1 + 1 + 1 + 1), 0, none⟩) 3 3] 51)) (.cells #[.int .i64 3, .slice (some ⟨(w.heap.size + 1 + 1 + 1 + 1 + 1 + 1 + 1), 0, none⟩) 2 2, .slice (some ⟨(w.heap.size + 1 + 1 + 1 + 1 + 1 + 1 + 1 + 1 + 1 + 1), 0, none⟩) 2 2] 25)) = w1
  intro R0 R1 R2 RT1 R4 R5 RT2 R7 R8 R9 R10 RT3 HW9
  have HB : Hid (Below w.heap.size w w1) := HW9.out
  have A1 : Hid (TAt w1 awT1 _ _ 1 1 _) := tat_one R0.out R2.out R1.out (by decide) (by decide)
  have A2 : Hid (TAt w1 awT2 _ _ 1 1 _) := tat_one R0.out R5.out R4.out (by decide) (by decide)
  have A3 : Hid (TAt w1 awT3 _ _ 2 2 _) := tat_two R7.out R10.out R8.out R9.out (by decide) (by decide) (by decide)
  clear R0 R1 R2 R4 R5 R7 R8 R9 R10 HW9
  have k0 := RT1.out.cell 0
  have k1 := RT1.out.cell 1
  have k2 := RT1.out.cell 2
  have kl := RT1.out.lt
  simp only [List.getElem?_cons_zero, List.getElem?_cons_succ] at k0 k1 k2
  refine (lower_any awT1 _ _ 1 1 1 1 _ _ A1.out (by omega)).mono ?_
  rw [aw_1.2]
  rintro e w2 ⟨GA1, OA1, gn1, gc1, on1, oc1, rfl, hc1, hb⟩
  rw [aw_1.1] at hc1 ⊢
  dsimp only
  obtain rfl : 1 = gn1 := hc1.gl
  obtain rfl : 1 = on1 := hc1.ol
  have HC1 : Hid (CAt w2 ⟨1, [⟨2, 0, 0⟩], [0]⟩ GA1 OA1 1 1) := hc1
  clear k0 k1 k2 kl hc1 RT1 A1
  have hn : Below w1.heap.size w1 w2 := below_next hb (by go_grown)
  have RT2 := (show Hid (Row _ _ _ _) from rowCells RT2.out hn)
  have RT3 := (show Hid (Row _ _ _ _) from rowCells RT3.out hn)
  have A2 := (show Hid (TAt w2 _ _ _ _ _ _) from A2.out.up hn)
  have A3 := (show Hid (TAt w2 _ _ _ _ _ _) from A3.out.up hn)
  have HB := (show Hid (Below w.heap.size w w2) from below_on2 HB.out hn)
  clear hb hn
  have k0 := RT2.out.cell 0
  have k1 := RT2.out.cell 1
  have k2 := RT2.out.cell 2
  have kl := RT2.out.lt
  simp only [List.getElem?_cons_zero, List.getElem?_cons_succ] at k0 k1 k2
  go_wp2_with fail
  refine (lower_any awT2 _ _ 1 1 1 1 _ _ (A2.out.up (by go_grown)) (by omega)).mono ?_
  rw [aw_2.2]
  rintro e w3 ⟨GA2, OA2, gn2, gc2, on2, oc2, rfl, hc2, hb⟩
  rw [aw_2.1] at hc2 ⊢
  dsimp only
  obtain rfl : 2 = gn2 := hc2.gl
  obtain rfl : 1 = on2 := hc2.ol
  have HC2 : Hid (CAt w3 ⟨1, [⟨2, 0, 0⟩, ⟨0, 0, 0⟩], [2]⟩ GA2 OA2 2 1) := hc2
  clear k0 k1 k2 kl hc2 RT2 A2
  have RC1 : Hid (Row w3 (w2.heap.size) 39 [.int .i64 1, .slice GA1 1 gc1, .slice OA1 1 oc1]) := by
    have h0 := Row.new w2 39 [.int .i64 1, .slice GA1 1 gc1, .slice OA1 1 oc1]
    try simp only [World.size_alloc] at h0
    exact rowCells h0 hb
  have hn : Below w2.heap.size w2 w3 := below_next hb (by go_grown)
  have RT3 := (show Hid (Row _ _ _ _) from rowCells RT3.out hn)
  have A3 := (show Hid (TAt w3 _ _ _ _ _ _) from A3.out.up hn)
  have HC1 := (show Hid (CAt w3 _ _ _ _ _) from HC1.out.up hn)
  have HB := (show Hid (Below w.heap.size w w3) from below_on2 HB.out hn)
  clear hb hn
  have k0 := RT3.out.cell 0
  have k1 := RT3.out.cell 1
  have k2 := RT3.out.cell 2
  have kl := RT3.out.lt
  simp only [List.getElem?_cons_zero, List.getElem?_cons_succ] at k0 k1 k2
  go_wp2_with fail
  refine (lInputs_any awT3 _ _ (some ⟨w3.heap.size + 1, 0, none⟩) 2 2 2 2 2 2 _ [2, 1] _ (A3.out.up (by go_grown)) (by
    have h0 := Row.new (World.alloc w3 (.cells #[.int .i64 1, .slice GA2 2 gc2, .slice OA2 1 oc2] 39)) 3 [.int .i64 2, .int .i64 1]
    try simp only [World.size_alloc] at h0
    exact h0.rd rfl) (by unfold maxLen; omega)).mono ?_
  rintro e w4 ⟨IA4, in4, ic4, rfl, hi4, him4, hb⟩
  rw [aw_3.1] at hi4
  rw [aw_3.2]
  obtain rfl : 4 = in4 := by have := hi4.1; rw [Nat.mul_one] at this; exact this
  have HI4 : Hid (Rd w4 w4.heap.size 1 IA4 4 (bools [false, true, true, false])) := hi4
  clear k0 k1 k2 kl hi4 him4
  have RC2 : Hid (Row w4 (w3.heap.size) 39 [.int .i64 1, .slice GA2 2 gc2, .slice OA2 1 oc2]) := by
    have h0 := Row.new w3 39 [.int .i64 1, .slice GA2 2 gc2, .slice OA2 1 oc2]
    try simp only [World.size_alloc] at h0
    exact rowCells (h0.alloc _) hb
  have hn : Below w3.heap.size w3 w4 := below_next hb (by go_grown)
  have RT3 := (show Hid (Row _ _ _ _) from rowCells RT3.out hn)
  have RC1 := (show Hid (Row _ _ _ _) from rowCells RC1.out hn)
  have A3 := (show Hid (TAt w4 _ _ _ _ _ _) from A3.out.up hn)
  have HC1 := (show Hid (CAt w4 _ _ _ _ _) from HC1.out.up hn)
  have HC2 := (show Hid (CAt w4 _ _ _ _ _) from HC2.out.up hn)
  have HB := (show Hid (Below w.heap.size w w4) from below_on2 HB.out hn)
  clear hb hn
  have k0 := RT3.out.cell 0
  have k1 := RT3.out.cell 1
  have k2 := RT3.out.cell 2
  have kl := RT3.out.lt
  simp only [List.getElem?_cons_zero, List.getElem?_cons_succ] at k0 k1 k2
  go_wp2_with fail
  refine (lInputs_any awT3 _ _ (some ⟨w4.heap.size, 0, none⟩) 2 2 2 2 2 2 _ [3, 1] _ (A3.out.up (by go_grown)) ((Row.new w4 3 [.int .i64 3, .int .i64 1]).rd rfl) (by unfold maxLen; omega)).mono ?_
  rintro e w5 ⟨IA5, in5, ic5, rfl, hi5, him5, hb⟩
  rw [aw_4]
  clear k0 k1 k2 kl hi5 him5
  have hn : Below w4.heap.size w4 w5 := below_next hb (by go_grown)
  have RC1 := (show Hid (Row _ _ _ _) from rowCells RC1.out hn)
  have RC2 := (show Hid (Row _ _ _ _) from rowCells RC2.out hn)
  have HC1 := (show Hid (CAt w5 _ _ _ _ _) from HC1.out.up hn)
  have HC2 := (show Hid (CAt w5 _ _ _ _ _) from HC2.out.up hn)
  have HI4 := (show Hid (Rd w5 _ _ _ _ _) from HI4.out.up hn)
  have HB := (show Hid (Below w.heap.size w w5) from below_on2 HB.out hn)
  clear hb hn
  clear RT3 A3
  go_wp2_with fail
  refine (lower_any awT4 none none 0 0 0 0 [] _ (tat_zero _) (by omega)).mono ?_
  rw [aw_5]
  rintro e w6 ⟨GA5, OA5, gn5, gc5, on5, oc5, rfl, hc5, hb⟩
  clear hc5
  generalize (lowR awT4).inputs = in6
  have hn : Below w5.heap.size w5 w6 := below_next hb (by go_grown)
  have RC1 := (show Hid (Row _ _ _ _) from rowCells RC1.out hn)
  have RC2 := (show Hid (Row _ _ _ _) from rowCells RC2.out hn)
  have HC1 := (show Hid (CAt w6 _ _ _ _ _) from HC1.out.up hn)
  have HC2 := (show Hid (CAt w6 _ _ _ _ _) from HC2.out.up hn)
  have HI4 := (show Hid (Rd w6 _ _ _ _ _) from HI4.out.up hn)
  have HB := (show Hid (Below w.heap.size w w6) from below_on2 HB.out hn)
  clear hb hn
  have k0 := RC1.out.cell 0
  have k1 := RC1.out.cell 1
  have k2 := RC1.out.cell 2
  have kl := RC1.out.lt
  simp only [List.getElem?_cons_zero, List.getElem?_cons_succ] at k0 k1 k2
  have hll : (w2.heap.size : Nat) < w6.heap.size := kl
  go_wp2_with fail
  refine (rSame_any 1 1 GA1 OA1 (some ⟨w6.heap.size + 1, 0, none⟩) (some ⟨w6.heap.size + 1 + 1, 0, none⟩) 1 gc1 1 oc1 1 1 1 1 [⟨2, 0, 0⟩] [⟨2, 0, 0⟩] [0] [0] _ (HC1.out.up (by go_grown)).gates (HC1.out.up (by go_grown)).outs (by unfold maxLen; omega) (by unfold maxLen; omega) ?h1 ?h2 (by unfold maxLen; omega) (by unfold maxLen; omega)).mono ?_
  case h1 =>
    have h0 := (Row.new (World.alloc w6 (.cells #[.int .i64 in6, .slice GA5 gn5 gc5, .slice OA5 on5 oc5] 39)) 53 [.int .i64 2, .int .i64 0, .int .i64 0]).alloc (.cells #[.int .i64 0] 3)
    try simp only [World.size_alloc] at h0
    exact h0.rd rfl
  case h2 =>
    have h0 := (Row.new (World.alloc (World.alloc w6 (.cells #[.int .i64 in6, .slice GA5 gn5 gc5, .slice OA5 on5 oc5] 39)) (.cells #[.int .i64 2, .int .i64 0, .int .i64 0] 53)) 3 [.int .i64 0])
    try simp only [World.size_alloc] at h0
    exact h0.rd rfl
  rw [show sameC ⟨1, [⟨2, 0, 0⟩], [0]⟩ ⟨1, [⟨2, 0, 0⟩], [0]⟩ = true from rfl]
  rintro e w7 ⟨rfl, hb⟩
  clear k0 k1 k2 kl hll
  have hn : Below w6.heap.size w6 w7 := below_next hb (by go_grown)
  have RC2 := (show Hid (Row _ _ _ _) from rowCells RC2.out hn)
  have HC2 := (show Hid (CAt w7 _ _ _ _ _) from HC2.out.up hn)
  have HI4 := (show Hid (Rd w7 _ _ _ _ _) from HI4.out.up hn)
  have HB := (show Hid (Below w.heap.size w w7) from below_on2 HB.out hn)
  clear hb hn
  clear RC1 HC1
  have k0 := RC2.out.cell 0
  have k1 := RC2.out.cell 1
  have k2 := RC2.out.cell 2
  have kl := RC2.out.lt
  simp only [List.getElem?_cons_zero, List.getElem?_cons_succ] at k0 k1 k2
  go_wp2_with fail
  refine (rSame_any 1 1 GA2 OA2 (some ⟨w7.heap.size, 0, none⟩) (some ⟨w7.heap.size + 1, 0, none⟩) 2 gc2 1 oc2 2 2 1 1 [⟨2, 0, 0⟩, ⟨0, 0, 0⟩] [⟨2, 0, 0⟩, ⟨0, 0, 0⟩] [2] [2] _ (HC2.out.up (by go_grown)).gates (HC2.out.up (by go_grown)).outs (by unfold maxLen; omega) (by unfold maxLen; omega) ?h1 ?h2 (by unfold maxLen; omega) (by unfold maxLen; omega)).mono ?_
  case h1 => exact ((Row.new w7 53 [.int .i64 2, .int .i64 0, .int .i64 0, .int .i64 0, .int .i64 0, .int .i64 0]).alloc (.cells #[.int .i64 2] 3)).rd rfl
  case h2 =>
    have h0 := (Row.new (World.alloc w7 (.cells #[.int .i64 2, .int .i64 0, .int .i64 0, .int .i64 0, .int .i64 0, .int .i64 0] 53)) 3 [.int .i64 2])
    try simp only [World.size_alloc] at h0
    exact h0.rd rfl
  rw [show sameC ⟨1, [⟨2, 0, 0⟩, ⟨0, 0, 0⟩], [2]⟩ ⟨1, [⟨2, 0, 0⟩, ⟨0, 0, 0⟩], [2]⟩ = true from rfl]
  rintro e w8 ⟨rfl, hb⟩
  clear k0 k1 k2 kl
  have hn : Below w7.heap.size w7 w8 := below_next hb (by go_grown)
  have HI4 := (show Hid (Rd w8 _ _ _ _ _) from HI4.out.up hn)
  have HB := (show Hid (Below w.heap.size w w8) from below_on2 HB.out hn)
  clear hb hn
  clear RC2 HC2
  go_wp2_with fail
  refine (lBools_any IA4 (some ⟨w8.heap.size, 0, none⟩) 4 4 ic4 4 [false, true, true, false] [false, true, true, false] _ (HI4.out.up (by go_grown)) ((Row.new w8 4 (bools [false, true, true, false])).rd rfl) (by unfold maxLen; omega) (by unfold maxLen; omega)).mono ?_
  rw [show decide ([false, true, true, false] = [false, true, true, false]) = true from rfl]
  rintro e w9 ⟨rfl, hb⟩
  have hn : Below w8.heap.size w8 w9 := below_next hb (by go_grown)
  have HB := (show Hid (Below w.heap.size w w9) from below_on2 HB.out hn)
  clear hb hn
  clear HI4
  have b2 : ((bitsF 2 : Nat) : Int) = 1 := rfl
  have b3 : ((bitsF 3 : Nat) : Int) = 2 := rfl
  have b8 : ((bitsF 8 : Nat) : Int) = 3 := rfl
  have b9 : ((bitsF 9 : Nat) : Int) = 0 := rfl
  go_wp2_with (first
    | (go_at_call 14; refine (lBits_any _ _).mono ?_; rintro e w10 ⟨rfl, rfl⟩)
    | (go_at_call 12; refine (lState_any (some ⟨w9.heap.size, 0, none⟩) 3 3 [false, true, true] _ ((Row.new w9 4 (bools [false, true, true])).rd rfl) (by unfold maxLen; omega)).mono ?_; rw [aw_6]; rintro e w10 ⟨rfl, rfl⟩))
  go_ret
  exact ⟨rfl, below_on2 HB.out (by go_grown)⟩
end Go.Proofs.Ytlkpdmdgeppmdaa
