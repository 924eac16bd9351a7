/-
  slices.IndexFunc and slices.ContainsFunc at integers, for whatever predicate.
-/
import Derived.Test.YtamijjpnklbgnaaProg
import Derived.Test.YtamijjpnklbgnaaBase
namespace Go.Proofs.Ytamijjpnklbgnaa
open Go.RowKit
set_option linter.unusedSimpArgs false
set_option linter.unusedVariables false

/-- What is asked of a predicate at integers that lies in world w. -/
def PredInts (P : Program) (g : Nat) (lb : Array Value) (p : Int → Bool) (zs : List Int) (w : World) : Prop :=
  ∀ (W : World) (x : Int), x ∈ zs → Below w.heap.size w W → Calls P g (#[.int .i64 x] ++ lb) W fun e w' => e = .returned (.bool (p x)) ∧ Below w.heap.size w w'

/-- The first place at which p holds; -1. -/
def findI (p : Int → Bool) (zs : List Int) : Int := match zs.findIdx? p with | some i => i | none => -1

theorem findI_hit (p : Int → Bool) (zs : List Int) (k : Nat) (hk : k < zs.length) (hp : p (zs.getD k 0) = true) (hno : ∀ j, j < k → p (zs.getD j 0) = false) : findI p zs = k := by
  have hg : zs.getD k 0 = zs[k] := by simp [List.getD_eq_getElem?_getD, List.getElem?_eq_getElem hk]
  have : zs.findIdx? p = some k := by
    rw [List.findIdx?_eq_some_iff_getElem]
    refine ⟨hk, by rw [← hg]; exact hp, fun j hj => ?_⟩
    have := hno j hj
    simp [List.getD_eq_getElem?_getD, List.getElem?_eq_getElem (show j < zs.length by omega)] at this
    simp [this]
  simp [findI, this]
theorem findI_miss (p : Int → Bool) (zs : List Int) (hno : ∀ j, j < zs.length → p (zs.getD j 0) = false) : findI p zs = -1 := by
  have : zs.findIdx? p = none := by
    rw [List.findIdx?_eq_none_iff]
    intro x hx
    obtain ⟨j, hj, rfl⟩ := List.getElem_of_mem hx
    have := hno j hj
    simpa [List.getD_eq_getElem?_getD, List.getElem?_eq_getElem hj] using this
  simp [findI, this]
theorem findI_nonneg (p : Int → Bool) (zs : List Int) : decide (0 ≤ findI p zs) = zs.any p := by
  unfold findI
  cases h : zs.findIdx? p with
  | none => rw [List.findIdx?_eq_none_iff] at h; simp; intro x hx; simpa using h x hx
  | some i => 
    rw [List.findIdx?_eq_some_iff_getElem] at h
    obtain ⟨hi, hp, _⟩ := h
    simp
    exact ⟨_, List.getElem_mem hi, hp⟩

set_option maxHeartbeats 400000 in
theorem indexFunc_ints (A : Option Addr) (n c : Nat) (zs : List Int) (g : Nat) (lb : Array Value) (p : Int → Bool) (w : World)
    (eg : ∀ args w, (callFunc g args).run Try.prog w = .ok (.enter g args) w)
    (hr : Rd w w.heap.size 1 A n (ints zs)) (hbig : n ≤ 9223372036854775807) (hp : PredInts Try.prog g lb p zs w) :
    Calls Try.prog 67 #[.slice A n c, .func (.func g) #[] lb] w fun e w' => e = .returned (.int .i64 (findI p zs)) ∧ Below w.heap.size w w' := by
  have hl : zs.length = n := by have := hr.1; simpa using this
  have HL : Hid (zs.length = n) := hl
  have HR : Hid (Rd w w.heap.size 1 A n (ints zs)) := hr
  have HP : Hid (PredInts Try.prog g lb p zs w) := hp
  clear hl hr hp
  go_enter Try.func67, Try.ntmps67
  go_wp2
  go_loopg [5, 8] n (fun gg _ s8 wr => ∃ kk : Nat, kk ≤ n ∧ n - kk ≤ gg ∧ s8 = .int .i64 kk ∧ Aside (Below w.heap.size w wr) ∧ Aside (∀ j, j < kk → p (zs.getD j 0) = false))
  case atStart => exact ⟨0, Nat.zero_le _, by omega, rfl, Below.refl _ w, fun j hj => absurd hj (Nat.not_lt_zero _)⟩
  case round =>
    obtain ⟨kk, hkk, hg, rfl, BW, AA⟩ := hrel
    by_cases hlt : kk < n
    · have hltz : (kk : Int) < (n : Int) := by omega
      obtain ⟨ad, rfl, hb, hcell0⟩ := HR.out.int hlt
      have hcell : wr.cell? (ad.add kk) = some (.int .i64 (zs.getD kk 0)) := (BW.out.cell (by rw [add_block]; exact hb)).trans hcell0
      clear hcell0
      have hcall := HP.out wr (zs.getD kk 0) (by rw [List.getD_eq_getElem?_getD, List.getElem?_eq_getElem (by rw [HL.out]; exact hlt)]; exact List.getElem_mem _) BW.out
      generalize hy : zs.getD kk 0 = y at hcell hcall
      have HY : Aside (zs.getD kk 0 = y) := hy
      clear hy
      cases hq : p y with
      | true =>
        rw [hq] at hcall
        go_wp2_with fail
        refine hcall.mono ?_
        rintro e w' ⟨rfl, hb'⟩
        go_wp2
        go_ret
        refine ⟨?_, hb'⟩
        rw [findI_hit p zs kk (by rw [HL.out]; exact hlt) (by rw [HY.out]; exact hq) AA.out]
        rfl
      | false =>
        rw [hq] at hcall
        go_wp2_with fail
        refine hcall.mono ?_
        rintro e w' ⟨rfl, hb'⟩
        go_wp2
        go_roundg (n - (kk + 1))
        case measure => omega
        case rel =>
          refine ⟨kk + 1, by omega, by omega, by go_num, hb', (show Aside _ from fun j hj => ?_)⟩
          by_cases e : j = kk
          · subst e
            rw [HY.out]; exact hq
          · exact AA.out j (by omega)
    · have hltz : ¬ (kk : Int) < (n : Int) := by omega
      have : kk = n := by omega
      subst this
      go_wp2
      go_ret
      refine ⟨?_, BW.out⟩
      rw [findI_miss p zs (fun j hj => AA.out j (by rw [HL.out] at hj; exact hj))]
      rfl

theorem containsFunc_ints (A : Option Addr) (n c : Nat) (zs : List Int) (g : Nat) (lb : Array Value) (p : Int → Bool) (w : World)
    (eg : ∀ args w, (callFunc g args).run Try.prog w = .ok (.enter g args) w)
    (hr : Rd w w.heap.size 1 A n (ints zs)) (hbig : n ≤ 9223372036854775807) (hp : PredInts Try.prog g lb p zs w) :
    Calls Try.prog 51 #[.slice A n c, .func (.func g) #[] lb] w fun e w' => e = .returned (.bool (zs.any p)) ∧ Below w.heap.size w w' := by
  rw [← findI_nonneg]
  go_enter Try.func51, Try.ntmps51
  go_wp2_with (go_at_call 67; refine (indexFunc_ints A n c zs g lb p _ eg hr hbig hp).mono ?_; rintro e w' ⟨rfl, hb'⟩)
  go_ret
  exact ⟨rfl, hb'⟩
end Go.Proofs.Ytamijjpnklbgnaa
