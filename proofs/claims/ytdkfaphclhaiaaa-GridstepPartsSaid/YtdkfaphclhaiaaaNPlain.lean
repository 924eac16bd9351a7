/-
  The generations of a grid under a rule tree, as plain data. Nothing of the program stands here.
-/
import Derived.Test.YtdkfaphclhaiaaaGPlain
import Derived.Test.YtdkfaphclhaiaaaTLaw
namespace Go.Proofs.Ytdkfaphclhaiaaa
open Go.RowKit
set_option linter.unusedSimpArgs false
set_option linter.unusedVariables false
def ltStates (t : Tre) (s : Int) : Bool := decide (s < t.states)
def fitsN (t : Tre) (g : Grd) : Int := if rightT t = true then (if rightG g = true then (if g.cells.all (ltStates t) = true then 0 else 10) else 2) else 11
def hoodIn (g : Grd) (l : List Pt) (x y : Int) : List Int := l.map (fun p => getF g (x + p.x) (y + p.y))
def nextAt (t : Tre) (g : Grd) (x y : Int) : Int := valueT t (hoodIn g t.hood x y)
def nextTo (t : Tre) (g : Grd) (W k : Nat) : List Int := (List.range k).map (fun i => nextAt t g ((i % W : Nat) : Int) ((i / W : Nat) : Int))
def nextG (t : Tre) (g : Grd) : Grd := ⟨g.w, g.h, g.edge, nextTo t g g.w.toNat g.cells.length⟩
def genG (t : Tre) (g : Grd) : Nat → Grd
  | 0 => g
  | k + 1 => nextG t (genG t g k)
structure OkTG (t : Tre) (g : Grd) : Prop where
  rt : rightT t = true
  rg : rightG g = true
  lt : g.cells.all (ltStates t) = true
theorem fits_ok {t : Tre} {g : Grd} (h : fitsN t g = 0) : OkTG t g := by
  unfold fitsN at h
  split at h
  · rename_i h1
    split at h
    · rename_i h2
      split at h
      · rename_i h3
        exact ⟨h1, h2, h3⟩
      · exact absurd h (by decide)
    · exact absurd h (by decide)
  · exact absurd h (by decide)
theorem ok_fits {t : Tre} {g : Grd} (h : OkTG t g) : fitsN t g = 0 := by unfold fitsN; rw [if_pos h.rt, if_pos h.rg, if_pos h.lt]
theorem ltStates_at {t : Tre} {l : List Int} (h : l.all (ltStates t) = true) {k : Nat} (hk : k < l.length) : l.getD k 0 < t.states := by
  rw [List.all_eq_true] at h
  have := h _ (List.getElem_mem hk)
  rw [List.getD_eq_getElem?_getD, List.getElem?_eq_getElem hk]
  simpa [ltStates] using this
theorem states_bd {t : Tre} (h : rightT t = true) : 2 ≤ t.states ∧ t.states ≤ 8 := (rightT_parts h).2.1.1
theorem getF_bd {t : Tre} {g : Grd} (h : OkTG t g) (x y : Int) : 0 ≤ getF g x y ∧ getF g x y < t.states := by
  have hs := states_bd h.rt
  obtain ⟨h1, h2, h3⟩ := rightG_parts h.rg
  obtain ⟨⟨s1, s2⟩, ⟨s3, s4⟩, _⟩ := sizedF_parts h1
  unfold getF
  rw [if_pos h.rg]
  split
  · omega
  · rename_i hn
    have a1 := atF_bd x g.w g.edge s1
    have a2 := atF_bd y g.h g.edge s3
    have hp := place_bd (w := g.w) (h := g.h) (x := atF x g.w g.edge) (y := atF y g.h g.edge) (by omega) (by omega)
    have hk : (atF y g.h g.edge * g.w + atF x g.w g.edge).toNat < g.cells.length := by omega
    exact ⟨(stateOk_at h3 hk).1, ltStates_at h.lt hk⟩
theorem hoodIn_length (g : Grd) (l : List Pt) (x y : Int) : (hoodIn g l x y).length = l.length := by simp [hoodIn]
theorem hoodIn_getD (g : Grd) (l : List Pt) (x y : Int) (k : Nat) (h : k < l.length) : (hoodIn g l x y).getD k 0 = getF g (x + (l.getD k default).x) (y + (l.getD k default).y) := by
  unfold hoodIn
  rw [List.getD_eq_getElem?_getD, List.getElem?_map, List.getElem?_eq_getElem h, List.getD_eq_getElem?_getD, List.getElem?_eq_getElem h]; rfl
theorem hoodIn_all {t : Tre} {g : Grd} (h : OkTG t g) (l : List Pt) (x y : Int) : (hoodIn g l x y).all (stateIn t) = true := by
  rw [List.all_eq_true]
  intro s hs
  simp only [hoodIn, List.mem_map] at hs
  obtain ⟨p, _, rfl⟩ := hs
  exact decide_eq_true (getF_bd h _ _)
theorem hood_pos {t : Tre} (h : rightT t = true) : 1 ≤ t.hood.length ∧ t.hood.length ≤ 25 := by
  have := (rightT_parts h).1
  simp only [hoodOk, Bool.and_eq_true, decide_eq_true_eq] at this
  exact this.1
theorem nextAt_bd {t : Tre} {g : Grd} (h : OkTG t g) (x y : Int) : 0 ≤ nextAt t g x y ∧ nextAt t g x y < t.states := by
  have hl := hoodIn_length g t.hood x y
  have hp := hood_pos h.rt
  have := (walkT_at h.rt (hoodIn g t.hood x y) hl (fun j hj => stateIn_at (hoodIn_all h _ _ _) hj) (hoodIn g t.hood x y).length (Nat.le_refl _)).2 rfl (by omega)
  rw [List.take_length] at this
  exact this
theorem nextTo_length (t : Tre) (g : Grd) (W k : Nat) : (nextTo t g W k).length = k := by simp [nextTo]
theorem nextTo_succ (t : Tre) (g : Grd) (W k : Nat) : nextTo t g W (k + 1) = nextTo t g W k ++ [nextAt t g ((k % W : Nat) : Int) ((k / W : Nat) : Int)] := by simp [nextTo, List.range_succ]
theorem OkTG.next {t : Tre} {g : Grd} (h : OkTG t g) : OkTG t (nextG t g) := by
  have hs := states_bd h.rt
  obtain ⟨h1, h2, h3⟩ := rightG_parts h.rg
  have hm : ∀ s ∈ (nextG t g).cells, 0 ≤ s ∧ s < t.states := by
    intro s hs
    simp only [nextG, nextTo, List.mem_map] at hs
    obtain ⟨i, _, rfl⟩ := hs
    exact nextAt_bd h _ _
  refine ⟨h.rt, ?_, ?_⟩
  · unfold rightG
    rw [show sizedF (nextG t g).w (nextG t g).h (nextG t g).edge = true from h1, decide_eq_true (show ((nextG t g).cells.length : Int) = (nextG t g).w * (nextG t g).h by show ((nextTo t g _ _).length : Int) = _; rw [nextTo_length]; exact h2), Bool.true_and, Bool.true_and, List.all_eq_true]
    intro s hs'
    have := hm s hs'
    simp [stateOk]; omega
  · rw [List.all_eq_true]
    intro s hs'
    exact decide_eq_true (hm s hs').2
theorem OkTG.gen {t : Tre} {g : Grd} (h : OkTG t g) (k : Nat) : OkTG t (genG t g k) := by
  induction k with
  | zero => exact h
  | succ k ih => exact ih.next
theorem genG_shape (t : Tre) (g : Grd) (k : Nat) : (genG t g k).w = g.w ∧ (genG t g k).h = g.h ∧ (genG t g k).edge = g.edge ∧ (genG t g k).cells.length = g.cells.length := by
  induction k with
  | zero => exact ⟨rfl, rfl, rfl, rfl⟩
  | succ k ih =>
    obtain ⟨a, b, c, d⟩ := ih
    exact ⟨a, b, c, by show (nextTo _ _ _ _).length = _; rw [nextTo_length, d]⟩
theorem genG_add (t : Tre) (g : Grd) (a b : Nat) : genG t (genG t g a) b = genG t g (a + b) := by
  induction b with
  | zero => rfl
  | succ b ih => show nextG t _ = nextG t _; rw [ih]; rfl
end Go.Proofs.Ytdkfaphclhaiaaa
