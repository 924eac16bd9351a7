/-
  Plain laws of grids: Get's periods, Set and Get, From and Pattern, Roll and Roll back. Nothing of the program stands here.
-/
import Derived.Test.YtdkfaphclhaiaaaGPlain
namespace Go.Proofs.Ytdkfaphclhaiaaa
open Go.RowKit
set_option linter.unusedSimpArgs false
set_option linter.unusedVariables false

theorem gl_left {α : Type} (xs ys : List α) (k : Nat) (d : α) (h : k < xs.length) : (xs ++ ys).getD k d = xs.getD k d := by
  rw [List.getD_eq_getElem?_getD, List.getElem?_append_left h, List.getD_eq_getElem?_getD]
theorem gl_right {α : Type} (xs ys : List α) (k : Nat) (d : α) (h : xs.length ≤ k) : (xs ++ ys).getD k d = ys.getD (k - xs.length) d := by
  rw [List.getD_eq_getElem?_getD, List.getElem?_append_right h, List.getD_eq_getElem?_getD]
theorem gl_set (xs : List Int) (i k : Nat) (v : Int) (hi : i < xs.length) : (xs.set i v).getD k 0 = if k = i then v else xs.getD k 0 := by
  rw [List.getD_eq_getElem?_getD, List.getElem?_set, List.getD_eq_getElem?_getD]
  by_cases h : i = k
  · subst h; simp [hi]
  · rw [if_neg h, if_neg (fun e => h e.symm)]
theorem gl_zeros (n k : Nat) : (zeros n).getD k 0 = 0 := by
  rw [List.getD_eq_getElem?_getD, zeros, List.getElem?_replicate]; split <;> rfl
theorem gl_ext {xs ys : List Int} (hl : xs.length = ys.length) (h : ∀ k, k < xs.length → xs.getD k 0 = ys.getD k 0) : xs = ys := by
  apply List.ext_getElem hl
  intro k h1 h2
  have := h k h1
  simpa [List.getD_eq_getElem?_getD, List.getElem?_eq_getElem h1, List.getElem?_eq_getElem h2] using this
theorem gl_out {xs : List Int} {k : Nat} (h : xs.length ≤ k) : xs.getD k 0 = 0 := by
  rw [List.getD_eq_getElem?_getD, List.getElem?_eq_none h]; rfl
theorem gl_snoc {β : Type} [Inhabited β] (l : List β) (k : Nat) (h : k < l.length) : l.take (k + 1) = l.take k ++ [l.getD k default] := by
  rw [List.take_succ_eq_append_getElem h, List.getD_eq_getElem?_getD, List.getElem?_eq_getElem h]; rfl

/- Get's periods. -/
theorem at_torus (x w : Int) (hw : 1 ≤ w) : atF x w 1 = x % w := by
  unfold atF
  split
  · rename_i h; exact (Int.emod_eq_of_lt h.1 h.2).symm
  · rfl
theorem at_fold (x w : Int) (hw : 1 ≤ w) : atF x w 2 = foldF x w := by
  unfold atF
  split
  · rename_i h; exact (foldF_in x w h.1 h.2).symm
  · rfl
theorem at_dead (x w : Int) (h : ¬ (0 ≤ x ∧ x < w)) : atF x w 0 = -1 := by
  unfold atF; rw [if_neg h]; rfl
theorem fold_period (x w : Int) : foldF (x + 2 * w) w = foldF x w := by
  unfold foldF; rw [Int.add_emod_right]
theorem fold_mirror (x w : Int) (hw : 1 ≤ w) : foldF (-1 - x) w = foldF x w := by
  have h0 := Int.emod_nonneg x (show (2 * w) ≠ 0 by omega)
  have h1 := Int.emod_lt_of_pos x (show 0 < 2 * w by omega)
  have e : (-1 - x) % (2 * w) = 2 * w - 1 - x % (2 * w) := by
    have hx := Int.mul_ediv_add_emod x (2 * w)
    have : -1 - x = (2 * w - 1 - x % (2 * w)) + (2 * w) * (-(x / (2 * w)) - 1) := by
      rw [Int.mul_sub, Int.mul_neg]; omega
    rw [this, Int.add_mul_emod_self_left]
    exact Int.emod_eq_of_lt (by omega) (by omega)
  unfold foldF
  rw [e]
  split <;> split <;> omega
theorem get_torus (g : Grd) (x y : Int) (he : g.edge = 1) : getF g (x + g.w) y = getF g x y ∧ getF g x (y - g.h) = getF g x y := by
  unfold getF
  split
  · rename_i hr
    obtain ⟨hs, _, _⟩ := rightG_parts hr
    obtain ⟨hw, hh, _, _⟩ := sizedF_parts hs
    rw [he, at_torus _ _ hw.1, at_torus _ _ hh.1, at_torus _ _ hw.1, at_torus _ _ hh.1, Int.add_emod_right, Int.sub_emod_right]
    exact ⟨rfl, rfl⟩
  · exact ⟨rfl, rfl⟩
theorem get_fold (g : Grd) (x y : Int) (he : g.edge = 2) : getF g (x + 2 * g.w) y = getF g x y ∧ getF g (-1 - x) y = getF g x y ∧ getF g x (y - 2 * g.h) = getF g x y ∧ getF g x (-1 - y) = getF g x y := by
  unfold getF
  split
  · rename_i hr
    obtain ⟨hs, _, _⟩ := rightG_parts hr
    obtain ⟨hw, hh, _, _⟩ := sizedF_parts hs
    have e : foldF (y - 2 * g.h) g.h = foldF y g.h := by
      have := fold_period (y - 2 * g.h) g.h
      rw [← this]; congr 1; omega
    simp only [he, at_fold _ _ hw.1, at_fold _ _ hh.1, fold_period, fold_mirror _ _ hw.1, fold_mirror _ _ hh.1, e]
    exact ⟨trivial, trivial, trivial, trivial⟩
  · exact ⟨rfl, rfl, rfl, rfl⟩
theorem get_dead (g : Grd) (x y : Int) (he : g.edge = 0) (h : ¬ ((0 ≤ x ∧ x < g.w) ∧ (0 ≤ y ∧ y < g.h))) : getF g x y = 0 := by
  unfold getF
  split
  · rw [if_pos]
    rw [he]
    by_cases hx : 0 ≤ x ∧ x < g.w
    · right; rw [at_dead y g.h (fun hy => h ⟨hx, hy⟩)]; decide
    · left; rw [at_dead x g.w hx]; decide
  · rfl

/- Set, then Get. -/
theorem all_set (zs : List Int) (p : Int → Bool) (i : Nat) (v : Int) (h : zs.all p = true) (hv : p v = true) : (zs.set i v).all p = true := by
  rw [List.all_eq_true] at *
  intro x hx
  rcases List.mem_or_eq_of_mem_set hx with h' | rfl
  · exact h x h'
  · exact hv
theorem setErr_parts {g : Grd} {x y s : Int} (h : setErr g x y s = 0) : rightG g = true ∧ (0 ≤ x ∧ x < g.w) ∧ (0 ≤ y ∧ y < g.h) ∧ stateOk s = true := by
  unfold setErr at h
  split at h
  · rename_i h1
    split at h
    · rename_i h2
      split at h
      · rename_i h3; exact ⟨h1, h2.1, h2.2, h3⟩
      · omega
    · omega
  · omega
theorem set_right {g : Grd} {x y s : Int} (h : setErr g x y s = 0) : rightG (setR g x y s) = true := by
  obtain ⟨h1, h2, h3, h4⟩ := setErr_parts h
  obtain ⟨a, b, c⟩ := rightG_parts h1
  rw [setR, if_pos h]
  simp [rightG, a, b, all_set _ _ _ _ c h4]
theorem get_set (g : Grd) (x y s : Int) (h : setErr g x y s = 0) : getF (setR g x y s) x y = s := by
  have hr := set_right h
  obtain ⟨h1, h2, h3, h4⟩ := setErr_parts h
  obtain ⟨a, b, c⟩ := rightG_parts h1
  have hp := place_bd h2 h3
  unfold getF
  rw [if_pos hr, setR, if_pos h]
  have ex : atF x g.w g.edge = x := by unfold atF; rw [if_pos h2]
  have ey : atF y g.h g.edge = y := by unfold atF; rw [if_pos h3]
  simp only [ex, ey]
  rw [if_neg (by omega), gl_set _ _ _ _ (by omega), if_pos rfl]

/- From and Pattern. -/
def idx (w : Int) (c : Gt) : Nat := (c.a * w + c.op).toNat
theorem idx_lt {w h : Int} {c : Gt} (hc : inGrid w h c = true) : idx w c < (w * h).toNat ∧ (idx w c : Int) = c.a * w + c.op := by
  simp only [inGrid, decide_eq_true_eq] at hc
  have := place_bd hc.1 hc.2
  unfold idx
  omega
theorem idx_mod {w h : Int} {c : Gt} (hc : inGrid w h c = true) : (idx w c : Int) % w = c.op ∧ (idx w c : Int) / w = c.a := by
  have e := (idx_lt hc).2
  simp only [inGrid, decide_eq_true_eq] at hc
  rw [e, Int.add_comm]
  refine ⟨?_, ?_⟩
  · rw [Int.add_mul_emod_self_right, Int.emod_eq_of_lt hc.1.1 hc.1.2]
  · rw [Int.add_mul_ediv_right _ _ (by omega), Int.ediv_eq_zero_of_lt hc.1.1 hc.1.2]; omega
theorem idx_before {w h : Int} {c d : Gt} (hc : inGrid w h c = true) (hd : inGrid w h d = true) (hb : beforeC c d = true) : idx w c < idx w d := by
  have e1 := (idx_lt hc).2
  have e2 := (idx_lt hd).2
  simp only [inGrid, decide_eq_true_eq] at hc hd
  simp only [beforeC, decide_eq_true_eq] at hb
  rcases hb with hb | ⟨hb, hx⟩
  · have : (c.a + 1) * w ≤ d.a * w := Int.mul_le_mul_of_nonneg_right (by omega) (by omega)
    rw [Int.add_mul] at this
    omega
  · rw [hb] at e1; omega
theorem fill_length (w : Int) (cs : List Int) (p : List Gt) : (fill w cs p).length = cs.length := by
  induction p generalizing cs with
  | nil => rfl
  | cons c l ih => simp only [fill, List.foldl_cons] at *; rw [ih]; simp
theorem fill_snoc (w : Int) (cs : List Int) (p : List Gt) (c : Gt) : fill w cs (p ++ [c]) = (fill w cs p).set (idx w c) c.b := by simp [fill, List.foldl_append, idx]
theorem patTo_add (w : Int) (cs : List Int) (j m : Nat) (h : ∀ k, j ≤ k → cs.getD k 0 = 0) : patTo w cs (j + m) = patTo w cs j := by
  induction m with
  | zero => rfl
  | succ m ih =>
    rw [show j + (m + 1) = (j + m) + 1 from rfl, patTo_succ, ih]
    simp only [patAt]
    rw [if_pos (h _ (by omega)), List.append_nil]
theorem patTo_congr (w : Int) (cs ds : List Int) (j : Nat) (h : ∀ k, k < j → cs.getD k 0 = ds.getD k 0) : patTo w cs j = patTo w ds j := by
  induction j with
  | zero => rfl
  | succ j ih =>
    rw [patTo_succ, patTo_succ, ih (fun k hk => h k (by omega))]
    simp only [patAt]
    rw [h j (by omega)]

theorem patCells_at {p : List Gt} (h : rightP p = true) {k : Nat} (hk : k < p.length) : cellOk (p.getD k default) = true ∧ (k = 0 ∨ beforeC (p.getD (k - 1) default) (p.getD k default) = true) := by
  simp only [rightP, patCells, Bool.and_eq_true, decide_eq_true_eq] at h
  exact h.2 k hk
theorem getD_mem {β : Type} {l : List β} {k : Nat} (d : β) (h : k < l.length) : l.getD k d ∈ l := by
  rw [List.getD_eq_getElem?_getD, List.getElem?_eq_getElem h]; exact List.getElem_mem h

theorem fill_patTo (w h : Int) (p : List Gt) (hr : rightP p = true) (hin : p.all (inGrid w h) = true) (k : Nat) (hk : k ≤ p.length) :
    patTo w (fill w (zeros (w * h).toNat) (p.take k)) (w * h).toNat = p.take k ∧ ∀ j, (k = 0 ∨ idx w (p.getD (k - 1) default) < j) → (fill w (zeros (w * h).toNat) (p.take k)).getD j 0 = 0 := by
  rw [List.all_eq_true] at hin
  induction k with
  | zero =>
    refine ⟨?_, fun j _ => gl_zeros _ _⟩
    have := patTo_add w (fill w (zeros (w * h).toNat) (p.take 0)) 0 (w * h).toNat (fun k _ => gl_zeros _ _)
    rw [Nat.zero_add] at this
    rw [this]; rfl
  | succ k ih =>
    obtain ⟨ih1, ih2⟩ := ih (by omega)
    have hkl : k < p.length := by omega
    obtain ⟨hco, hbe⟩ := patCells_at hr hkl
    have hig := hin _ (getD_mem default hkl)
    rw [gl_snoc p k hkl, fill_snoc]
    have hL : (fill w (zeros (w * h).toNat) (p.take k)).length = (w * h).toNat := by rw [fill_length]; simp [zeros]
    have hz : ∀ j, idx w (p.getD k default) ≤ j → (fill w (zeros (w * h).toNat) (p.take k)).getD j 0 = 0 := by
      intro j hj
      apply ih2
      rcases hbe with h0 | hb
      · exact .inl h0
      · by_cases h0 : k = 0
        · exact .inl h0
        · have := idx_before (hin _ (getD_mem default (show k - 1 < p.length by omega))) hig hb
          exact .inr (by omega)
    generalize fill w (zeros (w * h).toNat) (p.take k) = cs at ih1 ih2 hL hz
    generalize hc : p.getD k default = c at hco hig hz
    obtain ⟨il, ie⟩ := idx_lt hig
    obtain ⟨im, id'⟩ := idx_mod hig
    simp only [cellOk, Bool.and_eq_true, decide_eq_true_eq] at hco
    refine ⟨?_, fun j hj => ?_⟩
    · obtain ⟨m, hm⟩ : ∃ m, (w * h).toNat = (idx w c + 1) + m := ⟨(w * h).toNat - (idx w c + 1), by omega⟩
      have e1 : patTo w (cs.set (idx w c) c.b) (w * h).toNat = patTo w (cs.set (idx w c) c.b) (idx w c + 1) := by
        rw [hm]
        refine patTo_add _ _ _ _ (fun j hj => ?_)
        rw [gl_set _ _ _ _ (by omega), if_neg (by omega)]
        exact hz j (by omega)
      have e2 : patTo w cs (w * h).toNat = patTo w cs (idx w c) := by
        rw [show (w * h).toNat = idx w c + (m + 1) by omega]
        exact patTo_add _ _ _ _ (fun j hj => hz j hj)
      rw [e1, patTo_succ, patTo_congr w _ cs (idx w c) (fun j hj => by rw [gl_set _ _ _ _ (by omega), if_neg (by omega)]), ← e2, ih1]
      congr 1
      simp only [patAt]
      rw [gl_set _ _ _ _ (by omega), if_pos rfl, if_neg (by omega), im, id']
    · have : idx w c < j := by
        rcases hj with h0 | hj
        · omega
        · rw [Nat.add_sub_cancel, hc] at hj; exact hj
      rw [gl_set _ _ _ _ (by omega), if_neg (by omega)]
      exact hz j (by omega)

theorem fromErr_parts {p : List Gt} {w h e : Int} (hk : fromErr p w h e = 0) : rightP p = true ∧ sizedF w h e = true ∧ p.all (inGrid w h) = true := by
  unfold fromErr at hk
  split at hk
  · rename_i h1
    split at hk
    · rename_i h2; exact ⟨h1.1, h1.2, h2⟩
    · omega
  · omega
theorem fill_ok (w h : Int) (p : List Gt) (cs : List Int) (hs : cs.all stateOk = true) (hp : ∀ c ∈ p, cellOk c = true) : (fill w cs p).all stateOk = true := by
  induction p generalizing cs with
  | nil => exact hs
  | cons c l ih =>
    refine ih (cs.set _ c.b) (all_set _ _ _ _ hs ?_) (fun d hd => hp d (List.mem_cons_of_mem _ hd))
    have := hp c (List.mem_cons_self ..)
    simp only [cellOk, stateOk, Bool.and_eq_true, decide_eq_true_eq] at *
    omega
theorem mem_getD {β : Type} [Inhabited β] {l : List β} {c : β} (h : c ∈ l) : ∃ k, k < l.length ∧ l.getD k default = c := by
  obtain ⟨k, hk, e⟩ := List.getElem_of_mem h
  exact ⟨k, hk, by rw [List.getD_eq_getElem?_getD, List.getElem?_eq_getElem hk]; exact e⟩
theorem zeros_ok (n : Nat) : (zeros n).all stateOk = true := by
  rw [List.all_eq_true]
  intro x hx
  rw [zeros, List.mem_replicate] at hx
  rw [hx.2]; rfl
theorem from_right {p : List Gt} {w h e : Int} (hk : fromErr p w h e = 0) : rightG (fromR p w h e) = true := by
  obtain ⟨h1, h2, h3⟩ := fromErr_parts hk
  obtain ⟨hw, hh, _⟩ := sizedF_parts h2
  have hp := prod_bd hw hh
  rw [fromR, if_pos hk]
  have ha := fill_ok w h p (zeros (w * h).toNat) (zeros_ok _) (fun c hc => by
    obtain ⟨k, hk', e'⟩ := mem_getD hc
    rw [← e']; exact (patCells_at h1 hk').1)
  have hlen : (fill w (zeros (w * h).toNat) p).length = (w * h).toNat := by rw [fill_length]; simp [zeros]
  simp only [rightG, h2, ha, hlen, Bool.true_and, Bool.and_true, decide_eq_true_eq]
  omega
/-- Pattern restores the pattern. -/
theorem pat_from (p : List Gt) (w h e : Int) (hk : fromErr p w h e = 0) : patF (fromR p w h e) = p := by
  have hr := from_right hk
  obtain ⟨h1, h2, h3⟩ := fromErr_parts hk
  rw [patF, if_pos hr, fromR, if_pos hk]
  show patTo w (fill w (zeros (w * h).toNat) p) (fill w (zeros (w * h).toNat) p).length = p
  have := (fill_patTo w h p h1 h3 p.length (Nat.le_refl _)).1
  rw [List.take_length] at this
  rw [fill_length]
  simpa [zeros] using this

/- The pattern of a grid. -/
theorem mem_patTo {w : Int} {cs : List Int} {n : Nat} {c : Gt} (h : c ∈ patTo w cs n) : ∃ k, k < n ∧ c = ⟨(k : Int) % w, (k : Int) / w, cs.getD k 0⟩ ∧ cs.getD k 0 ≠ 0 := by
  simp only [patTo, List.mem_flatMap, List.mem_range, patAt] at h
  obtain ⟨k, hk, hc⟩ := h
  by_cases h0 : cs.getD k 0 = 0
  · rw [if_pos h0] at hc; simp at hc
  · rw [if_neg h0] at hc
    exact ⟨k, hk, by simpa using hc, h0⟩
theorem place_lt {w h x y : Int} (hw : 1 ≤ w) {j k : Nat} (hjk : j < k) : beforeC ⟨(j : Int) % w, (j : Int) / w, x⟩ ⟨(k : Int) % w, (k : Int) / w, y⟩ = true := by
  simp only [beforeC, decide_eq_true_eq]
  have e1 := Int.mul_ediv_add_emod (j : Int) w
  have e2 := Int.mul_ediv_add_emod (k : Int) w
  have b1 := mod_bd (j : Int) w (by omega)
  have b2 := mod_bd (k : Int) w (by omega)
  rcases Int.lt_trichotomy ((j : Int) / w) ((k : Int) / w) with h | h | h
  · exact .inl h
  · right; rw [h] at e1; exact ⟨h, by omega⟩
  · exfalso
    have : w * ((k : Int) / w + 1) ≤ w * ((j : Int) / w) := Int.mul_le_mul_of_nonneg_left (by omega) (by omega)
    rw [Int.mul_add] at this
    omega
theorem patTo_length_le (w : Int) (cs : List Int) (n : Nat) : (patTo w cs n).length ≤ n := by
  induction n with
  | zero => simp [patTo]
  | succ n ih =>
    rw [patTo_succ, List.length_append]
    have : (patAt w cs n).length ≤ 1 := by unfold patAt; split <;> simp
    omega
/-- The last cell of a pattern so far lies below. -/
theorem patTo_chain (w : Int) (hw : 1 ≤ w) (cs : List Int) (n : Nat) : ∀ k, k < (patTo w cs n).length → k = 0 ∨ beforeC ((patTo w cs n).getD (k - 1) default) ((patTo w cs n).getD k default) = true := by
  induction n with
  | zero => intro k hk; simp [patTo] at hk
  | succ n ih =>
    intro k hk
    rw [patTo_succ] at hk ⊢
    by_cases hkl : k < (patTo w cs n).length
    · rw [gl_left _ _ _ _ hkl, gl_left _ _ _ _ (by omega)]
      exact ih k hkl
    · by_cases hk0 : k = 0
      · exact .inl hk0
      right
      unfold patAt at hk ⊢
      by_cases h0 : cs.getD n 0 = 0
      · rw [if_pos h0] at hk; simp at hk; omega
      · rw [if_neg h0] at hk ⊢
        simp at hk
        have hke : k = (patTo w cs n).length := by omega
        rw [gl_left _ _ _ _ (by omega), gl_right _ _ _ _ (by omega), hke, Nat.sub_self]
        obtain ⟨j, hj, e, _⟩ := mem_patTo (getD_mem (default : Gt) (show (patTo w cs n).length - 1 < (patTo w cs n).length by omega))
        rw [e]
        exact place_lt (h := w) hw hj
theorem ediv_bd {k : Nat} {w h : Int} (hw : 1 ≤ w) (hk : (k : Int) < w * h) : 0 ≤ (k : Int) / w ∧ (k : Int) / w < h := by
  refine ⟨Int.ediv_nonneg (by omega) (by omega), ?_⟩
  rw [Int.ediv_lt_iff_lt_mul (by omega), Int.mul_comm]
  exact hk
theorem pat_right {g : Grd} (hr : rightG g = true) : rightP (patF g) = true ∧ (patF g).all (inGrid g.w g.h) = true := by
  obtain ⟨hs, hl, ha⟩ := rightG_parts hr
  obtain ⟨hw, hh, hm, _⟩ := sizedF_parts hs
  rw [patF, if_pos hr]
  have hcell : ∀ c ∈ patTo g.w g.cells g.cells.length, inGrid g.w g.h c = true ∧ cellOk c = true := by
    intro c hc
    obtain ⟨k, hk, e, h0⟩ := mem_patTo hc
    have b1 := mod_bd (k : Int) g.w (by omega)
    have b2 := ediv_bd (k := k) (w := g.w) (h := g.h) hw.1 (by omega)
    have b3 := stateOk_at ha hk
    rw [e]
    simp only [inGrid, cellOk, placeOk, Bool.and_eq_true, decide_eq_true_eq]
    omega
  refine ⟨?_, ?_⟩
  · rw [rightP_true_all]
    · have := patTo_length_le g.w g.cells g.cells.length
      rw [decide_eq_true_eq]; omega
    · intro k hk
      exact ⟨(hcell _ (getD_mem default hk)).2, patTo_chain g.w hw.1 g.cells _ k hk⟩
  · rw [List.all_eq_true]
    exact fun c hc => (hcell c hc).1
theorem fill_take (w : Int) (hw : 1 ≤ w) (cs : List Int) (k : Nat) (hk : k ≤ cs.length) : ∀ j, (fill w (zeros cs.length) (patTo w cs k)).getD j 0 = if j < k then cs.getD j 0 else 0 := by
  induction k with
  | zero => intro j; rw [if_neg (by omega)]; exact gl_zeros _ _
  | succ k ih =>
    intro j
    have ih := ih (by omega)
    rw [patTo_succ]
    unfold patAt
    by_cases h0 : cs.getD k 0 = 0
    · rw [if_pos h0, List.append_nil, ih]
      by_cases hj : j = k
      · subst hj; rw [if_neg (by omega), if_pos (by omega), h0]
      · by_cases hjk : j < k
        · rw [if_pos hjk, if_pos (by omega)]
        · rw [if_neg hjk, if_neg (by omega)]
    · rw [if_neg h0, fill_snoc]
      have e : idx w ⟨(k : Int) % w, (k : Int) / w, cs.getD k 0⟩ = k := by
        unfold idx
        show ((k : Int) / w * w + (k : Int) % w).toNat = k
        have := Int.mul_ediv_add_emod (k : Int) w
        rw [Int.mul_comm w] at this
        omega
      rw [e, gl_set _ _ _ _ (by rw [fill_length]; simp [zeros]; omega), ih]
      by_cases hj : j = k
      · subst hj; rw [if_pos rfl, if_pos (by omega)]
      · rw [if_neg hj]
        by_cases hjk : j < k
        · rw [if_pos hjk, if_pos (by omega)]
        · rw [if_neg hjk, if_neg (by omega)]
/-- From restores the grid. -/
theorem from_pat (g : Grd) (hr : rightG g = true) : fromErr (patF g) g.w g.h g.edge = 0 ∧ fromR (patF g) g.w g.h g.edge = g := by
  obtain ⟨h1, h2⟩ := pat_right hr
  obtain ⟨hs, hl, ha⟩ := rightG_parts hr
  obtain ⟨hw, hh, hm, _⟩ := sizedF_parts hs
  have he : fromErr (patF g) g.w g.h g.edge = 0 := by
    unfold fromErr; rw [if_pos ⟨h1, hs⟩, if_pos h2]
  refine ⟨he, ?_⟩
  rw [fromR, if_pos he]
  have hp := prod_bd hw hh
  have hz : (g.w * g.h).toNat = g.cells.length := by omega
  have : fill g.w (zeros (g.w * g.h).toNat) (patF g) = g.cells := by
    rw [hz, patF, if_pos hr]
    refine gl_ext (by rw [fill_length]; simp [zeros]) (fun k hk => ?_)
    rw [fill_length] at hk
    simp [zeros] at hk
    rw [fill_take g.w hw.1 g.cells g.cells.length (Nat.le_refl _), if_pos hk]
  rw [this]

/- Roll, and back. -/
theorem flat_row (f : Nat → Nat → Int) (w : Nat) (k : Nat) : ((List.range k).flatMap (fun y => (List.range w).map (f y))).length = k * w := by
  induction k with
  | zero => simp
  | succ k ih => simp only [List.range_succ, List.flatMap_append, List.length_append, List.length_flatMap, List.flatMap_cons, List.flatMap_nil, List.append_nil] at *; rw [ih]; simp [Nat.add_mul]
theorem flat_at (f : Nat → Nat → Int) (w : Nat) (k y x : Nat) (hy : y < k) (hx : x < w) : ((List.range k).flatMap (fun y => (List.range w).map (f y))).getD (y * w + x) 0 = f y x := by
  induction k with
  | zero => omega
  | succ k ih =>
    have hl := flat_row f w k
    rw [List.range_succ, List.flatMap_append]
    by_cases h : y < k
    · have hb : y * w + x < k * w := by
        have : (y + 1) * w ≤ k * w := Nat.mul_le_mul_right _ (by omega)
        rw [Nat.add_mul] at this; omega
      rw [gl_left _ _ _ _ (by rw [hl]; exact hb)]
      exact ih h
    · have : y = k := by omega
      subst this
      rw [gl_right _ _ _ _ (by rw [hl]; omega), hl, Nat.add_sub_cancel_left]
      simp [List.getD_eq_getElem?_getD, List.getElem?_map, List.getElem?_range hx]
theorem rollTo_length (w h dx dy : Int) (cs : List Int) (k : Nat) : (rollTo w h dx dy cs k).length = k * w.toNat := flat_row (fun y x => cs.getD (rollAt w h dx dy (x : Nat) y).toNat 0) w.toNat k
theorem rollTo_at (w h dx dy : Int) (cs : List Int) (k y x : Nat) (hy : y < k) (hx : x < w.toNat) : (rollTo w h dx dy cs k).getD (y * w.toNat + x) 0 = cs.getD (rollAt w h dx dy x y).toNat 0 := flat_at (fun y x => cs.getD (rollAt w h dx dy (x : Nat) y).toNat 0) w.toNat k y x hy hx
theorem rollErr_parts {g : Grd} (h : rollErr g = 0) : rightG g = true ∧ g.edge = 1 := by
  unfold rollErr at h
  split at h
  · assumption
  · omega
theorem rollAt_bd (w h dx dy x y : Int) (hw : 1 ≤ w) (hh : 1 ≤ h) : 0 ≤ rollAt w h dx dy x y ∧ rollAt w h dx dy x y < w * h := place_bd (mod_bd _ w (by omega)) (mod_bd _ h (by omega))
theorem roll_right {g : Grd} {dx dy : Int} (h : rollErr g = 0) : rightG (rollR g dx dy) = true := by
  obtain ⟨hr, he⟩ := rollErr_parts h
  obtain ⟨hs, hl, ha⟩ := rightG_parts hr
  obtain ⟨hw, hh, hm, _⟩ := sizedF_parts hs
  have hp := prod_bd hw hh
  rw [rollR, if_pos h]
  have hall : (rollTo g.w g.h dx dy g.cells g.h.toNat).all stateOk = true := by
    rw [List.all_eq_true]
    intro x hx
    simp only [rollTo, rollRow, List.mem_flatMap, List.mem_map, List.mem_range] at hx
    obtain ⟨y, _, x', _, e⟩ := hx
    have hb := rollAt_bd g.w g.h dx dy x' y hw.1 hh.1
    have := stateOk_at ha (k := (rollAt g.w g.h dx dy x' y).toNat) (by omega)
    rw [← e]; simpa [stateOk] using this
  have hlen : ((rollTo g.w g.h dx dy g.cells g.h.toNat).length : Int) = g.w * g.h := by
    rw [rollTo_length, Int.natCast_mul, Int.toNat_of_nonneg (by omega), Int.toNat_of_nonneg (by omega), Int.mul_comm]
  simp only [rightG, hs, hall, hlen, Bool.true_and, Bool.and_true, decide_eq_true_eq]
theorem sub_sub_mod (x d w : Int) : ((x - (-d) % w) % w - d % w) % w = x % w := by
  rw [Int.sub_emod ((x - (-d) % w) % w), Int.emod_emod, Int.emod_emod, ← Int.sub_emod, Int.sub_emod, Int.sub_emod x, Int.emod_emod, ← Int.sub_emod x, ← Int.sub_emod]
  congr 1; omega
theorem nat_place (w : Nat) (hw : 0 < w) (k : Nat) : k = k / w * w + k % w := by
  have := Nat.div_add_mod k w
  rw [Nat.mul_comm] at this; omega
theorem roll_back (g : Grd) (dx dy : Int) (h : rollErr g = 0) : rollErr (rollR g dx dy) = 0 ∧ rollR (rollR g dx dy) (-dx) (-dy) = g := by
  have hr' := roll_right (dx := dx) (dy := dy) h
  obtain ⟨hr, he⟩ := rollErr_parts h
  obtain ⟨hs, hl, ha⟩ := rightG_parts hr
  obtain ⟨hw, hh, hm, _⟩ := sizedF_parts hs
  have hp := prod_bd hw hh
  have e1 : rollErr (rollR g dx dy) = 0 := by
    have : (rollR g dx dy).edge = 1 := by rw [rollR, if_pos h]; exact he
    unfold rollErr; rw [if_pos ⟨hr', this⟩]
  refine ⟨e1, ?_⟩
  rw [rollR, if_pos e1]
  have eg : rollR g dx dy = { g with cells := rollTo g.w g.h dx dy g.cells g.h.toNat } := by rw [rollR, if_pos h]
  rw [eg]
  have ec : rollTo g.w g.h (-dx) (-dy) (rollTo g.w g.h dx dy g.cells g.h.toNat) g.h.toNat = g.cells := by
    have hlen : g.h.toNat * g.w.toNat = g.cells.length := by
      have : ((g.h.toNat * g.w.toNat : Nat) : Int) = g.w * g.h := by
        rw [Int.natCast_mul, Int.toNat_of_nonneg (by omega), Int.toNat_of_nonneg (by omega), Int.mul_comm]
      omega
    refine gl_ext (by rw [rollTo_length, hlen]) (fun k hk => ?_)
    rw [rollTo_length] at hk
    have hw0 : 0 < g.w.toNat := by omega
    have hx : k % g.w.toNat < g.w.toNat := Nat.mod_lt _ hw0
    have hy : k / g.w.toNat < g.h.toNat := by rw [Nat.div_lt_iff_lt_mul hw0]; exact hk
    have hk' := nat_place g.w.toNat hw0 k
    generalize k / g.w.toNat = y at hy hk'
    generalize k % g.w.toNat = x at hx hk'
    subst hk'
    rw [rollTo_at _ _ _ _ _ _ _ _ hy hx]
    have b := mod_bd ((x : Int) - (-dx) % g.w) g.w (by omega)
    have b' := mod_bd ((y : Int) - (-dy) % g.h) g.h (by omega)
    have hX : ((x : Int) - (-dx) % g.w) % g.w = (((x : Int) - (-dx) % g.w) % g.w).toNat := by omega
    have hY : ((y : Int) - (-dy) % g.h) % g.h = (((y : Int) - (-dy) % g.h) % g.h).toNat := by omega
    have hi : (rollAt g.w g.h (-dx) (-dy) x y).toNat = (((y : Int) - (-dy) % g.h) % g.h).toNat * g.w.toNat + (((x : Int) - (-dx) % g.w) % g.w).toNat := by
      have : rollAt g.w g.h (-dx) (-dy) x y = (((((y : Int) - (-dy) % g.h) % g.h).toNat * g.w.toNat + (((x : Int) - (-dx) % g.w) % g.w).toNat : Nat) : Int) := by
        rw [Int.natCast_add, Int.natCast_mul, ← hX, ← hY, Int.toNat_of_nonneg (by omega)]; rfl
      rw [this, Int.toNat_natCast]
    rw [hi, rollTo_at _ _ _ _ _ _ _ _ (by omega) (by omega), ← hX, ← hY]
    congr 1
    unfold rollAt
    rw [sub_sub_mod, sub_sub_mod, Int.emod_eq_of_lt (by omega) (by omega), Int.emod_eq_of_lt (by omega) (by omega)]
    have : (y : Int) * g.w + x = ((y * g.w.toNat + x : Nat) : Int) := by
      rw [Int.natCast_add, Int.natCast_mul, Int.toNat_of_nonneg (by omega)]
    rw [this, Int.toNat_natCast]
  simp only [ec]
end Go.Proofs.Ytdkfaphclhaiaaa
