/-
  Bit planes, plain: unpacking what was packed; moved planes. Nothing of the program stands here.
-/
import Derived.Test.YtfknooffjhncgaaPPlain
namespace Go.Proofs.Ytfknooffjhncgaa
open Go.RowKit
set_option linter.unusedSimpArgs false
set_option linter.unusedVariables false

theorem tbit_nat (s b : Nat) : tbit (s : Int) b = decide (s / 2 ^ b % 2 = 1) := by
  unfold tbit
  have : ((s : Int) / 2 ^ b % 2) = ((s / 2 ^ b % 2 : Nat) : Int) := by simp
  rw [this]
  rw [Bool.eq_iff_iff, decide_eq_true_iff, decide_eq_true_iff]
  omega
/-- The bits of a number make it up. -/
theorem stateTo_of (n : Nat) (ws : List (List (BitVec 64))) (x y m : Nat) (s : Nat) (h : ∀ b, b < m → bitW n (ws.getD b []) x y = tbit (s : Int) b) : stateTo n ws x y m = ((s % 2 ^ m : Nat) : Int) := by
  induction m with
  | zero => simp [stateTo, Nat.mod_one]
  | succ m ih =>
    rw [stateTo, ih (fun b hb => h b (by omega)), h m (by omega), tbit_nat, Nat.pow_succ, Nat.mod_mul]
    have h2 := Nat.mod_two_eq_zero_or_one (s / 2 ^ m)
    rcases h2 with e | e
    · rw [e]; simp
    · rw [e]; simp
theorem packErr_parts {g : Grd} {bits : Int} (h : packErr g bits = 0) : rightG g = true ∧ 1 ≤ bits ∧ bits ≤ 3 ∧ ∀ i, i < g.cells.length → 0 ≤ g.cells.getD i 0 ∧ g.cells.getD i 0 < 2 ^ bits.toNat := by
  unfold packErr at h
  split at h
  · rename_i h1
    split at h
    · rename_i h2
      refine ⟨h1.1, h1.2.1, h1.2.2, fun i hi => ⟨(stateOk_at (rightG_parts h1.1).2.2 hi).1, ?_⟩⟩
      rw [List.all_eq_true] at h2
      have := h2 _ (List.getElem_mem hi)
      rw [List.getD_eq_getElem?_getD, List.getElem?_eq_getElem hi]
      exact of_decide_eq_true this
    · omega
  · omega
theorem pack_get (g : Grd) (nb b : Nat) (hb : b < nb) : (packP g nb).words.getD b [] = planeF g.w.toNat g.h.toNat g.cells b := by
  show ((List.range nb).map _).getD b [] = _
  rw [List.getD_eq_getElem?_getD, List.getElem?_map, List.getElem?_range hb]; rfl
theorem pack_len (g : Grd) (nb : Nat) : (packP g nb).words.length = nb := by show ((List.range nb).map _).length = nb; simp
theorem pack_right {g : Grd} {bits : Int} (h : packErr g bits = 0) : rightPl (packP g bits.toNat) = true := by
  obtain ⟨h1, h2, h3, h4⟩ := packErr_parts h
  obtain ⟨hs, _, _⟩ := rightG_parts h1
  obtain ⟨s1, s2, _⟩ := sizedF_parts hs
  simp only [rightPl, Bool.and_eq_true, decide_eq_true_eq, List.all_eq_true]
  refine ⟨hs, by rw [pack_len]; omega, fun l hl => ?_⟩
  obtain ⟨b, hb, rfl⟩ := List.mem_map.1 hl
  exact planeF_ok _ _ (by show 1 ≤ g.w.toNat; omega)
/-- Unpacking what was packed. -/
theorem unpack_pack {g : Grd} {bits : Int} (h : packErr g bits = 0) : unpackG (packP g bits.toNat) = g := by
  obtain ⟨h1, h2, h3, h4⟩ := packErr_parts h
  obtain ⟨hs, hl, _⟩ := rightG_parts h1
  obtain ⟨s1, s2, _⟩ := sizedF_parts hs
  have hW : 1 ≤ g.w.toNat := by omega
  have hlen : g.cells.length = g.h.toNat * g.w.toNat := by
    have : ((g.h.toNat * g.w.toNat : Nat) : Int) = g.w * g.h := by rw [Int.natCast_mul, Int.toNat_of_nonneg (by omega), Int.toNat_of_nonneg (by omega), Int.mul_comm]
    omega
  have hc : cellsP (packP g bits.toNat) = g.cells := by
    apply List.ext_getElem (by rw [cellsP_length]; exact hlen.symm)
    intro i hi hi'
    have hi2 : i < g.h.toNat * g.w.toNat := by omega
    have hy : i / g.w.toNat < g.h.toNat := Nat.div_lt_of_lt_mul (by rw [Nat.mul_comm]; exact hi2)
    have hx : i % g.w.toNat < g.w.toNat := Nat.mod_lt _ (by omega)
    have hdm : i / g.w.toNat * g.w.toNat + i % g.w.toNat = i := Nat.div_add_mod' i _
    have e1 := cellsP_get (packP g bits.toNat) (i % g.w.toNat) (i / g.w.toNat) hx hy
    have e0 : (packP g bits.toNat).w.toNat = g.w.toNat := rfl
    rw [e0, hdm] at e1
    have g1 : (cellsP (packP g bits.toNat)).getD i 0 = (cellsP (packP g bits.toNat))[i] := by rw [List.getD_eq_getElem?_getD, List.getElem?_eq_getElem hi]; rfl
    have g2 : g.cells.getD i 0 = g.cells[i] := by rw [List.getD_eq_getElem?_getD, List.getElem?_eq_getElem hi']; rfl
    rw [← g1, e1, ← g2, pack_len]
    obtain ⟨c1, c2⟩ := h4 i hi'
    obtain ⟨s, hs'⟩ : ∃ s : Nat, g.cells.getD i 0 = (s : Int) := ⟨_, (Int.toNat_of_nonneg c1).symm⟩
    rw [stateTo_of _ _ _ _ _ s (fun b hb => by rw [pack_get _ _ _ hb, planeF_bit _ _ _ _ hW hx hy, hdm, hs'])]
    rw [hs'] at c2 ⊢
    have : s < 2 ^ bits.toNat := by
      have h5 : ((2 ^ bits.toNat : Nat) : Int) = (2 : Int) ^ bits.toNat := by simp
      omega
    rw [Nat.mod_eq_of_lt this]
  show (⟨g.w, g.h, g.edge, cellsP (packP g bits.toNat)⟩ : Grd) = g
  rw [hc]

/- Moved planes. -/
def movedG (p : Pln) (dx dy : Int) : Grd := ⟨p.w, p.h, p.edge, (List.range (p.h.toNat * p.w.toNat)).map (fun i => getF (unpackG p) (((i % p.w.toNat : Nat) : Int) + dx) (((i / p.w.toNat : Nat) : Int) + dy))⟩
def offOk (dx dy : Int) : Bool := decide ((-256 ≤ dx ∧ dx ≤ 256) ∧ (-256 ≤ dy ∧ dy ≤ 256))
def moveErr (p : Pln) (dx dy : Int) : Int := if rightPl p = true ∧ offOk dx dy = true then 0 else 2
def moveP (p : Pln) (dx dy : Int) : Pln := packP (movedG p dx dy) p.words.length
def moveR (p : Pln) (dx dy : Int) : Pln := if moveErr p dx dy = 0 then moveP p dx dy else noPln
theorem movedG_get (p : Pln) (dx dy : Int) (x y : Nat) (hx : x < p.w.toNat) (hy : y < p.h.toNat) : (movedG p dx dy).cells.getD (y * p.w.toNat + x) 0 = getF (unpackG p) ((x : Int) + dx) ((y : Int) + dy) := by
  obtain ⟨e1, e2⟩ := row_at (y := y) hx
  show ((List.range _).map _).getD _ 0 = _
  rw [List.getD_eq_getElem?_getD, List.getElem?_map, List.getElem?_range (row_lt hx hy), Option.map_some, Option.getD_some, e1, e2]
/-- The state of a cell at any place, from the planes. -/
theorem getF_unpack {p : Pln} (h : rightPl p = true) (x y : Int) : getF (unpackG p) x y = if 0 ≤ atF x p.w p.edge ∧ 0 ≤ atF y p.h p.edge then stateTo (wpr p.w.toNat) p.words (atF x p.w p.edge).toNat (atF y p.h p.edge).toNat p.words.length else 0 := by
  obtain ⟨hs, _, _⟩ := rightPl_parts h
  obtain ⟨s1, s2, _⟩ := sizedF_parts hs
  have bx := atF_bd x p.w p.edge (by omega)
  have byy := atF_bd y p.h p.edge (by omega)
  unfold getF
  rw [if_pos (unpack_right h)]
  show (if atF x p.w p.edge < 0 ∨ atF y p.h p.edge < 0 then (0 : Int) else (cellsP p).getD (atF y p.h p.edge * p.w + atF x p.w p.edge).toNat 0) = _
  generalize atF x p.w p.edge = kx at bx
  generalize atF y p.h p.edge = ky at byy
  by_cases hk : 0 ≤ kx ∧ 0 ≤ ky
  · rw [if_neg (by omega), if_pos hk]
    have hx : kx.toNat < p.w.toNat := by omega
    have hy : ky.toNat < p.h.toNat := by omega
    rw [← cellsP_get p kx.toNat ky.toNat hx hy]
    congr 1
    have h1 : ky * p.w + kx = ((ky.toNat * p.w.toNat + kx.toNat : Nat) : Int) := by
      rw [Int.natCast_add, Int.natCast_mul, Int.toNat_of_nonneg hk.2, Int.toNat_of_nonneg (by omega), Int.toNat_of_nonneg hk.1]
    rw [h1, Int.toNat_natCast]
  · rw [if_pos (by omega), if_neg hk]
theorem moved_right {p : Pln} (h : rightPl p = true) (dx dy : Int) : rightG (movedG p dx dy) = true ∧ ∀ s ∈ (movedG p dx dy).cells, s < 2 ^ p.words.length := by
  obtain ⟨hs, hn, _⟩ := rightPl_parts h
  obtain ⟨s1, s2, _⟩ := sizedF_parts hs
  have hp : (0 : Int) < 2 ^ p.words.length := Int.pow_pos (by omega)
  have h8 : (2 : Int) ^ p.words.length ≤ 8 := by
    have hc : p.words.length = 1 ∨ p.words.length = 2 ∨ p.words.length = 3 := by omega
    rcases hc with e | e | e <;> rw [e] <;> decide
  have key : ∀ s ∈ (movedG p dx dy).cells, 0 ≤ s ∧ s < 2 ^ p.words.length := by
    intro s hs
    obtain ⟨i, _, rfl⟩ := List.mem_map.1 hs
    rw [getF_unpack h]
    split
    · exact stateTo_bd _ _ _ _ _
    · omega
  refine ⟨?_, fun s hs => (key s hs).2⟩
  simp only [rightG, Bool.and_eq_true, decide_eq_true_eq, List.all_eq_true]
  refine ⟨hs, ?_, fun s hs => decide_eq_true (by have := key s hs; omega)⟩
  show (((List.range (p.h.toNat * p.w.toNat)).map _).length : Int) = p.w * p.h
  rw [List.length_map, List.length_range, Int.natCast_mul, Int.toNat_of_nonneg (by omega), Int.toNat_of_nonneg (by omega), Int.mul_comm]
theorem moved_packErr {p : Pln} (h : rightPl p = true) (dx dy : Int) : packErr (movedG p dx dy) p.words.length = 0 := by
  obtain ⟨hs, hn, _⟩ := rightPl_parts h
  obtain ⟨h1, h2⟩ := moved_right h dx dy
  unfold packErr
  rw [if_pos ⟨h1, by omega, by omega⟩, if_pos]
  rw [List.all_eq_true]
  intro s hs
  exact decide_eq_true (by rw [Int.toNat_natCast]; exact h2 s hs)
theorem move_right {p : Pln} (h : rightPl p = true) (dx dy : Int) : rightPl (moveP p dx dy) = true := by
  have := pack_right (moved_packErr h dx dy)
  rw [Int.toNat_natCast] at this
  exact this
theorem move_unpack {p : Pln} (h : rightPl p = true) (dx dy : Int) : unpackG (moveP p dx dy) = movedG p dx dy := by
  have := unpack_pack (moved_packErr h dx dy)
  rw [Int.toNat_natCast] at this
  exact this
/-- The bits of moved planes. -/
theorem move_bit {p : Pln} (h : rightPl p = true) (dx dy : Int) (b x y : Nat) (hb : b < p.words.length) (hx : x < p.w.toNat) (hy : y < p.h.toNat) :
    bitW (wpr p.w.toNat) ((moveP p dx dy).words.getD b []) x y = (decide (0 ≤ atF ((x : Int) + dx) p.w p.edge ∧ 0 ≤ atF ((y : Int) + dy) p.h p.edge) && bitW (wpr p.w.toNat) (p.words.getD b []) (atF ((x : Int) + dx) p.w p.edge).toNat (atF ((y : Int) + dy) p.h p.edge).toNat) := by
  rw [moveP, pack_get _ _ _ hb]
  show bitW (wpr p.w.toNat) (planeF p.w.toNat p.h.toNat (movedG p dx dy).cells b) x y = _
  rw [planeF_bit _ _ _ _ (by omega) hx hy, movedG_get p dx dy x y hx hy, getF_unpack h]
  split
  · rename_i h1
    rw [stateTo_bit _ _ _ _ _ _ hb, decide_eq_true h1, Bool.true_and]
  · rename_i h1
    rw [decide_eq_false h1, Bool.false_and]
    unfold tbit
    simp
/-- Moves on a torus add up. -/
theorem atF_torus (x w : Int) (hw : 1 ≤ w) : atF x w 1 = x % w := by
  unfold atF
  split
  · rename_i h; exact (Int.emod_eq_of_lt h.1 h.2).symm
  · simp
theorem Pln.ext' {a b : Pln} (h1 : a.w = b.w) (h2 : a.h = b.h) (h3 : a.edge = b.edge) (h4 : a.words = b.words) : a = b := by
  cases a; cases b; simp only at h1 h2 h3 h4; rw [h1, h2, h3, h4]
theorem planes_ext {a b : Pln} (ha : rightPl a = true) (hb : rightPl b = true) (h1 : a.w = b.w) (h2 : a.h = b.h) (h3 : a.edge = b.edge) (hl : a.words.length = b.words.length)
    (h : ∀ k x y, k < a.words.length → x < a.w.toNat → y < a.h.toNat → bitW (wpr a.w.toNat) (a.words.getD k []) x y = bitW (wpr a.w.toNat) (b.words.getD k []) x y) : a = b := by
  obtain ⟨hs, hn, pa⟩ := rightPl_parts ha
  obtain ⟨_, _, pb⟩ := rightPl_parts hb
  obtain ⟨s1, s2, _⟩ := sizedF_parts hs
  refine Pln.ext' h1 h2 h3 (List.ext_getElem hl (fun k hk hk' => ?_))
  have ga : a.words.getD k [] = a.words[k] := by rw [List.getD_eq_getElem?_getD, List.getElem?_eq_getElem hk]; rfl
  have gb : b.words.getD k [] = b.words[k] := by rw [List.getD_eq_getElem?_getD, List.getElem?_eq_getElem hk']; rfl
  rw [← ga, ← gb]
  have p2 := pb k (by omega)
  rw [← h1, ← h2] at p2
  exact plane_ext (by omega) (pa k hk) p2 (fun x y hx hy => h k x y hk hx hy)
theorem move_len (p : Pln) (dx dy : Int) : (moveP p dx dy).words.length = p.words.length := pack_len _ _
theorem move_add {p : Pln} (h : rightPl p = true) (he : p.edge = 1) (a b c d : Int) : moveP (moveP p a b) c d = moveP p (a + c) (b + d) := by
  obtain ⟨hs, hn, _⟩ := rightPl_parts h
  obtain ⟨s1, s2, _⟩ := sizedF_parts hs
  have hm := move_right h a b
  refine planes_ext (move_right hm c d) (move_right h _ _) rfl rfl rfl (by rw [move_len, move_len, move_len]) (fun k x y hk hx hy => ?_)
  have hk' : k < p.words.length := by rw [move_len, move_len] at hk; exact hk
  have hx' : x < p.w.toNat := hx
  have hy' : y < p.h.toNat := hy
  have e1 := move_bit hm c d k x y (by rw [move_len]; exact hk') hx' hy'
  have e2 := move_bit h (a + c) (b + d) k x y hk' hx' hy'
  have ew : (moveP p a b).w = p.w := rfl
  have eh : (moveP p a b).h = p.h := rfl
  have ee : (moveP p a b).edge = 1 := he
  rw [ew, eh, ee, atF_torus _ _ (by omega), atF_torus _ _ (by omega)] at e1
  rw [he, atF_torus _ _ (by omega), atF_torus _ _ (by omega)] at e2
  show bitW (wpr p.w.toNat) ((moveP (moveP p a b) c d).words.getD k []) x y = bitW (wpr p.w.toNat) ((moveP p (a + c) (b + d)).words.getD k []) x y
  rw [e1, e2]
  have m1 := mod_bd ((x : Int) + c) p.w (by omega)
  have m2 := mod_bd ((y : Int) + d) p.h (by omega)
  have n1 := mod_bd ((x : Int) + (a + c)) p.w (by omega)
  have n2 := mod_bd ((y : Int) + (b + d)) p.h (by omega)
  rw [decide_eq_true ⟨m1.1, m2.1⟩, decide_eq_true ⟨n1.1, n2.1⟩, Bool.true_and, Bool.true_and]
  have e3 := move_bit h a b k (((x : Int) + c) % p.w).toNat (((y : Int) + d) % p.h).toNat hk' (by omega) (by omega)
  rw [he, atF_torus _ _ (by omega), atF_torus _ _ (by omega), Int.toNat_of_nonneg m1.1, Int.toNat_of_nonneg m2.1, Int.emod_add_emod, Int.emod_add_emod] at e3
  rw [e3, show (x : Int) + c + a = (x : Int) + (a + c) by omega, show (y : Int) + d + b = (y : Int) + (b + d) by omega, decide_eq_true ⟨n1.1, n2.1⟩, Bool.true_and]
/-- A move around the torus changes nothing. -/
theorem move_round {p : Pln} (h : rightPl p = true) (he : p.edge = 1) : moveP p p.w 0 = p ∧ moveP p 0 p.h = p := by
  obtain ⟨hs, hn, _⟩ := rightPl_parts h
  obtain ⟨s1, s2, _⟩ := sizedF_parts hs
  have key : ∀ dx dy : Int, (dx = p.w ∧ dy = 0 ∨ dx = 0 ∧ dy = p.h) → moveP p dx dy = p := by
    intro dx dy hd
    refine planes_ext (move_right h _ _) h rfl rfl rfl (move_len _ _ _) (fun k x y hk hx hy => ?_)
    have hk' : k < p.words.length := by rw [move_len] at hk; exact hk
    have hx' : x < p.w.toNat := hx
    have hy' : y < p.h.toNat := hy
    have e1 := move_bit h dx dy k x y hk' hx' hy'
    rw [he, atF_torus _ _ (by omega), atF_torus _ _ (by omega)] at e1
    have ex : ((x : Int) + dx) % p.w = x := by
      rcases hd with ⟨rfl, _⟩ | ⟨rfl, _⟩
      · rw [Int.add_emod_right, Int.emod_eq_of_lt (by omega) (by omega)]
      · rw [Int.add_zero, Int.emod_eq_of_lt (by omega) (by omega)]
    have ey : ((y : Int) + dy) % p.h = y := by
      rcases hd with ⟨_, rfl⟩ | ⟨_, rfl⟩
      · rw [Int.add_zero, Int.emod_eq_of_lt (by omega) (by omega)]
      · rw [Int.add_emod_right, Int.emod_eq_of_lt (by omega) (by omega)]
    rw [ex, ey] at e1
    show bitW (wpr p.w.toNat) ((moveP p dx dy).words.getD k []) x y = _
    rw [e1, decide_eq_true ⟨by omega, by omega⟩, Bool.true_and, Int.toNat_natCast, Int.toNat_natCast]
    rfl
  exact ⟨key _ _ (.inl ⟨rfl, rfl⟩), key _ _ (.inr ⟨rfl, rfl⟩)⟩
end Go.Proofs.Ytfknooffjhncgaa
