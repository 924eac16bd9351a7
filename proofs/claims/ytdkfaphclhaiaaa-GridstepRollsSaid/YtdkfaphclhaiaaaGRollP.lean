/-
  Plain: Roll as a scatter is Roll as a gather. Nothing of the program stands here.
-/
import Derived.Test.YtdkfaphclhaiaaaGLaw
namespace Go.Proofs.Ytdkfaphclhaiaaa
open Go.RowKit
set_option linter.unusedSimpArgs false
set_option linter.unusedVariables false

def dstI (w h a b : Int) (k : Int) : Int := ((k / w + b) % h) * w + (k % w + a) % w
def srcI (w h a b : Int) (j : Int) : Int := ((j / w - b) % h) * w + (j % w - a) % w
theorem two_mod {w h x y : Int} (hx : 0 ≤ x ∧ x < w) (hw : 1 ≤ w) : (y * w + x) % w = x ∧ (y * w + x) / w = y := by
  rw [Int.add_comm]
  refine ⟨?_, ?_⟩
  · rw [Int.add_mul_emod_self_right, Int.emod_eq_of_lt hx.1 hx.2]
  · rw [Int.add_mul_ediv_right _ _ (by omega), Int.ediv_eq_zero_of_lt hx.1 hx.2]; omega
theorem two_back {w k : Int} : k / w * w + k % w = k := by
  have := Int.mul_ediv_add_emod k w
  rw [Int.mul_comm] at this
  omega
theorem div_in {w h k : Int} (hw : 1 ≤ w) (hk : 0 ≤ k ∧ k < w * h) : 0 ≤ k / w ∧ k / w < h := by
  refine ⟨Int.ediv_nonneg hk.1 (by omega), ?_⟩
  rw [Int.ediv_lt_iff_lt_mul (by omega), Int.mul_comm]
  exact hk.2
theorem src_dst {w h a b k : Int} (hw : 1 ≤ w) (hh : 1 ≤ h) (hk : 0 ≤ k ∧ k < w * h) : srcI w h a b (dstI w h a b k) = k := by
  have h1 := mod_bd (k % w + a) w (by omega)
  have h2 := mod_bd k w (by omega)
  have h3 := div_in hw hk
  unfold srcI
  rw [show dstI w h a b k = ((k / w + b) % h) * w + (k % w + a) % w from rfl, (two_mod (h := h) h1 hw).1, (two_mod (h := h) h1 hw).2]
  rw [Int.emod_sub_emod, Int.emod_sub_emod, Int.add_sub_cancel, Int.add_sub_cancel, Int.emod_eq_of_lt h3.1 h3.2, Int.emod_eq_of_lt h2.1 h2.2]
  exact two_back
theorem dst_src {w h a b k : Int} (hw : 1 ≤ w) (hh : 1 ≤ h) (hk : 0 ≤ k ∧ k < w * h) : dstI w h a b (srcI w h a b k) = k := by
  have h1 := mod_bd (k % w - a) w (by omega)
  have h2 := mod_bd k w (by omega)
  have h3 := div_in hw hk
  unfold dstI
  rw [show srcI w h a b k = ((k / w - b) % h) * w + (k % w - a) % w from rfl, (two_mod (h := h) h1 hw).1, (two_mod (h := h) h1 hw).2]
  rw [Int.emod_add_emod, Int.emod_add_emod, Int.sub_add_cancel, Int.sub_add_cancel, Int.emod_eq_of_lt h3.1 h3.2, Int.emod_eq_of_lt h2.1 h2.2]
  exact two_back
theorem dst_bd {w h a b k : Int} (hw : 1 ≤ w) (hh : 1 ≤ h) : 0 ≤ dstI w h a b k ∧ dstI w h a b k < w * h := place_bd (mod_bd _ w (by omega)) (mod_bd _ h (by omega))
theorem src_bd {w h a b k : Int} (hw : 1 ≤ w) (hh : 1 ≤ h) : 0 ≤ srcI w h a b k ∧ srcI w h a b k < w * h := place_bd (mod_bd _ w (by omega)) (mod_bd _ h (by omega))

/-- The first kk cells have been laid. -/
def scat (w h a b : Int) (cs : List Int) (n kk : Nat) : List Int := (List.range n).map (fun j => if (srcI w h a b (j : Nat)).toNat < kk then cs.getD (srcI w h a b (j : Nat)).toNat 0 else 0)
theorem scat_length (w h a b : Int) (cs : List Int) (n kk : Nat) : (scat w h a b cs n kk).length = n := by simp [scat]
theorem scat_at (w h a b : Int) (cs : List Int) (n kk j : Nat) (hj : j < n) : (scat w h a b cs n kk).getD j 0 = if (srcI w h a b j).toNat < kk then cs.getD (srcI w h a b j).toNat 0 else 0 := by
  rw [scat, List.getD_eq_getElem?_getD, List.getElem?_map, List.getElem?_range hj]; rfl
theorem scat_zero (w h a b : Int) (cs : List Int) (n : Nat) : scat w h a b cs n 0 = zeros n := by
  refine gl_ext (by rw [scat_length]; simp [zeros]) (fun k hk => ?_)
  rw [scat_length] at hk
  rw [scat_at _ _ _ _ _ _ _ _ hk, if_neg (by omega), gl_zeros]
theorem scat_step {w h a b : Int} {cs : List Int} {n kk : Nat} (hw : 1 ≤ w) (hh : 1 ≤ h) (hn : (n : Int) = w * h) (hk : kk < n) :
    scat w h a b cs n (kk + 1) = (scat w h a b cs n kk).set (dstI w h a b kk).toNat (cs.getD kk 0) := by
  have hd := dst_bd (w := w) (h := h) (a := a) (b := b) (k := (kk : Int)) hw hh
  have hs := src_dst (w := w) (h := h) (a := a) (b := b) (k := (kk : Int)) hw hh ⟨by omega, by omega⟩
  refine gl_ext (by rw [List.length_set, scat_length, scat_length]) (fun j hj => ?_)
  rw [scat_length] at hj
  rw [gl_set _ _ _ _ (by rw [scat_length]; omega), scat_at _ _ _ _ _ _ _ _ hj, scat_at _ _ _ _ _ _ _ _ hj]
  by_cases e : j = (dstI w h a b kk).toNat
  · have ej : (j : Int) = dstI w h a b kk := by omega
    rw [if_pos e, ej, hs, Int.toNat_natCast, if_pos (by omega)]
  · rw [if_neg e]
    have hb := src_bd (w := w) (h := h) (a := a) (b := b) (k := (j : Int)) hw hh
    have hne : (srcI w h a b j).toNat ≠ kk := by
      intro he
      have h1 : srcI w h a b j = (kk : Int) := by omega
      have h2 := dst_src (w := w) (h := h) (a := a) (b := b) (k := (j : Int)) hw hh ⟨by omega, by omega⟩
      rw [h1] at h2
      omega
    by_cases hlt : (srcI w h a b j).toNat < kk
    · rw [if_pos (by omega), if_pos hlt]
    · rw [if_neg (by omega), if_neg hlt]
theorem scat_all {w h dx dy : Int} {cs : List Int} {n : Nat} (hw : 1 ≤ w) (hh : 1 ≤ h) (hn : (n : Int) = w * h) :
    scat w h (dx % w) (dy % h) cs n n = rollTo w h dx dy cs h.toNat := by
  have hlen : h.toNat * w.toNat = n := by
    have : ((h.toNat * w.toNat : Nat) : Int) = w * h := by
      rw [Int.natCast_mul, Int.toNat_of_nonneg (by omega), Int.toNat_of_nonneg (by omega), Int.mul_comm]
    omega
  refine gl_ext (by rw [scat_length, rollTo_length, hlen]) (fun k hk => ?_)
  rw [scat_length] at hk
  rw [scat_at _ _ _ _ _ _ _ _ hk]
  have hb := src_bd (w := w) (h := h) (a := dx % w) (b := dy % h) (k := (k : Int)) hw hh
  rw [if_pos (by omega)]
  have hw0 : 0 < w.toNat := by omega
  have hx : k % w.toNat < w.toNat := Nat.mod_lt _ hw0
  have hy : k / w.toNat < h.toNat := by rw [Nat.div_lt_iff_lt_mul hw0]; omega
  have hk' := nat_place w.toNat hw0 k
  have e1 : (k : Int) % w = ((k % w.toNat : Nat) : Int) := by rw [Int.natCast_emod, Int.toNat_of_nonneg (by omega)]
  have e2 : (k : Int) / w = ((k / w.toNat : Nat) : Int) := by rw [Int.natCast_ediv, Int.toNat_of_nonneg (by omega)]
  have e3 : (rollTo w h dx dy cs h.toNat).getD k 0 = (rollTo w h dx dy cs h.toNat).getD (k / w.toNat * w.toNat + k % w.toNat) 0 := by rw [← hk']
  rw [e3, rollTo_at _ _ _ _ _ _ _ _ hy hx]
  congr 1
  unfold srcI rollAt
  rw [e1, e2]
end Go.Proofs.Ytdkfaphclhaiaaa
