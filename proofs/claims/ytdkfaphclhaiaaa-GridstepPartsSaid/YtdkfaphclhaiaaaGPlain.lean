/-
  Grids and patterns as plain data, and what the functions of package grid and of its reference compute. Nothing of the program stands here.
-/
import Derived.Test.YtdkfaphclhaiaaaBase
import Derived.Test.YtdkfaphclhaiaaaCPlain
namespace Go.Proofs.Ytdkfaphclhaiaaa
open Go.RowKit
set_option linter.unusedSimpArgs false
set_option linter.unusedVariables false

structure Grd where
  w : Int
  h : Int
  edge : Int
  cells : List Int

def sizedF (w h edge : Int) : Bool := decide ((1 ≤ w ∧ w ≤ 256) ∧ (1 ≤ h ∧ h ≤ 256) ∧ w * h ≤ 4096 ∧ 0 ≤ edge ∧ edge ≤ 2)
def stateOk (s : Int) : Bool := decide (0 ≤ s ∧ s < 8)
def rightG (g : Grd) : Bool := sizedF g.w g.h g.edge && (decide ((g.cells.length : Int) = g.w * g.h) && g.cells.all stateOk)
def sameG (a b : Grd) : Bool := a.w == b.w && (a.h == b.h && (a.edge == b.edge && decide (a.cells = b.cells)))
theorem sameG_iff (a b : Grd) : sameG a b = true ↔ a = b := by
  cases a; cases b; simp [sameG]
def noGrd : Grd := ⟨0, 0, 0, []⟩
def zeros (n : Nat) : List Int := List.replicate n 0
def newErr (w h e : Int) : Int := if sizedF w h e = true then 0 else 2
def newR (w h e : Int) : Grd := if sizedF w h e = true then ⟨w, h, e, zeros (w * h).toNat⟩ else noGrd

/-- A grid's cells as they lie in memory. -/
structure GAt (w : World) (g : Grd) (A : Option Addr) (n : Nat) : Prop where
  cells : Rd w w.heap.size 1 A n (ints g.cells)
  c63 : n ≤ maxLen
theorem GAt.up {w w' : World} {g : Grd} {A : Option Addr} {n : Nat} (h : GAt w g A n) (hb : Below w.heap.size w w') : GAt w' g A n := ⟨h.cells.up hb, h.c63⟩
theorem GAt.cl {w : World} {g : Grd} {A : Option Addr} {n : Nat} (h : GAt w g A n) : g.cells.length = n := by have := h.cells.1; simp at this; omega
theorem noGrd_at (w : World) : GAt w noGrd none 0 := ⟨Rd.empty none, by unfold maxLen; omega⟩

theorem sizedF_parts {w h e : Int} (hs : sizedF w h e = true) : (1 ≤ w ∧ w ≤ 256) ∧ (1 ≤ h ∧ h ≤ 256) ∧ w * h ≤ 4096 ∧ 0 ≤ e ∧ e ≤ 2 := by simpa [sizedF] using hs
theorem prod_bd {w h : Int} (hw : 1 ≤ w ∧ w ≤ 256) (hh : 1 ≤ h ∧ h ≤ 256) : 1 ≤ w * h ∧ w * h ≤ 65536 := by
  have h1 : 1 * 1 ≤ w * h := Int.mul_le_mul hw.1 hh.1 (by omega) (by omega)
  have h2 : w * h ≤ 256 * 256 := Int.mul_le_mul hw.2 hh.2 (by omega) (by omega)
  omega
theorem rightG_parts {g : Grd} (h : rightG g = true) : sizedF g.w g.h g.edge = true ∧ (g.cells.length : Int) = g.w * g.h ∧ g.cells.all stateOk = true := by
  simpa [rightG] using h
theorem stateOk_at {zs : List Int} (h : zs.all stateOk = true) {k : Nat} (hk : k < zs.length) : 0 ≤ zs.getD k 0 ∧ zs.getD k 0 < 8 := by
  rw [List.all_eq_true] at h
  have := h _ (List.getElem_mem hk)
  rw [List.getD_eq_getElem?_getD, List.getElem?_eq_getElem hk]
  simpa [stateOk] using this

/-- Go's remainder, lifted. -/
theorem mod_walk (n m : Int) (hm : 0 < m) : Int.tmod (Int.tmod n m + m) m = n % m := by
  have h1 : 0 ≤ Int.tmod n m + m := by
    have := Int.lt_tmod_of_pos n hm
    omega
  rw [Int.tmod_eq_emod_of_nonneg h1, Int.add_emod_right]
  have h2 : Int.tmod n m = n - m * Int.tdiv n m := Int.tmod_def n m
  rw [h2, Int.sub_mul_emod_self_left]
theorem tmod_bd (n m : Int) (hm : 0 < m) : -m < Int.tmod n m ∧ Int.tmod n m < m := ⟨Int.lt_tmod_of_pos n hm, Int.tmod_lt_of_pos n hm⟩

def foldF (n m : Int) : Int := if m ≤ n % (2 * m) then 2 * m - 1 - n % (2 * m) else n % (2 * m)
def atF (x w edge : Int) : Int := if 0 ≤ x ∧ x < w then x else if edge = 1 then x % w else if edge = 2 then foldF x w else -1
theorem foldF_bd (n m : Int) (hm : 0 < m) : 0 ≤ foldF n m ∧ foldF n m < m := by
  have h0 := Int.emod_nonneg n (show (2 * m) ≠ 0 by omega)
  have h1 := Int.emod_lt_of_pos n (show 0 < 2 * m by omega)
  unfold foldF; split <;> omega
theorem foldF_in (n m : Int) (h0 : 0 ≤ n) (h1 : n < m) : foldF n m = n := by
  unfold foldF
  rw [Int.emod_eq_of_lt h0 (by omega), if_neg (by omega)]
theorem mod_bd (n m : Int) (hm : 0 < m) : 0 ≤ n % m ∧ n % m < m := ⟨Int.emod_nonneg n (by omega), Int.emod_lt_of_pos n hm⟩
theorem atF_bd (x w edge : Int) (hw : 1 ≤ w) : -1 ≤ atF x w edge ∧ atF x w edge < w := by
  have h1 := mod_bd x w (by omega)
  have h2 := foldF_bd x w (by omega)
  unfold atF
  split
  · omega
  · split
    · omega
    · split <;> omega
/-- What grid's inner function 'inside' computes. -/
def inV (x w edge : Int) : Int := if edge = 2 then foldF x w else if edge = 1 then x % w else x
def inB (x w edge : Int) : Bool := if edge = 2 ∨ edge = 1 then true else decide (0 ≤ x ∧ x < w)
theorem inside_at (x w edge : Int) (hw : 1 ≤ w) (he : 0 ≤ edge ∧ edge ≤ 2) : atF x w edge = if inB x w edge = true then inV x w edge else -1 := by
  unfold atF inB inV
  by_cases h2 : edge = 2
  · subst h2
    by_cases hx : 0 ≤ x ∧ x < w
    · simp [hx, foldF_in x w hx.1 hx.2]
    · simp [hx]
  · by_cases h1 : edge = 1
    · subst h1
      by_cases hx : 0 ≤ x ∧ x < w
      · simp [hx, Int.emod_eq_of_lt hx.1 hx.2]
      · simp [hx]
    · simp [h1, h2]

def getF (g : Grd) (x y : Int) : Int := if rightG g = true then (if atF x g.w g.edge < 0 ∨ atF y g.h g.edge < 0 then 0 else g.cells.getD (atF y g.h g.edge * g.w + atF x g.w g.edge).toNat 0) else 0
/-- A place in a grid. -/
theorem place_bd {w h x y : Int} (hx : 0 ≤ x ∧ x < w) (hy : 0 ≤ y ∧ y < h) : 0 ≤ y * w + x ∧ y * w + x < w * h := by
  have h1 : y * w ≤ (h - 1) * w := Int.mul_le_mul_of_nonneg_right (by omega) (by omega)
  have h2 : 0 ≤ y * w := Int.mul_nonneg hy.1 (by omega)
  rw [Int.sub_mul, Int.mul_comm h w] at h1
  omega

def setErr (g : Grd) (x y s : Int) : Int := if rightG g = true then (if (0 ≤ x ∧ x < g.w) ∧ (0 ≤ y ∧ y < g.h) then (if stateOk s = true then 0 else 10) else 5) else 2
def setR (g : Grd) (x y s : Int) : Grd := if setErr g x y s = 0 then { g with cells := g.cells.set (y * g.w + x).toNat s } else noGrd

/-- Patterns: a cell is three integers: X, Y, S. -/
def placeOk (x y : Int) : Bool := decide ((-1048576 ≤ x ∧ x ≤ 1048576) ∧ (-1048576 ≤ y ∧ y ≤ 1048576))
def beforeC (a b : Gt) : Bool := decide (a.a < b.a ∨ a.a = b.a ∧ a.op < b.op)
def cellOk (c : Gt) : Bool := placeOk c.op c.a && decide (1 ≤ c.b ∧ c.b < 8)
def patCells (p : List Gt) : Bool := decide (∀ k, k < p.length → cellOk (p.getD k default) = true ∧ (k = 0 ∨ beforeC (p.getD (k - 1) default) (p.getD k default) = true))
def rightP (p : List Gt) : Bool := decide (p.length ≤ 5000) && patCells p
theorem rightP_false_at (p : List Gt) (k : Nat) (hk : k < p.length) (h : cellOk (p.getD k default) = false ∨ (k ≠ 0 ∧ beforeC (p.getD (k - 1) default) (p.getD k default) = false)) : rightP p = false := by
  have : patCells p = false := decide_eq_false (fun hh => by
    have := hh k hk
    rcases h with h | ⟨h1, h2⟩
    · rw [h] at this; exact absurd this.1 (by simp)
    · rw [h2] at this; rcases this.2 with h | h
      · exact h1 h
      · exact absurd h (by simp))
  simp [rightP, this]
theorem rightP_true_all (p : List Gt) (h : ∀ k, k < p.length → cellOk (p.getD k default) = true ∧ (k = 0 ∨ beforeC (p.getD (k - 1) default) (p.getD k default) = true)) : rightP p = decide (p.length ≤ 5000) := by
  have : patCells p = true := decide_eq_true h
  simp [rightP, this]

def inGrid (w h : Int) (c : Gt) : Bool := decide ((0 ≤ c.op ∧ c.op < w) ∧ (0 ≤ c.a ∧ c.a < h))
def fromErr (p : List Gt) (w h e : Int) : Int := if rightP p = true ∧ sizedF w h e = true then (if p.all (inGrid w h) = true then 0 else 5) else 2
def fill (w : Int) (cs : List Int) (p : List Gt) : List Int := p.foldl (fun cs c => cs.set (c.a * w + c.op).toNat c.b) cs
def fromR (p : List Gt) (w h e : Int) : Grd := if fromErr p w h e = 0 then ⟨w, h, e, fill w (zeros (w * h).toNat) p⟩ else noGrd

def patAt (w : Int) (cs : List Int) (k : Nat) : List Gt := if cs.getD k 0 = 0 then [] else [⟨(k : Int) % w, (k : Int) / w, cs.getD k 0⟩]
def patTo (w : Int) (cs : List Int) (k : Nat) : List Gt := (List.range k).flatMap (patAt w cs)
theorem patTo_succ (w : Int) (cs : List Int) (k : Nat) : patTo w cs (k + 1) = patTo w cs k ++ patAt w cs k := by simp [patTo, List.range_succ]
def patF (g : Grd) : List Gt := if rightG g = true then patTo g.w g.cells g.cells.length else []

def rollErr (g : Grd) : Int := if rightG g = true ∧ g.edge = 1 then 0 else 2
/-- From which place of the grid the place x, y comes. -/
def rollAt (w h dx dy x y : Int) : Int := ((y - dy % h) % h) * w + (x - dx % w) % w
def rollRow (w h dx dy : Int) (cs : List Int) (y : Nat) (k : Nat) : List Int := (List.range k).map (fun x => cs.getD (rollAt w h dx dy (x : Nat) y).toNat 0)
def rollTo (w h dx dy : Int) (cs : List Int) (k : Nat) : List Int := (List.range k).flatMap (fun y => rollRow w h dx dy cs y w.toNat)
def rollR (g : Grd) (dx dy : Int) : Grd := if rollErr g = 0 then { g with cells := rollTo g.w g.h dx dy g.cells g.h.toNat } else noGrd
end Go.Proofs.Ytdkfaphclhaiaaa
