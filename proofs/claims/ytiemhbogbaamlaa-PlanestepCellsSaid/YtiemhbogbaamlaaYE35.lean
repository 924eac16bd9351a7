/-
 A part.
-/
import Derived.Test.YtiemhbogbaamlaaYE33
import Derived.Test.YtiemhbogbaamlaaYE1
import Derived.Test.YtiemhbogbaamlaaYE6
import Derived.ProofKit
import Derived.Deep.Slices
import Derived.Deep.Strs
import Derived.Lib.SmallJoins
namespace Go.Proofs.Ytiemhbogbaamlaa
open Go.RowKit
set_option linter.unusedSimpArgs false
set_option linter.unusedVariables false
def parT : Tre := ⟨2, [⟨-1, 0⟩, ⟨1, 0⟩], [⟨1, [0, 1]⟩, ⟨1, [1, 0]⟩, ⟨2, [0, 1]⟩]⟩
def exP : Pln := ⟨5, 1, 1, [[4#64]]⟩
def ex1 : Pln := ⟨5, 1, 1, [[10#64]]⟩
def ex2 : Pln := ⟨5, 1, 1, [[17#64]]⟩
theorem par_right : rightT parT = true := by kernel_rfl
theorem par_outs : (circT parT).outs.length = 1 := by kernel_rfl
theorem par_1 : runErr parT exP 1 = 0 ∧ runPl parT exP 1 = ex1 := ⟨by kernel_rfl, by kernel_rfl⟩
theorem par_2 : runErr parT exP 2 = 0 ∧ runPl parT exP 2 = ex2 := ⟨by kernel_rfl, by kernel_rfl⟩
theorem par_3 : runErr parT exP (-1) = 2 ∧ runPl parT exP (-1) = noPln := ⟨by kernel_rfl, by kernel_rfl⟩
theorem par_4 : runErr parT noPln 1 = 2 ∧ runPl parT noPln 1 = noPln := ⟨by kernel_rfl, by kernel_rfl⟩
theorem par_5 : rightT ⟨0, [], []⟩ = false := by kernel_rfl
theorem tatY_zero (w : World) : TAt w ⟨0, [], []⟩ none none 0 0 [] :=
 ⟨Rd.empty none, Rd.empty none, rfl, fun i hi => absurd hi (Nat.not_lt_zero _), by unfold maxLen; omega, by unfold maxLen; omega⟩
theorem par_at {w : World} {bl b0 b1 b2 bn : Nat} (hl : Row w bl 73 [.int .i64 (-1), .int .i64 0, .int .i64 1, .int .i64 0]) (h0 : Row w b0 3 [.int .i64 0, .int .i64 1]) (h1 : Row w b1 3 [.int .i64 1, .int .i64 0]) (h2 : Row w b2 3 [.int .i64 0, .int .i64 1])
 (hn : Row w bn 64 [.int .i64 1, .slice (some ⟨b0, 0, none⟩) 2 2, .int .i64 1, .slice (some ⟨b1, 0, none⟩) 2 2, .int .i64 2, .slice (some ⟨b2, 0, none⟩) 2 2]) :
 TAt w parT (some ⟨bl, 0, none⟩) (some ⟨bn, 0, none⟩) 2 3 [⟨some ⟨b0, 0, none⟩, 2, 2⟩, ⟨some ⟨b1, 0, none⟩, 2, 2⟩, ⟨some ⟨b2, 0, none⟩, 2, 2⟩] := by
 refine ⟨hl.rd rfl, hn.rd rfl, rfl, fun i hi => ?_, by unfold maxLen; omega, by unfold maxLen; omega⟩
 have hi : i < 3 := hi
 have hc : i = 0 ∨ i = 1 ∨ i = 2 := by omega
 rcases hc with rfl | rfl | rfl
 ·exact ⟨h0.rd rfl, by show 2 ≤ maxLen; unfold maxLen; omega⟩
 ·exact ⟨h1.rd rfl, by show 2 ≤ maxLen; unfold maxLen; omega⟩
 ·exact ⟨h2.rd rfl, by show 2 ≤ maxLen; unfold maxLen; omega⟩
theorem pAt_one {w : World} {b1 b2 : Nat} {p : Pln} (x : BitVec 64) (h1 : Row w b1 66 [.int .u64 (x.toNat : Int)]) (h2 : Row w b2 67 [.slice (some ⟨b1, 0, none⟩) 1 1]) (hp : p.words = [[x]]) : PAt w p (some ⟨b2, 0, none⟩) 1 [⟨some ⟨b1, 0, none⟩, 1, 1⟩] := by
 refine ⟨h2.rd rfl, by rw [hp]; rfl, fun i hi => ?_, by unfold maxLen; omega, fun i hi => ?_⟩
 all_goals
  rw [hp] at hi
  have hi : i < 1 := hi
  obtain rfl : i = 0 := by omega
 ·rw [hp]
  exact ⟨h1.rd rfl, by show 1 ≤ maxLen; unfold maxLen; omega⟩
 ·exact ⟨Nat.le_refl _, by show 1 ≤ maxLen; unfold maxLen; omega⟩
theorem addY_nil (a : Addr) : a.add 0 = a := by unfold Addr.add; simp
theorem pAt_word {w : World} {p : Pln} {A : Option Addr} {n : Nat} {sl : List Sl} {x : BitVec 64} (h : PAt w p A n sl) (hp : p.words = [[x]]) :
 n = 1 ∧ ∃ ad ad2 c, A = some ad ∧ ad.block < w.heap.size ∧ w.cell? ad = some (.slice (some ad2) 1 c) ∧ ad2.block < w.heap.size ∧ w.cell? ad2 = some (.int .u64 (x.toNat : Int)) := by
 have h1 := h.wl
 rw [hp] at h1
 have h1 : 1 = n := h1
 subst h1
 obtain ⟨ad, e, hb, hc, hr, _, hl⟩ := h.row (k := 0) (by omega)
 rw [hp] at hr hl
 have hl : 1 = (sl.getD 0 default).len := hl
 rw [← hl] at hr hc
 obtain ⟨ad2, u, e2, hb2, hu, hc2⟩ := hr.get1 (k := 0) (by omega)
 rw [e2] at hc
 rw [addY_nil] at hc hc2
 have hu : some (w64 x) = some u := hu
 cases hu
 exact ⟨rfl, ad, ad2, _, e, hb, hc, hb2, hc2⟩
set_option maxRecDepth 100000 in
set_option maxHeartbeats 2000000 in
theorem parity_any (w : World) : Calls Try.prog 29 #[] w fun e w' => ∃ (HA NA : Option Addr) (sl : List Sl), e = .returned (.agg #[.int .i64 2, .slice HA 2 2, .slice NA 3 3]) ∧ TAt w' parT HA NA 2 3 sl ∧ Below w.heap.size w w' := by
 go_enter Try.func29, Try.ntmps29
 go_upto_region 1 with fail
 have RB : Hid (Row (World.alloc w (.cells #[.int .i64 0, .slice none 0 0, .slice none 0 0] 25)) (w.heap.size) 25 [.int .i64 0, .slice none 0 0, .slice none 0 0]) := by
  have h0 := Row.new w 25 [.int .i64 0, .slice none 0 0, .slice none 0 0]
  try simp only [World.size_alloc] at h0
  exact h0
 have hgr9 : Below w.heap.size w (World.alloc w (.cells #[.int .i64 0, .slice none 0 0, .slice none 0 0] 25)) := by go_grown
 have B_w : Hid (Below w.heap.size w (World.alloc w (.cells #[.int .i64 0, .slice none 0 0, .slice none 0 0] 25))) := hgr9
 clear hgr9
 revert RB B_w
 generalize (World.alloc w (.cells #[.int .i64 0, .slice none 0 0, .slice none 0 0] 25)) = wa
 intro RB B_w
 have RB5 : Hid (Row (World.alloc (World.alloc (World.alloc (World.alloc (World.alloc wa (.cells #[.int .i64 (-1), .int .i64 0, .int .i64 1, .int .i64 0] 73)) (.cells #[.int .i64 0, .int .i64 1] 3)) (.cells #[.int .i64 1, .int .i64 0] 3)) (.cells #[.int .i64 0, .int .i64 1] 3)) (.cells #[.int .i64 1, .slice (some ⟨wa.heap.size + 1, 0, none⟩) 2 2, .int .i64 1, .slice (some ⟨wa.heap.size + 1 + 1, 0, none⟩) 2 2, .int .i64 2, .slice (some ⟨wa.heap.size + 1 + 1 + 1, 0, none⟩) 2 2] 64)) w.heap.size 25 [.int .i64 0, .slice none 0 0, .slice none 0 0]) := ((((RB.out.alloc _).alloc _).alloc _).alloc _).alloc _
 have R0 : Hid (Row (World.alloc (World.alloc (World.alloc (World.alloc (World.alloc wa (.cells #[.int .i64 (-1), .int .i64 0, .int .i64 1, .int .i64 0] 73)) (.cells #[.int .i64 0, .int .i64 1] 3)) (.cells #[.int .i64 1, .int .i64 0] 3)) (.cells #[.int .i64 0, .int .i64 1] 3)) (.cells #[.int .i64 1, .slice (some ⟨wa.heap.size + 1, 0, none⟩) 2 2, .int .i64 1, .slice (some ⟨wa.heap.size + 1 + 1, 0, none⟩) 2 2, .int .i64 2, .slice (some ⟨wa.heap.size + 1 + 1 + 1, 0, none⟩) 2 2] 64)) (wa.heap.size) 73 [.int .i64 (-1), .int .i64 0, .int .i64 1, .int .i64 0]) := (by have h0 := Row.new wa 73 [.int .i64 (-1), .int .i64 0, .int .i64 1, .int .i64 0]; (try simp only [World.size_alloc] at h0); exact ((((h0.alloc _).alloc _).alloc _).alloc _))
 have R1 : Hid (Row (World.alloc (World.alloc (World.alloc (World.alloc (World.alloc wa (.cells #[.int .i64 (-1), .int .i64 0, .int .i64 1, .int .i64 0] 73)) (.cells #[.int .i64 0, .int .i64 1] 3)) (.cells #[.int .i64 1, .int .i64 0] 3)) (.cells #[.int .i64 0, .int .i64 1] 3)) (.cells #[.int .i64 1, .slice (some ⟨wa.heap.size + 1, 0, none⟩) 2 2, .int .i64 1, .slice (some ⟨wa.heap.size + 1 + 1, 0, none⟩) 2 2, .int .i64 2, .slice (some ⟨wa.heap.size + 1 + 1 + 1, 0, none⟩) 2 2] 64)) (wa.heap.size + 1) 3 [.int .i64 0, .int .i64 1]) := (by have h0 := Row.new (World.alloc wa (.cells #[.int .i64 (-1), .int .i64 0, .int .i64 1, .int .i64 0] 73)) 3 [.int .i64 0, .int .i64 1]; (try simp only [World.size_alloc] at h0); exact (((h0.alloc _).alloc _).alloc _))
 have R2 : Hid (Row (World.alloc (World.alloc (World.alloc (World.alloc (World.alloc wa (.cells #[.int .i64 (-1), .int .i64 0, .int .i64 1, .int .i64 0] 73)) (.cells #[.int .i64 0, .int .i64 1] 3)) (.cells #[.int .i64 1, .int .i64 0] 3)) (.cells #[.int .i64 0, .int .i64 1] 3)) (.cells #[.int .i64 1, .slice (some ⟨wa.heap.size + 1, 0, none⟩) 2 2, .int .i64 1, .slice (some ⟨wa.heap.size + 1 + 1, 0, none⟩) 2 2, .int .i64 2, .slice (some ⟨wa.heap.size + 1 + 1 + 1, 0, none⟩) 2 2] 64)) (wa.heap.size + 1 + 1) 3 [.int .i64 1, .int .i64 0]) := (by have h0 := Row.new (World.alloc (World.alloc wa (.cells #[.int .i64 (-1), .int .i64 0, .int .i64 1, .int .i64 0] 73)) (.cells #[.int .i64 0, .int .i64 1] 3)) 3 [.int .i64 1, .int .i64 0]; (try simp only [World.size_alloc] at h0); exact ((h0.alloc _).alloc _))
 have R3 : Hid (Row (World.alloc (World.alloc (World.alloc (World.alloc (World.alloc wa (.cells #[.int .i64 (-1), .int .i64 0, .int .i64 1, .int .i64 0] 73)) (.cells #[.int .i64 0, .int .i64 1] 3)) (.cells #[.int .i64 1, .int .i64 0] 3)) (.cells #[.int .i64 0, .int .i64 1] 3)) (.cells #[.int .i64 1, .slice (some ⟨wa.heap.size + 1, 0, none⟩) 2 2, .int .i64 1, .slice (some ⟨wa.heap.size + 1 + 1, 0, none⟩) 2 2, .int .i64 2, .slice (some ⟨wa.heap.size + 1 + 1 + 1, 0, none⟩) 2 2] 64)) (wa.heap.size + 1 + 1 + 1) 3 [.int .i64 0, .int .i64 1]) := (by have h0 := Row.new (World.alloc (World.alloc (World.alloc wa (.cells #[.int .i64 (-1), .int .i64 0, .int .i64 1, .int .i64 0] 73)) (.cells #[.int .i64 0, .int .i64 1] 3)) (.cells #[.int .i64 1, .int .i64 0] 3)) 3 [.int .i64 0, .int .i64 1]; (try simp only [World.size_alloc] at h0); exact (h0.alloc _))
 have R4 : Hid (Row (World.alloc (World.alloc (World.alloc (World.alloc (World.alloc wa (.cells #[.int .i64 (-1), .int .i64 0, .int .i64 1, .int .i64 0] 73)) (.cells #[.int .i64 0, .int .i64 1] 3)) (.cells #[.int .i64 1, .int .i64 0] 3)) (.cells #[.int .i64 0, .int .i64 1] 3)) (.cells #[.int .i64 1, .slice (some ⟨wa.heap.size + 1, 0, none⟩) 2 2, .int .i64 1, .slice (some ⟨wa.heap.size + 1 + 1, 0, none⟩) 2 2, .int .i64 2, .slice (some ⟨wa.heap.size + 1 + 1 + 1, 0, none⟩) 2 2] 64)) (wa.heap.size + 1 + 1 + 1 + 1) 64 [.int .i64 1, .slice (some ⟨wa.heap.size + 1, 0, none⟩) 2 2, .int .i64 1, .slice (some ⟨wa.heap.size + 1 + 1, 0, none⟩) 2 2, .int .i64 2, .slice (some ⟨wa.heap.size + 1 + 1 + 1, 0, none⟩) 2 2]) := (by have h0 := Row.new (World.alloc (World.alloc (World.alloc (World.alloc wa (.cells #[.int .i64 (-1), .int .i64 0, .int .i64 1, .int .i64 0] 73)) (.cells #[.int .i64 0, .int .i64 1] 3)) (.cells #[.int .i64 1, .int .i64 0] 3)) (.cells #[.int .i64 0, .int .i64 1] 3)) 64 [.int .i64 1, .slice (some ⟨wa.heap.size + 1, 0, none⟩) 2 2, .int .i64 1, .slice (some ⟨wa.heap.size + 1 + 1, 0, none⟩) 2 2, .int .i64 2, .slice (some ⟨wa.heap.size + 1 + 1 + 1, 0, none⟩) 2 2]; (try simp only [World.size_alloc] at h0); exact h0)
 have BC5 : Hid (Below w.heap.size w (World.alloc (World.alloc (World.alloc (World.alloc (World.alloc wa (.cells #[.int .i64 (-1), .int .i64 0, .int .i64 1, .int .i64 0] 73)) (.cells #[.int .i64 0, .int .i64 1] 3)) (.cells #[.int .i64 1, .int .i64 0] 3)) (.cells #[.int .i64 0, .int .i64 1] 3)) (.cells #[.int .i64 1, .slice (some ⟨wa.heap.size + 1, 0, none⟩) 2 2, .int .i64 1, .slice (some ⟨wa.heap.size + 1 + 1, 0, none⟩) 2 2, .int .i64 2, .slice (some ⟨wa.heap.size + 1 + 1 + 1, 0, none⟩) 2 2] 64))) := below_on2 B_w.out (by go_grown)
 have hsz : w.heap.size < wa.heap.size := RB.out.lt
 obtain ⟨z0, z1, z2, zl⟩ := RB5.out.cells3
 have zf0 := RB5.out.frozen 0
 have zf1 := RB5.out.frozen 1
 have zf2 := RB5.out.frozen 2
 go_wp2_with fail
 have Z9 : Row (World.setCell (World.setCell (World.setCell (World.alloc (World.alloc (World.alloc (World.alloc (World.alloc wa (.cells #[.int .i64 (-1), .int .i64 0, .int .i64 1, .int .i64 0] 73)) (.cells #[.int .i64 0, .int .i64 1] 3)) (.cells #[.int .i64 1, .int .i64 0] 3)) (.cells #[.int .i64 0, .int .i64 1] 3)) (.cells #[.int .i64 1, .slice (some ⟨wa.heap.size + 1, 0, none⟩) 2 2, .int .i64 1, .slice (some ⟨wa.heap.size + 1 + 1, 0, none⟩) 2 2, .int .i64 2, .slice (some ⟨wa.heap.size + 1 + 1 + 1, 0, none⟩) 2 2] 64)) ⟨w.heap.size, 0, none⟩ (.int .i64 2)) ⟨w.heap.size, 1, none⟩ (.slice (some ⟨wa.heap.size, 0, none⟩) 2 2)) ⟨w.heap.size, 2, none⟩ (.slice (some ⟨wa.heap.size + 1 + 1 + 1 + 1, 0, none⟩) 3 3)) w.heap.size 25 [.int .i64 2, .slice (some ⟨wa.heap.size, 0, none⟩) 2 2, .slice (some ⟨wa.heap.size + 1 + 1 + 1 + 1, 0, none⟩) 3 3] := (Row.set (Row.set (Row.set RB5.out 0 (.int .i64 2)) 1 (.slice (some ⟨wa.heap.size, 0, none⟩) 2 2)) 2 (.slice (some ⟨wa.heap.size + 1 + 1 + 1 + 1, 0, none⟩) 3 3))
 have B9 : Below w.heap.size w (World.setCell (World.setCell (World.setCell (World.alloc (World.alloc (World.alloc (World.alloc (World.alloc wa (.cells #[.int .i64 (-1), .int .i64 0, .int .i64 1, .int .i64 0] 73)) (.cells #[.int .i64 0, .int .i64 1] 3)) (.cells #[.int .i64 1, .int .i64 0] 3)) (.cells #[.int .i64 0, .int .i64 1] 3)) (.cells #[.int .i64 1, .slice (some ⟨wa.heap.size + 1, 0, none⟩) 2 2, .int .i64 1, .slice (some ⟨wa.heap.size + 1 + 1, 0, none⟩) 2 2, .int .i64 2, .slice (some ⟨wa.heap.size + 1 + 1 + 1, 0, none⟩) 2 2] 64)) ⟨w.heap.size, 0, none⟩ (.int .i64 2)) ⟨w.heap.size, 1, none⟩ (.slice (some ⟨wa.heap.size, 0, none⟩) 2 2)) ⟨w.heap.size, 2, none⟩ (.slice (some ⟨wa.heap.size + 1 + 1 + 1 + 1, 0, none⟩) 3 3)) := (Below.setCell (Below.setCell (Below.setCell BC5.out (p := ⟨w.heap.size, 0, none⟩) (Nat.le_refl _) (.int .i64 2)) (p := ⟨w.heap.size, 1, none⟩) (Nat.le_refl _) (.slice (some ⟨wa.heap.size, 0, none⟩) 2 2)) (p := ⟨w.heap.size, 2, none⟩) (Nat.le_refl _) (.slice (some ⟨wa.heap.size + 1 + 1 + 1 + 1, 0, none⟩) 3 3))
 have T9 : TAt (World.setCell (World.setCell (World.setCell (World.alloc (World.alloc (World.alloc (World.alloc (World.alloc wa (.cells #[.int .i64 (-1), .int .i64 0, .int .i64 1, .int .i64 0] 73)) (.cells #[.int .i64 0, .int .i64 1] 3)) (.cells #[.int .i64 1, .int .i64 0] 3)) (.cells #[.int .i64 0, .int .i64 1] 3)) (.cells #[.int .i64 1, .slice (some ⟨wa.heap.size + 1, 0, none⟩) 2 2, .int .i64 1, .slice (some ⟨wa.heap.size + 1 + 1, 0, none⟩) 2 2, .int .i64 2, .slice (some ⟨wa.heap.size + 1 + 1 + 1, 0, none⟩) 2 2] 64)) ⟨w.heap.size, 0, none⟩ (.int .i64 2)) ⟨w.heap.size, 1, none⟩ (.slice (some ⟨wa.heap.size, 0, none⟩) 2 2)) ⟨w.heap.size, 2, none⟩ (.slice (some ⟨wa.heap.size + 1 + 1 + 1 + 1, 0, none⟩) 3 3)) parT (some ⟨wa.heap.size, 0, none⟩) (some ⟨wa.heap.size + 1 + 1 + 1 + 1, 0, none⟩) 2 3 _ := par_at (Row.far (Row.far (Row.far R0.out (p := ⟨w.heap.size, 0, none⟩) (by show wa.heap.size ≠ w.heap.size; omega) (.int .i64 2)) (p := ⟨w.heap.size, 1, none⟩) (by show wa.heap.size ≠ w.heap.size; omega) (.slice (some ⟨wa.heap.size, 0, none⟩) 2 2)) (p := ⟨w.heap.size, 2, none⟩) (by show wa.heap.size ≠ w.heap.size; omega) (.slice (some ⟨wa.heap.size + 1 + 1 + 1 + 1, 0, none⟩) 3 3)) (Row.far (Row.far (Row.far R1.out (p := ⟨w.heap.size, 0, none⟩) (by show wa.heap.size + 1 ≠ w.heap.size; omega) (.int .i64 2)) (p := ⟨w.heap.size, 1, none⟩) (by show wa.heap.size + 1 ≠ w.heap.size; omega) (.slice (some ⟨wa.heap.size, 0, none⟩) 2 2)) (p := ⟨w.heap.size, 2, none⟩) (by show wa.heap.size + 1 ≠ w.heap.size; omega) (.slice (some ⟨wa.heap.size + 1 + 1 + 1 + 1, 0, none⟩) 3 3)) (Row.far (Row.far (Row.far R2.out (p := ⟨w.heap.size, 0, none⟩) (by show wa.heap.size + 1 + 1 ≠ w.heap.size; omega) (.int .i64 2)) (p := ⟨w.heap.size, 1, none⟩) (by show wa.heap.size + 1 + 1 ≠ w.heap.size; omega) (.slice (some ⟨wa.heap.size, 0, none⟩) 2 2)) (p := ⟨w.heap.size, 2, none⟩) (by show wa.heap.size + 1 + 1 ≠ w.heap.size; omega) (.slice (some ⟨wa.heap.size + 1 + 1 + 1 + 1, 0, none⟩) 3 3)) (Row.far (Row.far (Row.far R3.out (p := ⟨w.heap.size, 0, none⟩) (by show wa.heap.size + 1 + 1 + 1 ≠ w.heap.size; omega) (.int .i64 2)) (p := ⟨w.heap.size, 1, none⟩) (by show wa.heap.size + 1 + 1 + 1 ≠ w.heap.size; omega) (.slice (some ⟨wa.heap.size, 0, none⟩) 2 2)) (p := ⟨w.heap.size, 2, none⟩) (by show wa.heap.size + 1 + 1 + 1 ≠ w.heap.size; omega) (.slice (some ⟨wa.heap.size + 1 + 1 + 1 + 1, 0, none⟩) 3 3)) (Row.far (Row.far (Row.far R4.out (p := ⟨w.heap.size, 0, none⟩) (by show wa.heap.size + 1 + 1 + 1 + 1 ≠ w.heap.size; omega) (.int .i64 2)) (p := ⟨w.heap.size, 1, none⟩) (by show wa.heap.size + 1 + 1 + 1 + 1 ≠ w.heap.size; omega) (.slice (some ⟨wa.heap.size, 0, none⟩) 2 2)) (p := ⟨w.heap.size, 2, none⟩) (by show wa.heap.size + 1 + 1 + 1 + 1 ≠ w.heap.size; omega) (.slice (some ⟨wa.heap.size + 1 + 1 + 1 + 1, 0, none⟩) 3 3))
 have d0 := Z9.cell 0
 have d1 := Z9.cell 1
 have d2 := Z9.cell 2
 simp only [List.getElem?_cons_zero, List.getElem?_cons_succ] at d0 d1 d2
 clear Z9
 refine bodyPost_ret (v := .agg #[.int .i64 2, .slice (some ⟨wa.heap.size, 0, none⟩) 2 2, .slice (some ⟨wa.heap.size + 1 + 1 + 1 + 1, 0, none⟩) 3 3]) (by simp [results, Try.results29, go_sem, d0, d1, d2]) rfl ?_
 exact ⟨_, _, _, rfl, T9, B9⟩
set_option maxRecDepth 100000 in
set_option maxHeartbeats 8000000 in
theorem alive_any (w : World) : Calls Try.prog 9 #[] w fun e w' => e = .returned (.bool true) ∧ Below w.heap.size w w' := by
 obtain ⟨t, ht⟩ : ∃ t, t = parT := ⟨_, rfl⟩
 have HPT : Hid (∀ _ : Unit, t = parT) := fun _ => ht
 have HRT : Hid (rightT t = true) := by rw [ht]; exact par_right
 have HPO : Hid ((circT t).outs.length = 1) := by rw [ht]; exact par_outs
 have HP1 : Hid (runErr t exP 1 = 0 ∧ runPl t exP 1 = ex1) := by rw [ht]; exact par_1
 have HP2 : Hid (runErr t exP 2 = 0 ∧ runPl t exP 2 = ex2) := by rw [ht]; exact par_2
 have HP3 : Hid (runErr t exP (-1) = 2 ∧ runPl t exP (-1) = noPln) := by rw [ht]; exact par_3
 have HP4 : Hid (runErr t noPln 1 = 2 ∧ runPl t noPln 1 = noPln) := by rw [ht]; exact par_4
 have HST : Hid (t.states = 2) := by rw [ht]; rfl
 clear ht
 go_enter Try.func9, Try.ntmps9
 go_wp2_with fail
 refine (parity_any w).mono ?_
 rintro e w1 ⟨TA, TN, sl, rfl, hat, hb⟩
 rw [← HPT.out ()] at hat
 have HT : Hid (TAt w1 t TA TN 2 3 sl) := hat
 clear hat
 have B_w : Hid (Below w.heap.size w w1) := hb
 clear hb
 go_wp2_with fail
 have HC := new_any t TA TN 2 2 3 3 sl w1 HT.out (by omega)
 rw [HST.out] at HC
 unfold EngPost at HC
 refine HC.mono ?_
 clear HC
 rintro e w2 (⟨_, b, GA, OA, PA, gn, gc, on, oc, pn, pc, rfl, heng, hb⟩ | ⟨hr, _, _⟩)
 rotate_left 1
 ·exact absurd hr (by rw [HRT.out]; decide)
 have HE : Hid (EngAt w2 b t GA OA PA gn gc on oc pn pc) := heng
 obtain rfl : 1 = on := by rw [← heng.circ.ol]; exact HPO.out.symm
 clear heng
 have B_w : Hid (Below w.heap.size w w2) := below_on2 B_w.out hb
 have B_w1 : Hid (Below w1.heap.size w1 w2) := hb
 clear hb
 go_upto_region 5 with fail
 have RX0 : Hid (Row (World.alloc (World.alloc (World.alloc w2 (.cells #[.int .u64 4] 66)) (.cells #[.slice (some ⟨w2.heap.size, 0, none⟩) 1 1] 67)) (.cells #[.int .i64 5, .int .i64 1, .int .i64 1, .slice (some ⟨w2.heap.size + 1, 0, none⟩) 1 1] 42)) (w2.heap.size) 66 [.int .u64 4]) := by
  have h0 := Row.new w2 66 [.int .u64 4]
  try simp only [World.size_alloc] at h0
  exact ((h0.alloc _).alloc _)
 have RX1 : Hid (Row (World.alloc (World.alloc (World.alloc w2 (.cells #[.int .u64 4] 66)) (.cells #[.slice (some ⟨w2.heap.size, 0, none⟩) 1 1] 67)) (.cells #[.int .i64 5, .int .i64 1, .int .i64 1, .slice (some ⟨w2.heap.size + 1, 0, none⟩) 1 1] 42)) (w2.heap.size + 1) 67 [.slice (some ⟨w2.heap.size, 0, none⟩) 1 1]) := by
  have h0 := Row.new (World.alloc w2 (.cells #[.int .u64 4] 66)) 67 [.slice (some ⟨w2.heap.size, 0, none⟩) 1 1]
  try simp only [World.size_alloc] at h0
  exact (h0.alloc _)
 have RP : Hid (Row (World.alloc (World.alloc (World.alloc w2 (.cells #[.int .u64 4] 66)) (.cells #[.slice (some ⟨w2.heap.size, 0, none⟩) 1 1] 67)) (.cells #[.int .i64 5, .int .i64 1, .int .i64 1, .slice (some ⟨w2.heap.size + 1, 0, none⟩) 1 1] 42)) (w2.heap.size + 1 + 1) 42 [.int .i64 5, .int .i64 1, .int .i64 1, .slice (some ⟨w2.heap.size + 1, 0, none⟩) 1 1]) := by
  have h0 := Row.new (World.alloc (World.alloc w2 (.cells #[.int .u64 4] 66)) (.cells #[.slice (some ⟨w2.heap.size, 0, none⟩) 1 1] 67)) 42 [.int .i64 5, .int .i64 1, .int .i64 1, .slice (some ⟨w2.heap.size + 1, 0, none⟩) 1 1]
  try simp only [World.size_alloc] at h0
  exact h0
 have hgr9 : Below w2.heap.size w2 (World.alloc (World.alloc (World.alloc w2 (.cells #[.int .u64 4] 66)) (.cells #[.slice (some ⟨w2.heap.size, 0, none⟩) 1 1] 67)) (.cells #[.int .i64 5, .int .i64 1, .int .i64 1, .slice (some ⟨w2.heap.size + 1, 0, none⟩) 1 1] 42)) := by go_grown
 have B_w : Hid (Below w.heap.size w (World.alloc (World.alloc (World.alloc w2 (.cells #[.int .u64 4] 66)) (.cells #[.slice (some ⟨w2.heap.size, 0, none⟩) 1 1] 67)) (.cells #[.int .i64 5, .int .i64 1, .int .i64 1, .slice (some ⟨w2.heap.size + 1, 0, none⟩) 1 1] 42))) := below_on2 B_w.out hgr9
 have B_w1 : Hid (Below w1.heap.size w1 (World.alloc (World.alloc (World.alloc w2 (.cells #[.int .u64 4] 66)) (.cells #[.slice (some ⟨w2.heap.size, 0, none⟩) 1 1] 67)) (.cells #[.int .i64 5, .int .i64 1, .int .i64 1, .slice (some ⟨w2.heap.size + 1, 0, none⟩) 1 1] 42))) := below_on2 B_w1.out hgr9
 have B_w2 : Hid (Below w2.heap.size w2 (World.alloc (World.alloc (World.alloc w2 (.cells #[.int .u64 4] 66)) (.cells #[.slice (some ⟨w2.heap.size, 0, none⟩) 1 1] 67)) (.cells #[.int .i64 5, .int .i64 1, .int .i64 1, .slice (some ⟨w2.heap.size + 1, 0, none⟩) 1 1] 42))) := hgr9
 clear hgr9
 revert RX0 RX1 RP B_w B_w1 B_w2
 generalize (World.alloc (World.alloc (World.alloc w2 (.cells #[.int .u64 4] 66)) (.cells #[.slice (some ⟨w2.heap.size, 0, none⟩) 1 1] 67)) (.cells #[.int .i64 5, .int .i64 1, .int .i64 1, .slice (some ⟨w2.heap.size + 1, 0, none⟩) 1 1] 42)) = wc
 intro RX0 RX1 RP B_w B_w1 B_w2
 have HPX : Hid (PAt wc exP (some ⟨w2.heap.size + 1, 0, none⟩) 1 [⟨some ⟨w2.heap.size, 0, none⟩, 1, 1⟩]) := pAt_one 4#64 RX0.out RX1.out rfl
 have kR : Hid (Row wc (w2.heap.size + 1 + 1) 42 [.int .i64 5, .int .i64 1, .int .i64 1, .slice (some ⟨w2.heap.size + 1, 0, none⟩) 1 1]) := RP.out
 obtain ⟨k0, k1, k2, k3, kl⟩ := kR.out.cells4
 clear kR
 go_wp2_with fail
 have HC := step_any b t GA OA PA gn gc 1 oc pn pc exP (some ⟨w2.heap.size + 1, 0, none⟩) 1 1 [⟨some ⟨w2.heap.size, 0, none⟩, 1, 1⟩] wc (HE.out.up B_w2.out) HPX.out
 rw [HP1.out.1, HP1.out.2] at HC
 unfold PlPostA at HC
 refine HC.mono ?_
 clear HC
 rintro e w3 ⟨QA, Qn, Qc, Qs, he, -, hat, hb⟩
 have he2 : e = .returned (.tuple #[.agg #[.int .i64 5, .int .i64 1, .int .i64 1, .slice QA Qn Qc], .int .i64 0]) := he
 subst he2
 have HQ : Hid (PAt w3 ex1 QA Qn Qs) := hat
 clear he hat
 have B_w : Hid (Below w.heap.size w w3) := below_on2 B_w.out hb
 have B_w1 : Hid (Below w1.heap.size w1 w3) := below_on2 B_w1.out hb
 have B_w2 : Hid (Below w2.heap.size w2 w3) := below_on2 B_w2.out hb
 have B_wc : Hid (Below wc.heap.size wc w3) := hb
 clear k0 k1 k2 k3 kl
 clear hb
 obtain rfl : 1 = Qn := HQ.out.wl
 go_upto_region 6 with fail
 have RQ : Hid (Row (World.alloc w3 (.cells #[.int .i64 5, .int .i64 1, .int .i64 1, .slice QA 1 Qc] 42)) (w3.heap.size) 42 [.int .i64 5, .int .i64 1, .int .i64 1, .slice QA 1 Qc]) := by
  have h0 := Row.new w3 42 [.int .i64 5, .int .i64 1, .int .i64 1, .slice QA 1 Qc]
  try simp only [World.size_alloc] at h0
  exact h0
 have hgr9 : Below w3.heap.size w3 (World.alloc w3 (.cells #[.int .i64 5, .int .i64 1, .int .i64 1, .slice QA 1 Qc] 42)) := by go_grown
 have B_w : Hid (Below w.heap.size w (World.alloc w3 (.cells #[.int .i64 5, .int .i64 1, .int .i64 1, .slice QA 1 Qc] 42))) := below_on2 B_w.out hgr9
 have B_w1 : Hid (Below w1.heap.size w1 (World.alloc w3 (.cells #[.int .i64 5, .int .i64 1, .int .i64 1, .slice QA 1 Qc] 42))) := below_on2 B_w1.out hgr9
 have B_w2 : Hid (Below w2.heap.size w2 (World.alloc w3 (.cells #[.int .i64 5, .int .i64 1, .int .i64 1, .slice QA 1 Qc] 42))) := below_on2 B_w2.out hgr9
 have B_wc : Hid (Below wc.heap.size wc (World.alloc w3 (.cells #[.int .i64 5, .int .i64 1, .int .i64 1, .slice QA 1 Qc] 42))) := below_on2 B_wc.out hgr9
 have B_w3 : Hid (Below w3.heap.size w3 (World.alloc w3 (.cells #[.int .i64 5, .int .i64 1, .int .i64 1, .slice QA 1 Qc] 42))) := hgr9
 clear hgr9
 revert RQ B_w B_w1 B_w2 B_wc B_w3
 generalize (World.alloc w3 (.cells #[.int .i64 5, .int .i64 1, .int .i64 1, .slice QA 1 Qc] 42)) = w4
 intro RQ B_w B_w1 B_w2 B_wc B_w3
 have kR : Hid (Row w4 (w2.heap.size + 1 + 1) 42 [.int .i64 5, .int .i64 1, .int .i64 1, .slice (some ⟨w2.heap.size + 1, 0, none⟩) 1 1]) := (rowCells RP.out B_wc.out)
 obtain ⟨k0, k1, k2, k3, kl⟩ := kR.out.cells4
 clear kR
 go_wp2_with fail
 have HC := run_any b t GA OA PA gn gc 1 oc pn pc exP (some ⟨w2.heap.size + 1, 0, none⟩) 1 1 [⟨some ⟨w2.heap.size, 0, none⟩, 1, 1⟩] 2 w4 (HE.out.up B_w2.out) (HPX.out.up B_wc.out)
 rw [HP2.out.1, HP2.out.2] at HC
 unfold PlPostA at HC
 refine HC.mono ?_
 clear HC
 rintro e w5 ⟨RA, Rn, Rc, Rs, he, -, hat, hb⟩
 have he2 : e = .returned (.tuple #[.agg #[.int .i64 5, .int .i64 1, .int .i64 1, .slice RA Rn Rc], .int .i64 0]) := he
 subst he2
 have HR : Hid (PAt w5 ex2 RA Rn Rs) := hat
 clear he hat
 have B_w : Hid (Below w.heap.size w w5) := below_on2 B_w.out hb
 have B_w1 : Hid (Below w1.heap.size w1 w5) := below_on2 B_w1.out hb
 have B_w2 : Hid (Below w2.heap.size w2 w5) := below_on2 B_w2.out hb
 have B_wc : Hid (Below wc.heap.size wc w5) := below_on2 B_wc.out hb
 have B_w3 : Hid (Below w3.heap.size w3 w5) := below_on2 B_w3.out hb
 have B_w4 : Hid (Below w4.heap.size w4 w5) := hb
 clear k0 k1 k2 k3 kl
 clear hb
 obtain rfl : 1 = Rn := HR.out.wl
 go_upto_region 7 with fail
 have RR : Hid (Row (World.alloc w5 (.cells #[.int .i64 5, .int .i64 1, .int .i64 1, .slice RA 1 Rc] 42)) (w5.heap.size) 42 [.int .i64 5, .int .i64 1, .int .i64 1, .slice RA 1 Rc]) := by
  have h0 := Row.new w5 42 [.int .i64 5, .int .i64 1, .int .i64 1, .slice RA 1 Rc]
  try simp only [World.size_alloc] at h0
  exact h0
 have hgr9 : Below w5.heap.size w5 (World.alloc w5 (.cells #[.int .i64 5, .int .i64 1, .int .i64 1, .slice RA 1 Rc] 42)) := by go_grown
 have B_w : Hid (Below w.heap.size w (World.alloc w5 (.cells #[.int .i64 5, .int .i64 1, .int .i64 1, .slice RA 1 Rc] 42))) := below_on2 B_w.out hgr9
 have B_w1 : Hid (Below w1.heap.size w1 (World.alloc w5 (.cells #[.int .i64 5, .int .i64 1, .int .i64 1, .slice RA 1 Rc] 42))) := below_on2 B_w1.out hgr9
 have B_w2 : Hid (Below w2.heap.size w2 (World.alloc w5 (.cells #[.int .i64 5, .int .i64 1, .int .i64 1, .slice RA 1 Rc] 42))) := below_on2 B_w2.out hgr9
 have B_wc : Hid (Below wc.heap.size wc (World.alloc w5 (.cells #[.int .i64 5, .int .i64 1, .int .i64 1, .slice RA 1 Rc] 42))) := below_on2 B_wc.out hgr9
 have B_w3 : Hid (Below w3.heap.size w3 (World.alloc w5 (.cells #[.int .i64 5, .int .i64 1, .int .i64 1, .slice RA 1 Rc] 42))) := below_on2 B_w3.out hgr9
 have B_w4 : Hid (Below w4.heap.size w4 (World.alloc w5 (.cells #[.int .i64 5, .int .i64 1, .int .i64 1, .slice RA 1 Rc] 42))) := below_on2 B_w4.out hgr9
 have B_w5 : Hid (Below w5.heap.size w5 (World.alloc w5 (.cells #[.int .i64 5, .int .i64 1, .int .i64 1, .slice RA 1 Rc] 42))) := hgr9
 clear hgr9
 revert RR B_w B_w1 B_w2 B_wc B_w3 B_w4 B_w5
 generalize (World.alloc w5 (.cells #[.int .i64 5, .int .i64 1, .int .i64 1, .slice RA 1 Rc] 42)) = w6
 intro RR B_w B_w1 B_w2 B_wc B_w3 B_w4 B_w5
 have kR : Hid (Row w6 (w2.heap.size + 1 + 1) 42 [.int .i64 5, .int .i64 1, .int .i64 1, .slice (some ⟨w2.heap.size + 1, 0, none⟩) 1 1]) := (rowCells RP.out B_wc.out)
 obtain ⟨k0, k1, k2, k3, kl⟩ := kR.out.cells4
 clear kR
 go_wp2_with fail
 have HC := run_any b t GA OA PA gn gc 1 oc pn pc exP (some ⟨w2.heap.size + 1, 0, none⟩) 1 1 [⟨some ⟨w2.heap.size, 0, none⟩, 1, 1⟩] (-1) w6 (HE.out.up B_w2.out) (HPX.out.up B_wc.out)
 rw [HP3.out.1, HP3.out.2] at HC
 unfold PlPostA at HC
 refine HC.mono ?_
 clear HC
 rintro e w7 ⟨SA, Sn, Sc, Ss, he, -, hat, hb⟩
 have he2 : e = .returned (.tuple #[.agg #[.int .i64 0, .int .i64 0, .int .i64 0, .slice SA Sn Sc], .int .i64 2]) := he
 subst he2
 have HS : Hid (PAt w7 noPln SA Sn Ss) := hat
 clear he hat
 have B_w : Hid (Below w.heap.size w w7) := below_on2 B_w.out hb
 have B_w1 : Hid (Below w1.heap.size w1 w7) := below_on2 B_w1.out hb
 have B_w2 : Hid (Below w2.heap.size w2 w7) := below_on2 B_w2.out hb
 have B_wc : Hid (Below wc.heap.size wc w7) := below_on2 B_wc.out hb
 have B_w3 : Hid (Below w3.heap.size w3 w7) := below_on2 B_w3.out hb
 have B_w4 : Hid (Below w4.heap.size w4 w7) := below_on2 B_w4.out hb
 have B_w5 : Hid (Below w5.heap.size w5 w7) := below_on2 B_w5.out hb
 have B_w6 : Hid (Below w6.heap.size w6 w7) := hb
 clear k0 k1 k2 k3 kl
 clear hb
 go_upto_region 8 with fail
 have hgr9 : Below w7.heap.size w7 (World.alloc w7 (.cells #[.int .i64 0, .int .i64 0, .int .i64 0, .slice SA Sn Sc] 42)) := by go_grown
 have B_w : Hid (Below w.heap.size w (World.alloc w7 (.cells #[.int .i64 0, .int .i64 0, .int .i64 0, .slice SA Sn Sc] 42))) := below_on2 B_w.out hgr9
 have B_w1 : Hid (Below w1.heap.size w1 (World.alloc w7 (.cells #[.int .i64 0, .int .i64 0, .int .i64 0, .slice SA Sn Sc] 42))) := below_on2 B_w1.out hgr9
 have B_w2 : Hid (Below w2.heap.size w2 (World.alloc w7 (.cells #[.int .i64 0, .int .i64 0, .int .i64 0, .slice SA Sn Sc] 42))) := below_on2 B_w2.out hgr9
 have B_wc : Hid (Below wc.heap.size wc (World.alloc w7 (.cells #[.int .i64 0, .int .i64 0, .int .i64 0, .slice SA Sn Sc] 42))) := below_on2 B_wc.out hgr9
 have B_w3 : Hid (Below w3.heap.size w3 (World.alloc w7 (.cells #[.int .i64 0, .int .i64 0, .int .i64 0, .slice SA Sn Sc] 42))) := below_on2 B_w3.out hgr9
 have B_w4 : Hid (Below w4.heap.size w4 (World.alloc w7 (.cells #[.int .i64 0, .int .i64 0, .int .i64 0, .slice SA Sn Sc] 42))) := below_on2 B_w4.out hgr9
 have B_w5 : Hid (Below w5.heap.size w5 (World.alloc w7 (.cells #[.int .i64 0, .int .i64 0, .int .i64 0, .slice SA Sn Sc] 42))) := below_on2 B_w5.out hgr9
 have B_w6 : Hid (Below w6.heap.size w6 (World.alloc w7 (.cells #[.int .i64 0, .int .i64 0, .int .i64 0, .slice SA Sn Sc] 42))) := below_on2 B_w6.out hgr9
 have B_w7 : Hid (Below w7.heap.size w7 (World.alloc w7 (.cells #[.int .i64 0, .int .i64 0, .int .i64 0, .slice SA Sn Sc] 42))) := hgr9
 clear hgr9
 revert B_w B_w1 B_w2 B_wc B_w3 B_w4 B_w5 B_w6 B_w7
 generalize (World.alloc w7 (.cells #[.int .i64 0, .int .i64 0, .int .i64 0, .slice SA Sn Sc] 42)) = w8
 intro B_w B_w1 B_w2 B_wc B_w3 B_w4 B_w5 B_w6 B_w7
 go_wp2_with fail
 have HC := step_any b t GA OA PA gn gc 1 oc pn pc noPln none 0 0 [] w8 (HE.out.up B_w2.out) (noPln_at _)
 rw [HP4.out.1, HP4.out.2] at HC
 unfold PlPostA at HC
 refine HC.mono ?_
 clear HC
 rintro e w9 ⟨UA, Un, Uc, Us, he, -, hat, hb⟩
 have he2 : e = .returned (.tuple #[.agg #[.int .i64 0, .int .i64 0, .int .i64 0, .slice UA Un Uc], .int .i64 2]) := he
 subst he2
 have HU : Hid (PAt w9 noPln UA Un Us) := hat
 clear he hat
 have B_w : Hid (Below w.heap.size w w9) := below_on2 B_w.out hb
 have B_w1 : Hid (Below w1.heap.size w1 w9) := below_on2 B_w1.out hb
 have B_w2 : Hid (Below w2.heap.size w2 w9) := below_on2 B_w2.out hb
 have B_wc : Hid (Below wc.heap.size wc w9) := below_on2 B_wc.out hb
 have B_w3 : Hid (Below w3.heap.size w3 w9) := below_on2 B_w3.out hb
 have B_w4 : Hid (Below w4.heap.size w4 w9) := below_on2 B_w4.out hb
 have B_w5 : Hid (Below w5.heap.size w5 w9) := below_on2 B_w5.out hb
 have B_w6 : Hid (Below w6.heap.size w6 w9) := below_on2 B_w6.out hb
 have B_w7 : Hid (Below w7.heap.size w7 w9) := below_on2 B_w7.out hb
 have B_w8 : Hid (Below w8.heap.size w8 w9) := hb
 clear hb
 go_upto_region 9 with fail
 have hgr9 : Below w9.heap.size w9 (World.alloc w9 (.cells #[.int .i64 0, .int .i64 0, .int .i64 0, .slice UA Un Uc] 42)) := by go_grown
 have B_w : Hid (Below w.heap.size w (World.alloc w9 (.cells #[.int .i64 0, .int .i64 0, .int .i64 0, .slice UA Un Uc] 42))) := below_on2 B_w.out hgr9
 have B_w1 : Hid (Below w1.heap.size w1 (World.alloc w9 (.cells #[.int .i64 0, .int .i64 0, .int .i64 0, .slice UA Un Uc] 42))) := below_on2 B_w1.out hgr9
 have B_w2 : Hid (Below w2.heap.size w2 (World.alloc w9 (.cells #[.int .i64 0, .int .i64 0, .int .i64 0, .slice UA Un Uc] 42))) := below_on2 B_w2.out hgr9
 have B_wc : Hid (Below wc.heap.size wc (World.alloc w9 (.cells #[.int .i64 0, .int .i64 0, .int .i64 0, .slice UA Un Uc] 42))) := below_on2 B_wc.out hgr9
 have B_w3 : Hid (Below w3.heap.size w3 (World.alloc w9 (.cells #[.int .i64 0, .int .i64 0, .int .i64 0, .slice UA Un Uc] 42))) := below_on2 B_w3.out hgr9
 have B_w4 : Hid (Below w4.heap.size w4 (World.alloc w9 (.cells #[.int .i64 0, .int .i64 0, .int .i64 0, .slice UA Un Uc] 42))) := below_on2 B_w4.out hgr9
 have B_w5 : Hid (Below w5.heap.size w5 (World.alloc w9 (.cells #[.int .i64 0, .int .i64 0, .int .i64 0, .slice UA Un Uc] 42))) := below_on2 B_w5.out hgr9
 have B_w6 : Hid (Below w6.heap.size w6 (World.alloc w9 (.cells #[.int .i64 0, .int .i64 0, .int .i64 0, .slice UA Un Uc] 42))) := below_on2 B_w6.out hgr9
 have B_w7 : Hid (Below w7.heap.size w7 (World.alloc w9 (.cells #[.int .i64 0, .int .i64 0, .int .i64 0, .slice UA Un Uc] 42))) := below_on2 B_w7.out hgr9
 have B_w8 : Hid (Below w8.heap.size w8 (World.alloc w9 (.cells #[.int .i64 0, .int .i64 0, .int .i64 0, .slice UA Un Uc] 42))) := below_on2 B_w8.out hgr9
 have B_w9 : Hid (Below w9.heap.size w9 (World.alloc w9 (.cells #[.int .i64 0, .int .i64 0, .int .i64 0, .slice UA Un Uc] 42))) := hgr9
 clear hgr9
 revert B_w B_w1 B_w2 B_wc B_w3 B_w4 B_w5 B_w6 B_w7 B_w8 B_w9
 generalize (World.alloc w9 (.cells #[.int .i64 0, .int .i64 0, .int .i64 0, .slice UA Un Uc] 42)) = w10
 intro B_w B_w1 B_w2 B_wc B_w3 B_w4 B_w5 B_w6 B_w7 B_w8 B_w9
 go_wp2_with fail
 have HC := new_any ⟨0, [], []⟩ none none 0 0 0 0 [] w10 (tatY_zero _) (by omega)
 unfold EngPost at HC
 refine HC.mono ?_
 clear HC
 rintro e w11 (⟨hr, _⟩ | ⟨_, rfl, hb⟩)
 ·exact absurd hr (by rw [par_5]; decide)
 have B_w : Hid (Below w.heap.size w w11) := below_on2 B_w.out hb
 have B_w1 : Hid (Below w1.heap.size w1 w11) := below_on2 B_w1.out hb
 have B_w2 : Hid (Below w2.heap.size w2 w11) := below_on2 B_w2.out hb
 have B_wc : Hid (Below wc.heap.size wc w11) := below_on2 B_wc.out hb
 have B_w3 : Hid (Below w3.heap.size w3 w11) := below_on2 B_w3.out hb
 have B_w4 : Hid (Below w4.heap.size w4 w11) := below_on2 B_w4.out hb
 have B_w5 : Hid (Below w5.heap.size w5 w11) := below_on2 B_w5.out hb
 have B_w6 : Hid (Below w6.heap.size w6 w11) := below_on2 B_w6.out hb
 have B_w7 : Hid (Below w7.heap.size w7 w11) := below_on2 B_w7.out hb
 have B_w8 : Hid (Below w8.heap.size w8 w11) := below_on2 B_w8.out hb
 have B_w9 : Hid (Below w9.heap.size w9 w11) := below_on2 B_w9.out hb
 have B_w10 : Hid (Below w10.heap.size w10 w11) := hb
 clear hb
 have kR : Hid (Row w11 (w2.heap.size + 1 + 1) 42 [.int .i64 5, .int .i64 1, .int .i64 1, .slice (some ⟨w2.heap.size + 1, 0, none⟩) 1 1]) := (rowCells RP.out B_wc.out)
 obtain ⟨k0, k1, k2, k3, kl⟩ := kR.out.cells4
 clear kR
 go_wp2_with fail
 have HC := step_nil exP (some ⟨w2.heap.size + 1, 0, none⟩) 1 1 w11
 unfold PlPostA at HC
 refine HC.mono ?_
 clear HC
 rintro e w12 ⟨XA, Xn, Xc, Xs, he, -, hat, hb⟩
 have he2 : e = .returned (.tuple #[.agg #[.int .i64 0, .int .i64 0, .int .i64 0, .slice XA Xn Xc], .int .i64 1]) := he
 subst he2
 have HX : Hid (PAt w12 noPln XA Xn Xs) := hat
 clear he hat
 have B_w : Hid (Below w.heap.size w w12) := below_on2 B_w.out hb
 have B_w1 : Hid (Below w1.heap.size w1 w12) := below_on2 B_w1.out hb
 have B_w2 : Hid (Below w2.heap.size w2 w12) := below_on2 B_w2.out hb
 have B_wc : Hid (Below wc.heap.size wc w12) := below_on2 B_wc.out hb
 have B_w3 : Hid (Below w3.heap.size w3 w12) := below_on2 B_w3.out hb
 have B_w4 : Hid (Below w4.heap.size w4 w12) := below_on2 B_w4.out hb
 have B_w5 : Hid (Below w5.heap.size w5 w12) := below_on2 B_w5.out hb
 have B_w6 : Hid (Below w6.heap.size w6 w12) := below_on2 B_w6.out hb
 have B_w7 : Hid (Below w7.heap.size w7 w12) := below_on2 B_w7.out hb
 have B_w8 : Hid (Below w8.heap.size w8 w12) := below_on2 B_w8.out hb
 have B_w9 : Hid (Below w9.heap.size w9 w12) := below_on2 B_w9.out hb
 have B_w10 : Hid (Below w10.heap.size w10 w12) := below_on2 B_w10.out hb
 have B_w11 : Hid (Below w11.heap.size w11 w12) := hb
 clear k0 k1 k2 k3 kl
 clear hb
 have G12 : Hid (Below w12.heap.size w12 (World.alloc w12 (.cells #[.int .i64 0, .int .i64 0, .int .i64 0, .slice XA Xn Xc] 42))) := (Below.refl _ _).alloc (Nat.le_refl _) _
 have K12 : Hid (w12.heap.size < (World.alloc w12 (.cells #[.int .i64 0, .int .i64 0, .int .i64 0, .slice XA Xn Xc] 42)).heap.size) := by show _ < _; rw [World.size_alloc]; omega
 have Q12 : Hid (Row (World.alloc w12 (.cells #[.int .i64 0, .int .i64 0, .int .i64 0, .slice XA Xn Xc] 42)) (w3.heap.size) 42 [.int .i64 5, .int .i64 1, .int .i64 1, .slice QA 1 Qc]) := ((rowCells RQ.out B_w4.out)).alloc _
 have S12 : Hid (Row (World.alloc w12 (.cells #[.int .i64 0, .int .i64 0, .int .i64 0, .slice XA Xn Xc] 42)) (w5.heap.size) 42 [.int .i64 5, .int .i64 1, .int .i64 1, .slice RA 1 Rc]) := ((rowCells RR.out B_w6.out)).alloc _
 obtain ⟨_, q1, q2, cq, e1, e2, e3, e4, e5⟩ := pAt_word ((HQ.out.up B_w3.out).up G12.out) (x := 10#64) rfl
 subst e1
 obtain ⟨_, r1, r2, cr, f1, f2, f3, f4, f5⟩ := pAt_word ((HR.out.up B_w5.out).up G12.out) (x := 17#64) rfl
 subst f1
 have e5 : (World.alloc w12 (.cells #[.int .i64 0, .int .i64 0, .int .i64 0, .slice XA Xn Xc] 42)).cell? q2 = some (.int .u64 10) := e5
 have f5 : (World.alloc w12 (.cells #[.int .i64 0, .int .i64 0, .int .i64 0, .slice XA Xn Xc] 42)).cell? r2 = some (.int .u64 17) := f5
 obtain ⟨p0, p1, p2, p3, pl⟩ := Q12.out.cells4
 obtain ⟨s0, s1, s2, s3, sl⟩ := S12.out.cells4
 go_wp2_with fail
 have HEA : Hid (EngAt (World.alloc w12 (.cells #[.int .i64 0, .int .i64 0, .int .i64 0, .slice XA Xn Xc] 42)) b t GA OA PA gn gc 1 oc pn pc) := (HE.out.up B_w2.out).up G12.out
 clear e2 e3 e4 e5 f2 f3 f4 f5 p0 p1 p2 p3 pl s0 s1 s2 s3 sl
 have HC := circuit_any b t GA OA PA gn gc 1 oc pn pc _ HEA.out
 refine HC.mono ?_
 clear HC
 rintro e w13 ⟨rfl, hb⟩
 have hfd : ∀ W : World, (Instr.field 37 (.agg #[.int .i64 (circT t).inputs, .slice GA gn gc, .slice OA 1 oc]) 2).run Try.prog W = .ok (.slice OA 1 oc) W := fun _ => by kernel_rfl
 go_wp2
 go_ret
 have BW := below_on2 B_w.out G12.out
 exact ⟨rfl, below_on2 BW hb⟩
end Go.Proofs.Ytiemhbogbaamlaa

/-
 A part.
-/
namespace Go.Proofs.Ytiemhbogbaamlaa
open Go.RowKit Go.ChangeShapes Go.WideShapes Go.Deep Go.Joins
set_option linter.unusedSimpArgs false
set_option linter.unusedVariables false
section
variable {H : Type} {enc : TypeId × Value → H} {P : Program} {w : World} {base : Nat} {spare : Nat → Bool} {held : Bool}
theorem rd_of_cells {sz n : Nat} {ad : Addr} {xs : List Value} (hl : xs.length = n * sz) (h : ∀ j u, xs[j]? = some u → w.cell? (ad.add j) = some u) (h0 : 0 < sz) : Rd w w.heap.size sz (some ad) n xs :=
 ⟨hl, fun hn => ⟨ad, rfl, by
  have hp : 0 < xs.length := by rw [hl]; exact Nat.mul_pos hn h0
  have := World.block_lt_of_cell? w _ (h 0 xs[0] (List.getElem?_eq_getElem hp))
  rwa [add_block] at this, h⟩⟩
theorem read_ints {t e : TypeId} {fuel : Nat} {v : Value} {x : DataW H × List MemPlace} (ht : P.underlying t = some (.slice e)) (he : P.underlying e = some (.int .i64)) (hc : P.cellsOf e = 1)
 (h : DataW.trod enc P w base spare held fuel t [v] = some x) : ∃ A n c zs, v = .slice A n c ∧ Rd w w.heap.size 1 A n (ints zs) ∧ n ≤ maxLen ∧ (∀ z ∈ zs, -9223372036854775808 ≤ z ∧ z ≤ 9223372036854775807) := by
 rcases open_ints ht he hc h with ⟨hcs, _⟩ | ⟨a, len, cap, zs, hcs, _, hl, hm, hz, _, hcell, hwf⟩
 ·injection hcs with hcs
  exact ⟨none, 0, 0, [], hcs, Rd.empty none, by unfold maxLen; omega, by simp⟩
 ·injection hcs with hcs
  have hln : len ≤ zs.length := by rw [hz]; split <;> omega
  refine ⟨some a, len, cap, zs.take len, hcs, rd_of_cells (by simp; omega) (fun j u hu => ?_) (by omega), by omega, fun z hz => ?_⟩
  ·have hj : j < len := by
    have := (List.getElem?_eq_some_iff.1 hu).1
    simp at this; omega
   rw [ints_get _ j (by simp; omega)] at hu
   injection hu with hu
   rw [hcell j (by omega), ← hu]
   simp [List.getD_eq_getElem?_getD, List.getElem?_take, hj]
  ·have := hwf z (List.mem_of_mem_take hz)
   simpa [Lit.wf, IntKind.min, IntKind.max, IntKind.signed, IntKind.bits] using this
end
theorem law_post {H : Type} {enc : TypeId × Value → H} {P : Program} {f : Func} {s : ChangeSpec} {apart fresh handsOn : Bool} {W W' : World} {args : Array Value} {v : Value} {ds gs : List (DataW H)} {before pa pv : List MemPlace}
 (hW : DataW.Whole enc P f.params.toList s.vars apart W args.toList ds gs before)
 (hres : ∀ (b : Nat) (sp : Nat → Bool) (hd : Bool), DataW.TrodAll enc P W' b sp hd f.resultTypes.toList (v.resultList f.resultTypes.size) (s.fn H (ds ++ gs)).results [])
 (hargs : DataW.TrodAll enc P W' 0 (fun b => decide (b < W.heap.size)) true f.params.toList args.toList (s.fn H (ds ++ gs)).args pa)
 (hvars : DataW.TrodVars enc P W' (fun b => decide (b < W.heap.size)) s.vars (s.fn H (ds ++ gs)).vars pv) (hb : Below W.heap.size W W') :
 s.post enc P f apart fresh handsOn false W args v W' :=
 ⟨ds, gs, before, [], pa, pv, hW, hres _ _ _, hargs, hvars, hb.frame _, fun h => by cases h⟩
end Go.Proofs.Ytiemhbogbaamlaa
