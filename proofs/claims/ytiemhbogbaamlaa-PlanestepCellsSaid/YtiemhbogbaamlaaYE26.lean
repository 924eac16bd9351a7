/-
 A part.
-/
import Derived.Test.YtiemhbogbaamlaaYE1
import Derived.Test.YtiemhbogbaamlaaYE24
import Derived.Test.YtiemhbogbaamlaaYE6
namespace Go.Proofs.Ytiemhbogbaamlaa
open Go.RowKit
set_option linter.unusedSimpArgs false
set_option linter.unusedVariables false
theorem row_infoP : (Try.prog.info? 67).map (fun i => (i.zero, i.size, i.bytes)) = some (some (.slice none 0 0), 1, 24) := by kernel_rfl
theorem word_infoP : (Try.prog.info? 66).map (fun i => (i.zero, i.size, i.bytes)) = some (some (.int .u64 0), 1, 8) := by kernel_rfl
def gcell (M g : Nat) : Value := .slice (some ⟨g, 0, none⟩) M M
structure POwn (w : World) (base : Nat) (v : Value) (M : Nat) (gs : List Nat) (rows : List (List (BitVec 64))) : Prop where
 len : gs.length = rows.length
 own : w.ownsRow base 67 1 v rows.length (gs.map (gcell M))
 row : ∀ i, i < rows.length → Row w (gs.getD i 0) 66 (w64s (rows.getD i []))
 wid : ∀ i, i < rows.length → (rows.getD i []).length = M
 bas : ∀ i, i < rows.length → base ≤ gs.getD i 0
 inj : ∀ i j, i < rows.length → j < rows.length → gs.getD i 0 = gs.getD j 0 → i = j
section
variable {w w' : World} {base M : Nat} {v : Value} {gs : List Nat} {rows : List (List (BitVec 64))}
theorem POwn.nil (w : World) (base M : Nat) : POwn w base (.slice none 0 0) M [] [] :=
 ⟨rfl, World.ownsRow_nil _ _ _ _, fun i hi => absurd hi (Nat.not_lt_zero _), fun i hi => absurd hi (Nat.not_lt_zero _), fun i hi => absurd hi (Nat.not_lt_zero _), fun i j hi => absurd hi (Nat.not_lt_zero _)⟩
theorem POwn.drew (h : POwn w base v M gs rows) : POwn w.drew base v M gs rows := ⟨h.len, h.own, h.row, h.wid, h.bas, h.inj⟩
theorem POwn.up (h : POwn w base v M gs rows) (hb : Below w.heap.size w w') : POwn w' base v M gs rows :=
 ⟨h.len, own_below h.own hb (Nat.le_refl _), fun i hi => rowCells (h.row i hi) hb, h.wid, h.bas, h.inj⟩
theorem getD_snoc_ltP {α} (l : List α) (x d : α) (i : Nat) (h : i < l.length) : (l ++ [x]).getD i d = l.getD i d := by
 rw [List.getD_eq_getElem?_getD, List.getD_eq_getElem?_getD, List.getElem?_append_left h]
theorem getD_snoc_eqP {α} (l : List α) (x d : α) : (l ++ [x]).getD l.length d = x := by
 rw [List.getD_eq_getElem?_getD, List.getElem?_append_right (Nat.le_refl _)]; simp
theorem POwn.push {w1 : World} {v' : Value} {r : List (BitVec 64)} (h : POwn w base v M gs rows) (hr : Row w1 w.heap.size 66 (w64s r)) (hrl : r.length = M) (hB : base ≤ w.heap.size) (hb : Below w.heap.size w w1)
 (hg : w1.grownBy w' v.ownBlock) (ho : w'.ownsRow base 67 1 v' (rows.length + 1) (gs.map (gcell M) ++ [gcell M w.heap.size])) :
 POwn w' base v' M (gs ++ [w.heap.size]) (rows ++ [r]) := by
 have ho1 := own_below h.own hb (Nat.le_refl _)
 have hgl := h.len
 refine ⟨by simp [hgl], by rw [List.length_append, List.map_append]; exact ho, fun i hi => ?_, fun i hi => ?_, fun i hi => ?_, fun i j hi hj e => ?_⟩
 all_goals rw [List.length_append, List.length_singleton] at hi
 ·by_cases e : i < rows.length
  ·rw [getD_snoc_ltP _ _ _ _ e, getD_snoc_ltP _ _ _ _ (by omega)]
   have h1 := rowCells (h.row i e) hb
   exact h1.grown hg (fun e => own_ne_row ho1 h1 (by decide) e.symm)
  ·obtain rfl : i = rows.length := by omega
   rw [getD_snoc_eqP, ← hgl, getD_snoc_eqP]
   exact hr.grown hg (fun e => own_ne_row ho1 hr (by decide) e.symm)
 ·by_cases e : i < rows.length
  ·rw [getD_snoc_ltP _ _ _ _ e]; exact h.wid i e
  ·obtain rfl : i = rows.length := by omega
   rw [getD_snoc_eqP]; exact hrl
 ·by_cases e : i < rows.length
  ·rw [getD_snoc_ltP _ _ _ _ (by omega)]; exact h.bas i e
  ·obtain rfl : i = rows.length := by omega
   rw [← hgl, getD_snoc_eqP]; exact hB
 ·rw [List.length_append, List.length_singleton] at hj
  by_cases ei : i < rows.length
  ·have li := (h.row i ei).lt
   by_cases ej : j < rows.length
   ·rw [getD_snoc_ltP _ _ _ _ (by omega), getD_snoc_ltP _ _ _ _ (by omega)] at e
    exact h.inj i j ei ej e
   ·obtain rfl : j = rows.length := by omega
    rw [getD_snoc_ltP _ _ _ _ (by omega), ← hgl, getD_snoc_eqP] at e
    omega
  ·obtain rfl : i = rows.length := by omega
   by_cases ej : j < rows.length
   ·have lj := (h.row j ej).lt
    rw [getD_snoc_ltP _ _ _ j (by omega), ← hgl, getD_snoc_eqP] at e
    omega
   ·omega
theorem POwn.put (h : POwn w base v M gs rows) (i k : Nat) (x : BitVec 64) (hi : i < rows.length) : POwn (w.setCell ⟨gs.getD i 0, k, none⟩ (w64 x)) base v M gs (rows.set i ((rows.getD i []).set k x)) := by
 have hri := h.row i hi
 refine ⟨by rw [List.length_set]; exact h.len, by rw [List.length_set]; exact own_set (p := ⟨gs.getD i 0, k, none⟩) h.own hri (by decide) _, fun j hj => ?_, fun j hj => ?_, fun j hj => ?_, fun j l hj hl e => ?_⟩
 all_goals rw [List.length_set] at hj
 ·by_cases e : j = i
  ·subst e
   have : (rows.set j ((rows.getD j []).set k x)).getD j [] = (rows.getD j []).set k x := by
    rw [List.getD_eq_getElem?_getD, List.getElem?_set_self hi]; rfl
   rw [this]
   have h2 : w64s ((rows.getD j []).set k x) = (w64s (rows.getD j [])).set k (w64 x) := by simp [w64s, List.map_set]
   rw [h2]
   exact hri.set k (w64 x)
  ·have : (rows.set i ((rows.getD i []).set k x)).getD j [] = rows.getD j [] := by
    rw [List.getD_eq_getElem?_getD, List.getElem?_set_ne (fun h => e h.symm), List.getD_eq_getElem?_getD]
   rw [this]
   exact (h.row j hj).far (p := ⟨gs.getD i 0, k, none⟩) (fun h9 => e (h.inj j i hj hi h9)) _
 ·by_cases e : j = i
  ·subst e
   rw [List.getD_eq_getElem?_getD, List.getElem?_set_self hi]
   show ((rows.getD j []).set k x).length = M
   rw [List.length_set]; exact h.wid j hi
  ·rw [List.getD_eq_getElem?_getD, List.getElem?_set_ne (fun h => e h.symm), ← List.getD_eq_getElem?_getD]
   exact h.wid j hj
 ·exact h.bas j hj
 ·rw [List.length_set] at hl
  exact h.inj j l hj hl e
theorem POwn.pAt {A : Option Addr} {n c : Nat} {p : Pln} (h : POwn w base (.slice A n c) M gs p.words) (hn : p.words.length = n) (hn3 : n ≤ maxLen) (hM : M ≤ maxLen) : PAt w p A n (gs.map (fun g => ⟨some ⟨g, 0, none⟩, M, M⟩)) := by
 have hsl : slCells (gs.map (fun g => (⟨some ⟨g, 0, none⟩, M, M⟩ : Sl))) = gs.map (gcell M) := by
  simp [slCells, gcell]
 refine ⟨?_, by rw [List.length_map]; exact h.len, fun i hi => ?_, hn3, fun i hi => ?_⟩
 ·rw [hsl]
  have := h.own
  rw [hn] at this
  exact Rd.of_own this
 ·have e : (gs.map (fun g => (⟨some ⟨g, 0, none⟩, M, M⟩ : Sl))).getD i default = ⟨some ⟨gs.getD i 0, 0, none⟩, M, M⟩ := by
   rw [List.getD_eq_getElem?_getD, List.getElem?_map, List.getD_eq_getElem?_getD, List.getElem?_eq_getElem (by rw [h.len]; exact hi)]; rfl
  rw [e]
  exact ⟨(h.row i hi).rd (by rw [w64s_length, h.wid i hi, Nat.mul_one]), hM⟩
 ·have e : (gs.map (fun g => (⟨some ⟨g, 0, none⟩, M, M⟩ : Sl))).getD i default = ⟨some ⟨gs.getD i 0, 0, none⟩, M, M⟩ := by
   rw [List.getD_eq_getElem?_getD, List.getElem?_map, List.getD_eq_getElem?_getD, List.getElem?_eq_getElem (by rw [h.len]; exact hi)]; rfl
  rw [e]
  exact ⟨Nat.le_refl _, hM⟩
end
theorem blankRow (w : World) (M : Nat) : Row (w.alloc (.cells (likeRow (Value.int .u64 0) M) 66)) w.heap.size 66 (w64s (List.replicate M 0#64)) := by
 have e : w64s (List.replicate M 0#64) = List.replicate M (Value.int .u64 0) := by simp [w64s, w64]
 rw [e]
 exact Row.new w 66 (List.replicate M (Value.int .u64 0))
theorem POwn.far4 {w : World} {base M b : Nat} {v u0 u1 u2 u3 : Value} {T : TypeId} {gs : List Nat} {rows : List (List (BitVec 64))} (v0 v1 v2 v3 : Value) (h : POwn w base v M gs rows) (hr : Row w b T [u0, u1, u2, u3]) (hT : 67 ≠ T) (hb : b < base) :
 POwn ((((w.setCell ⟨b, 0, none⟩ v0).setCell ⟨b, 1, none⟩ v1).setCell ⟨b, 2, none⟩ v2).setCell ⟨b, 3, none⟩ v3) base v M gs rows :=
 ⟨h.len, put4own v0 v1 v2 v3 hr h.own hT, fun i hi => (put4 (w := w) v0 v1 v2 v3 hr (Nat.le_refl b) (Below.refl _ _)).2.2 _ _ _ (fun e => by have := h.bas i hi; omega) (h.row i hi), h.wid, h.bas, h.inj⟩
theorem POwn.far1 {w : World} {base M : Nat} {v : Value} {xs : List Value} {T : TypeId} {gs : List Nat} {rows : List (List (BitVec 64))} {p : Addr} (h : POwn w base v M gs rows) (hr : Row w p.block T xs) (hT : 67 ≠ T) (hb : p.block < base) (u : Value) : POwn (w.setCell p u) base v M gs rows :=
 ⟨h.len, own_set h.own hr hT u, fun i hi => (h.row i hi).far (fun e => by have := h.bas i hi; omega) u, h.wid, h.bas, h.inj⟩
theorem POwn.base {w : World} {base base' M : Nat} {v : Value} {gs : List Nat} {rows : List (List (BitVec 64))} (h : POwn w base v M gs rows) (hb : base' ≤ base) : POwn w base' v M gs rows :=
 ⟨h.len, own_base h.own hb, h.row, h.wid, fun i hi => Nat.le_trans hb (h.bas i hi), h.inj⟩
def BlankPost (W Hh e M k : Nat) (w : World) (en : Ending) (w' : World) : Prop :=
 ∃ A c gs, en = .returned (.agg #[.int .i64 W, .int .i64 Hh, .int .i64 e, .slice A k c]) ∧ POwn w' w.heap.size (.slice A k c) M gs (List.replicate k (List.replicate M 0#64)) ∧ Below w.heap.size w w'
set_option maxRecDepth 100000 in
set_option maxHeartbeats 4000000 in
theorem blank_any (W Hh e k : Nat) (w : World) (hW1 : 1 ≤ W ∧ W ≤ 256) (hH1 : 1 ≤ Hh ∧ Hh ≤ 256) (hk : k ≤ 3) (he : e ≤ 2) :
 Calls Try.prog 43 #[.int .i64 W, .int .i64 Hh, .int .i64 e, .int .i64 k] w (BlankPost W Hh e (Hh * wpr W) k w) := by
 obtain ⟨w1', w2', w3'⟩ := wpr_bd hW1.1
 obtain ⟨nn, hnn⟩ : ∃ nn, nn = wpr W := ⟨_, rfl⟩
 have HNN : Hid (wpr W = nn) := hnn.symm
 rw [← hnn] at w1' w2' w3' ⊢
 have hn4 : nn ≤ 4 := by omega
 obtain ⟨M, hM⟩ : ∃ M, M = Hh * nn := ⟨_, rfl⟩
 have hMz : (Hh : Int) * (nn : Int) = (M : Int) := by rw [hM, Int.natCast_mul]
 have hMb : M ≤ 1024 := by rw [hM]; exact Nat.mul_le_mul hH1.2 hn4
 have hwM : IntKind.i64.wrap (M : Int) = (M : Int) := IntWalk.i64_in _ (by omega)
 rw [← hM]
 have hmk := fun W => make_like (P := Try.prog) Try.underlying67 word_infoP rfl M (M : Int) rfl (by omega) (by omega) W
 clear hnn hM
 go_enter Try.func43, Try.ntmps43
 go_wp2
 have RZ0 : Hid (Row ((w.alloc (.cells #[.int .i64 0, .int .i64 0, .int .i64 0, .slice none 0 0] 42)).alloc (.cells #[.int .i64 W, .int .i64 Hh, .int .i64 e, .slice none 0 0] 42)) w.heap.size 42 [.int .i64 0, .int .i64 0, .int .i64 0, .slice none 0 0]) := (Row.new w 42 [.int .i64 0, .int .i64 0, .int .i64 0, .slice none 0 0]).alloc _
 have RX0 : Hid (Row ((w.alloc (.cells #[.int .i64 0, .int .i64 0, .int .i64 0, .slice none 0 0] 42)).alloc (.cells #[.int .i64 W, .int .i64 Hh, .int .i64 e, .slice none 0 0] 42)) (w.heap.size + 1) 42 [.int .i64 W, .int .i64 Hh, .int .i64 e, .slice none 0 0]) := rowNew1 w _ 42 [.int .i64 W, .int .i64 Hh, .int .i64 e, .slice none 0 0]
 have HB0 : Hid (Below w.heap.size w ((w.alloc (.cells #[.int .i64 0, .int .i64 0, .int .i64 0, .slice none 0 0] 42)).alloc (.cells #[.int .i64 W, .int .i64 Hh, .int .i64 e, .slice none 0 0] 42))) := (show Below _ _ _ by go_grown)
 have HS0 : Hid (w.heap.size + 2 ≤ ((w.alloc (.cells #[.int .i64 0, .int .i64 0, .int .i64 0, .slice none 0 0] 42)).alloc (.cells #[.int .i64 W, .int .i64 Hh, .int .i64 e, .slice none 0 0] 42)).heap.size) := (by show _ ≤ _; simp)
 revert RZ0 RX0 HB0 HS0
 generalize ((w.alloc (.cells #[.int .i64 0, .int .i64 0, .int .i64 0, .slice none 0 0] 42)).alloc (.cells #[.int .i64 W, .int .i64 Hh, .int .i64 e, .slice none 0 0] 42)) = w2
 intro RZ0 RX0 HB0 HS0
 go_loopg [15] k (fun gg s15 wr => ∃ (kk : Nat) (v : Value) (gs : List Nat), kk ≤ k ∧ k - kk ≤ gg ∧ s15 = .int .i64 kk ∧ Aside (Below w.heap.size w wr) ∧ Aside (w.heap.size + 2 ≤ wr.heap.size) ∧ Aside (Row wr w.heap.size 42 [.int .i64 0, .int .i64 0, .int .i64 0, .slice none 0 0]) ∧ Aside (Row wr (w.heap.size + 1) 42 [.int .i64 W, .int .i64 Hh, .int .i64 e, v]) ∧ Aside (POwn wr (w.heap.size + 2) v M gs (List.replicate kk (List.replicate M 0#64))))
 case atStart => exact ⟨0, .slice none 0 0, [], Nat.zero_le _, by omega, rfl, HB0.out, HS0.out, RZ0.out, RX0.out, POwn.nil _ _ _⟩
 case round =>
  clear HB0 HS0 RZ0 RX0
  obtain ⟨kk, v, gs, hkk, hgg, rfl, BW, hsz, RZ, RX, OW0⟩ := hrel
  have OW : Hid (POwn wr (w.heap.size + 2) v M gs (List.replicate kk (List.replicate M 0#64))) := OW0.out
  have OWk : Hid (wr.ownsRow (w.heap.size + 2) 67 1 v kk (gs.map (gcell M))) := (by have := OW0.out.own; rw [List.length_replicate] at this; exact this)
  obtain ⟨XA, xc, rfl, _⟩ := Rd.own OWk.out
  have OW : POwn wr (w.heap.size + 2) (.slice XA kk xc) M gs (List.replicate kk (List.replicate M 0#64)) := OW.out
  have RX : Hid (Row wr (w.heap.size + 1) 42 [.int .i64 W, .int .i64 Hh, .int .i64 e, .slice XA kk xc]) := RX.out
  have RZ : Hid (Row wr w.heap.size 42 [.int .i64 0, .int .i64 0, .int .i64 0, .slice none 0 0]) := RZ.out
  clear OW0 OWk
  obtain ⟨e0, e1, e2, e3, el⟩ := RX.out.cells4
  by_cases hlt : kk < k
  ·have hltz : (kk : Int) < (k : Int) := by omega
   go_wp2_with fail
   refine wp_region_L (fun w' => Row w' (w.heap.size + 1) 42 [.int .i64 W, .int .i64 Hh, .int .i64 e, .slice XA kk xc]) [8, 9, 10] (by kernel_rfl) (by exact RX.out.drew) (fun hHeld => ?_)
   have HROWd : Hid (Row wr.drew (w.heap.size + 1) 42 [.int .i64 W, .int .i64 Hh, .int .i64 e, .slice XA kk xc]) := hHeld
   have HPd : Hid (POwn wr.drew (w.heap.size + 2) (.slice XA kk xc) M gs (List.replicate kk (List.replicate M 0#64))) := OW.drew
   have HRZd : Hid (Row wr.drew w.heap.size 42 [.int .i64 0, .int .i64 0, .int .i64 0, .slice none 0 0]) := RZ.out.drew
   have BWd : Hid (Below w.heap.size w wr.drew) := BW.out.drew
   have hszd : Hid (w.heap.size + 2 ≤ wr.drew.heap.size) := hsz.out
   clear RX OW RZ BW hsz e0 e1 e2 e3 el
   revert hHeld HROWd HPd HRZd BWd hszd
   generalize wr.drew = wQ
   intro hHeld HROWd HPd HRZd BWd hszd
   have hszq := hszd.out
   refine lPureW 0 ?va1 rfl (by rfl) ?ya1 ?ra1
   case ya1 => intro w' hSw; clear hSw; go_simp; try (with_reducible rfl)
   go_simp
   refine lPureW 2 ?va2 rfl (by rfl) ?ya2 ?ra2
   case ya2 => intro w' hSw; clear hSw; go_simp; try (with_reducible rfl)
   go_simp
   refine lPureW 3 ?va3 rfl (by rfl) ?ya3 ?ra3
   case ya3 => intro w' hSw; clear hSw; go_simp; try (with_reducible rfl)
   go_simp
   refine lTakeW 1 ?va4 [[8], [9], [10]] rfl (by rfl) ?ya4 hHeld ?ra4
   case ya4 =>
    intro w' hSw
    have hSh : Hid (Row w' (w.heap.size + 1) 42 [.int .i64 W, .int .i64 Hh, .int .i64 e, .slice XA kk xc]) := hSw
    clear hSw
    obtain ⟨z0, z1, z2, z3, zl⟩ := hSh.out.cells4
    go_simp
    try (with_reducible rfl)
   go_simp
   refine restL_one (i := 4) (by kernel_rfl) rfl (fun K hK => ?_)
   go_simp
   go_at_call 44
   refine (words_any W wQ (by omega)).mono ?_
   rw [HNN.out]
   rintro e4 w4 ⟨rfl, rfl⟩
   refine hK.out _ _ (fun _ => ?keep) (fun hHeld => ?_)
   case keep => exact HROWd.out
   have hHeld := hHeld rfl
   clear hK K
   try go_simp
   refine lPureW 5 ?va5 rfl (by rfl) ?ya5 ?ra5
   case ya5 => intro w' hSw; clear hSw; go_simp; try (with_reducible rfl)
   go_simp
   refine restL_one (i := 6) (by kernel_rfl) rfl (fun K hK => ?_)
   go_simp
   refine hK.out _ _ (fun _ => ?keep) (fun hHeld => ?_)
   case keep => exact HROWd.out.alloc _
   have hHeld := hHeld rfl
   clear hK K
   try go_simp
   refine restL_one (i := 7) (by kernel_rfl) rfl (fun K hK => ?_)
   go_simp
   refine hK.out _ _ (fun _ => ?keep) (fun hHeld => ?_)
   case keep => exact (HROWd.out.alloc _).alloc _
   have hHeld := hHeld rfl
   clear hK K
   try go_simp
   refine restL_one (i := 8) (by kernel_rfl) rfl (fun K hK => ?_)
   refine step_app rfl (.tmp 18) (.tmp 24) 40 rfl (w.heap.size + 2) 67 (.slice none 0 0) 1 24 Try.underlying40 row_infoP rfl (by decide) (by decide) (.slice XA kk xc) kk (gs.map (gcell M)) rfl ?own (wQ.heap.size + 1 + 1) (some ⟨wQ.heap.size + 1, 0, none⟩) 1 1 [gcell M wQ.heap.size] rfl ?rd ?one ?hb ?hbase ?_
   case own => exact (by have := HPd.out.own; rw [List.length_replicate] at this; exact (this.alloc _).alloc _)
   case rd => exact (by have h := Rd.lit (wQ.alloc (.cells (likeRow (Value.int .u64 0) M) 66)) #[gcell M wQ.heap.size] 67 (sz := 1) (m := 1) rfl; rw [World.size_alloc] at h; exact h)
   case one => first | (intro u hu; simp at hu; subst hu; rfl) | rfl
   case hb => omega
   case hbase => first | (simp; omega) | omega
   intro v' w' hown' hgrow' hat'
   obtain ⟨VA, vc, rfl, _⟩ := Rd.own hown'
   have HROWq : Hid (Row w' (w.heap.size + 1) 42 [.int .i64 W, .int .i64 Hh, .int .i64 e, .slice XA kk xc]) := ((HROWd.out.alloc _).alloc _).grown hgrow' (fun e => own_ne_row HPd.out.own HROWd.out (by decide) e.symm)
   have HRZq : Hid (Row w' w.heap.size 42 [.int .i64 0, .int .i64 0, .int .i64 0, .slice none 0 0]) := ((HRZd.out.alloc _).alloc _).grown hgrow' (fun e => own_ne_row HPd.out.own HRZd.out (by decide) e.symm)
   have BWq : Hid (Below w.heap.size w w') := ((BWd.out.alloc (by omega) _).alloc (by simp; omega) _).grown hgrow' (by simp; omega) (fun k hk => by have := (HPd.out.own.lt k hk).1; omega)
   have hszq2 : Hid (w.heap.size + 2 ≤ w'.heap.size) := (by show _ ≤ _; have := hgrow'.size; simp at this; omega)
   have HPq : Hid (POwn w' (w.heap.size + 2) (.slice VA (kk + 1) vc) M (gs ++ [wQ.heap.size]) (List.replicate (kk + 1) (List.replicate M 0#64))) := (by show POwn _ _ _ _ _ _; rw [List.replicate_succ']; exact HPd.out.push ((blankRow wQ M).alloc _) List.length_replicate hszd.out (((Below.refl _ _).alloc (Nat.le_refl _) _).alloc (by simp) _) hgrow' (by rw [List.length_replicate]; exact hown'))
   have q3 := HROWq.out.cell 3
   have qf := HROWq.out.frozen 3
   have ql := HROWq.out.lt
   simp only [List.getElem?_cons_zero, List.getElem?_cons_succ] at q3
   clear hown' hgrow' hat' hHeld HROWd HPd HRZd BWd hszd hszq
   refine hK.out _ _ (fun h => absurd h (by decide)) (fun _ => ?_)
   clear hK K
   try go_simp
   refine lPureW 9 ?va6 rfl (by rfl) ?ya6 ?ra6
   case ya6 => intro w' hSw; clear hSw; go_simp; try (with_reducible rfl)
   go_simp
   refine restL_one (i := 10) (by kernel_rfl) rfl (fun K hK => ?_)
   go_simp
   refine hK.out _ _ (fun h => absurd h (by decide)) (fun _ => ?_)
   clear hK K
   try go_simp
   refine restL_done (by kernel_rfl) ?_ _
   have HX8 : Hid (Row (World.setCell w' ⟨w.heap.size + 1, 3, none⟩ (.slice VA (kk + 1) vc)) (w.heap.size + 1) 42 [.int .i64 W, .int .i64 Hh, .int .i64 e, .slice VA (kk + 1) vc]) := HROWq.out.set 3 _
   have HB8 : Hid (Below w.heap.size w (World.setCell w' ⟨w.heap.size + 1, 3, none⟩ (.slice VA (kk + 1) vc))) := BWq.out.setCell (p := ⟨w.heap.size + 1, 3, none⟩) (Nat.le_succ _) _
   have HS8 : Hid (w.heap.size + 2 ≤ (World.setCell w' ⟨w.heap.size + 1, 3, none⟩ (.slice VA (kk + 1) vc)).heap.size) := (by show _ ≤ _; rw [World.size_setCell]; exact hszq2.out)
   have HZ8 : Hid (Row (World.setCell w' ⟨w.heap.size + 1, 3, none⟩ (.slice VA (kk + 1) vc)) w.heap.size 42 [.int .i64 0, .int .i64 0, .int .i64 0, .slice none 0 0]) := HRZq.out.far (p := ⟨w.heap.size + 1, 3, none⟩) (by show w.heap.size ≠ w.heap.size + 1; omega) _
   have HP8 : Hid (POwn (World.setCell w' ⟨w.heap.size + 1, 3, none⟩ (.slice VA (kk + 1) vc)) (w.heap.size + 2) (.slice VA (kk + 1) vc) M (gs ++ [wQ.heap.size]) (List.replicate (kk + 1) (List.replicate M 0#64))) := HPq.out.far1 (p := ⟨w.heap.size + 1, 3, none⟩) HROWq.out (by decide) (by show w.heap.size + 1 < w.heap.size + 2; omega) _
   clear HROWq HRZq BWq hszq2 HPq q3 qf ql
   revert HX8 HB8 HS8 HZ8 HP8
   generalize World.setCell w' ⟨w.heap.size + 1, 3, none⟩ (.slice VA (kk + 1) vc) = w8
   intro HX8 HB8 HS8 HZ8 HP8
   go_wp2
   go_roundg (k - (kk + 1))
   case measure => omega
   case rel => exact ⟨kk + 1, .slice VA (kk + 1) vc, gs ++ [wQ.heap.size], by omega, by omega, by go_num, HB8.out, HS8.out, HZ8.out, HX8.out, HP8.out⟩
  ·have hltz : ¬ (kk : Int) < (k : Int) := by omega
   obtain rfl : kk = k := by omega
   obtain ⟨d0, d1, d2, d3, dl⟩ := RZ.out.cells4
   have f0 := RZ.out.frozen 0
   have f1 := RZ.out.frozen 1
   have f2 := RZ.out.frozen 2
   have f3 := RZ.out.frozen 3
   go_wp2
   obtain ⟨hbl, RZ4, _⟩ := put4 (.int .i64 W) (.int .i64 Hh) (.int .i64 e) (.slice XA kk xc) RZ.out (Nat.le_refl w.heap.size) BW.out
   have hpo := (OW.far4 (.int .i64 W) (.int .i64 Hh) (.int .i64 e) (.slice XA kk xc) RZ.out (by decide) (by omega)).base (Nat.le_add_right w.heap.size 2)
   have r0 := RZ4.cell 0
   have r1 := RZ4.cell 1
   have r2 := RZ4.cell 2
   have r3 := RZ4.cell 3
   simp only [List.getElem?_cons_zero, List.getElem?_cons_succ] at r0 r1 r2 r3
   clear RZ4
   revert hbl hpo r0 r1 r2 r3
   generalize World.setCell (World.setCell (World.setCell (World.setCell wr ⟨w.heap.size, 0, none⟩ (.int .i64 W)) ⟨w.heap.size, 1, none⟩ (.int .i64 Hh)) ⟨w.heap.size, 2, none⟩ (.int .i64 e)) ⟨w.heap.size, 3, none⟩ (.slice XA kk xc) = wz
   intro hbl hpo r0 r1 r2 r3
   exact bodyPost_ret (v := .agg #[.int .i64 W, .int .i64 Hh, .int .i64 e, .slice XA kk xc]) (by simp [results, Try.results43, go_sem, r0, r1, r2, r3]) rfl ⟨XA, xc, gs, rfl, hpo, hbl⟩
end Go.Proofs.Ytiemhbogbaamlaa

/-
 A part.
-/
namespace Go.Proofs.Ytiemhbogbaamlaa
open Go.RowKit
set_option linter.unusedSimpArgs false
set_option linter.unusedVariables false
theorem getD_app_lt {α : Type} (l m : List α) (d : α) {i : Nat} (h : i < l.length) : (l ++ m).getD i d = l.getD i d := by
 rw [List.getD_eq_getElem?_getD, List.getElem?_append_left h, ← List.getD_eq_getElem?_getD]
theorem getD_app_ge {α : Type} (l m : List α) (d : α) {i : Nat} (h : l.length ≤ i) : (l ++ m).getD i d = m.getD (i - l.length) d := by
 rw [List.getD_eq_getElem?_getD, List.getElem?_append_right h, ← List.getD_eq_getElem?_getD]
theorem POwn.app {w w2 : World} {base b' M : Nat} {v v' v2 : Value} {gs gs' : List Nat} {rows rows' : List (List (BitVec 64))} (h : POwn w base v M gs rows) (h' : POwn w b' v' M gs' rows') (hb : base ≤ b') (hlt : ∀ i, i < rows.length → gs.getD i 0 < b')
 (hg : w.grownBy w2 v.ownBlock) (ho : w2.ownsRow base 67 1 v2 (rows.length + rows'.length) (gs.map (gcell M) ++ gs'.map (gcell M))) : POwn w2 base v2 M (gs ++ gs') (rows ++ rows') := by
 have hl := h.len
 have hl' := h'.len
 have hne : ∀ {g : Nat} {xs : List Value}, Row w g 66 xs → Row w2 g 66 xs := fun hr => hr.grown hg (fun e => own_ne_row h.own hr (by decide) e.symm)
 refine ⟨by simp [hl, hl'], by rw [List.length_append, List.map_append]; exact ho, fun i hi => ?_, fun i hi => ?_, fun i hi => ?_, fun i j hi hj e => ?_⟩
 all_goals rw [List.length_append] at hi
 ·by_cases c : i < rows.length
  ·rw [getD_app_lt _ _ _ (by omega), getD_app_lt _ _ _ c]; exact hne (h.row i c)
  ·rw [getD_app_ge _ _ _ (by omega), getD_app_ge _ _ _ (by omega), hl]; exact hne (h'.row _ (by omega))
 ·by_cases c : i < rows.length
  ·rw [getD_app_lt _ _ _ c]; exact h.wid i c
  ·rw [getD_app_ge _ _ _ (by omega)]; exact h'.wid _ (by omega)
 ·by_cases c : i < rows.length
  ·rw [getD_app_lt _ _ _ (by omega)]; exact h.bas i c
  ·rw [getD_app_ge _ _ _ (by omega)]; exact Nat.le_trans hb (h'.bas _ (by omega))
 ·rw [List.length_append] at hj
  by_cases c : i < rows.length
  ·by_cases d : j < rows.length
   ·rw [getD_app_lt _ _ _ (by omega), getD_app_lt _ _ _ (by omega)] at e
    exact h.inj i j c d e
   ·rw [getD_app_lt _ _ _ (by omega), getD_app_ge _ _ _ (by omega)] at e
    have := hlt i c
    have := h'.bas (j - gs.length) (by omega)
    omega
  ·by_cases d : j < rows.length
   ·rw [getD_app_ge _ _ _ (by omega), getD_app_lt _ _ _ (by omega)] at e
    have := hlt j d
    have := h'.bas (i - gs.length) (by omega)
    omega
   ·rw [getD_app_ge _ _ _ (by omega), getD_app_ge _ _ _ (by omega)] at e
    have := h'.inj _ _ (by omega) (by omega) e
    omega
def rowsTo (t : Tre) (p : Pln) (k : Nat) : List (List (BitVec 64)) := (t.hood.take k).flatMap (fun o => (moveP p o.x o.y).words)
theorem rowsTo_zero (t : Tre) (p : Pln) : rowsTo t p 0 = [] := rfl
theorem rowsTo_succ (t : Tre) (p : Pln) (k : Nat) (h : k < t.hood.length) : rowsTo t p (k + 1) = rowsTo t p k ++ (moveP p (t.hood.getD k default).x (t.hood.getD k default).y).words := by
 unfold rowsTo
 rw [List.take_succ_eq_append_getElem h, List.flatMap_append, List.getD_eq_getElem?_getD, List.getElem?_eq_getElem h]
 simp
theorem rowsTo_all (t : Tre) (p : Pln) : rowsTo t p t.hood.length = inRows t p := by unfold rowsTo inRows; rw [List.take_length]
theorem rowsTo_len {t : Tre} {p : Pln} (k : Nat) (h : k ≤ t.hood.length) : (rowsTo t p k).length = k * p.words.length := by
 induction k with
 | zero => rw [rowsTo_zero, Nat.zero_mul]; rfl
 | succ k ih => rw [rowsTo_succ _ _ _ (by omega), List.length_append, ih (by omega), moveP, pack_len, Nat.add_mul, Nat.one_mul]
structure PPart (w : World) (base ow M n : Nat) (gs : List Nat) : Prop where
 le : gs.length ≤ n
 own : Row w ow 67 (gs.map (gcell M) ++ List.replicate (n - gs.length) (.slice none 0 0))
 row : ∀ i, i < gs.length → Row w (gs.getD i 0) 66 (w64s (List.replicate M 0#64))
 bas : ∀ i, i < gs.length → base ≤ gs.getD i 0
 inj : ∀ i j, i < gs.length → j < gs.length → gs.getD i 0 = gs.getD j 0 → i = j
theorem PPart.up {w w' : World} {base ow M n : Nat} {gs : List Nat} (h : PPart w base ow M n gs) (hb : Below w.heap.size w w') : PPart w' base ow M n gs :=
 ⟨h.le, rowCells h.own hb, fun i hi => rowCells (h.row i hi) hb, h.bas, h.inj⟩
theorem PPart.drew {w : World} {base ow M n : Nat} {gs : List Nat} (h : PPart w base ow M n gs) : PPart w.drew base ow M n gs := ⟨h.le, h.own, h.row, h.bas, h.inj⟩
theorem PPart.put {w : World} {base ow M n g k : Nat} {gs : List Nat} (h : PPart w base ow M n gs) (hk : gs.length = k) (hlt : k < n) (hr : Row w g 66 (w64s (List.replicate M 0#64))) (hb : base ≤ g) (hg : ∀ i, i < gs.length → gs.getD i 0 < g) (hog : ow ≠ g) :
 PPart (w.setCell ⟨ow, k, none⟩ (gcell M g)) base ow M n (gs ++ [g]) := by
 subst hk
 have hset : (gs.map (gcell M) ++ List.replicate (n - gs.length) (Value.slice none 0 0)).set gs.length (gcell M g) = (gs ++ [g]).map (gcell M) ++ List.replicate (n - (gs ++ [g]).length) (.slice none 0 0) := by
  rw [List.set_append_right _ _ (by simp), List.length_map, Nat.sub_self]
  obtain ⟨d, hd⟩ : ∃ d, n - gs.length = d + 1 := ⟨n - gs.length - 1, by omega⟩
  rw [hd, List.replicate_succ, List.set_cons_zero, List.map_append, List.length_append, List.length_singleton, show n - (gs.length + 1) = d by omega]
  simp
 refine ⟨by simp; omega, by rw [← hset]; exact h.own.set _ _, fun i hi => ?_, fun i hi => ?_, fun i j hi hj e => ?_⟩
 all_goals rw [List.length_append, List.length_singleton] at hi
 ·by_cases c : i < gs.length
  ·rw [getD_app_lt _ _ _ c]
   have h2 := h.row i c
   refine h2.far (p := ⟨ow, gs.length, none⟩) (fun e => ?_) _
   have e : gs.getD i 0 = ow := e
   have h3 := h.own
   unfold Row at h2 h3
   rw [e, h3] at h2
   injection h2 with h2
   injection h2 with _ ht
   exact absurd ht (by decide)
  ·obtain rfl : i = gs.length := by omega
   rw [getD_app_ge _ _ _ (Nat.le_refl _), Nat.sub_self]
   exact hr.far (p := ⟨ow, gs.length, none⟩) (fun e => hog (by have e : g = ow := e; exact e.symm)) _
 ·by_cases c : i < gs.length
  ·rw [getD_app_lt _ _ _ c]; exact h.bas i c
  ·obtain rfl : i = gs.length := by omega
   rw [getD_app_ge _ _ _ (Nat.le_refl _), Nat.sub_self]; exact hb
 ·rw [List.length_append, List.length_singleton] at hj
  by_cases c : i < gs.length
  ·have := hg i c
   by_cases d : j < gs.length
   ·rw [getD_app_lt _ _ _ c, getD_app_lt _ _ _ d] at e; exact h.inj i j c d e
   ·obtain rfl : j = gs.length := by omega
    rw [getD_app_lt _ _ _ c, getD_app_ge _ _ _ (Nat.le_refl _), Nat.sub_self] at e
    have e : gs.getD i 0 = g := e
    omega
  ·obtain rfl : i = gs.length := by omega
   by_cases d : j < gs.length
   ·have := hg j d
    rw [getD_app_lt _ _ _ d, getD_app_ge _ _ _ (Nat.le_refl _), Nat.sub_self] at e
    have e : g = gs.getD j 0 := e
    omega
   ·omega
theorem PPart.cell {w : World} {base ow M n k : Nat} {gs : List Nat} (h : PPart w base ow M n gs) (hk : gs.length = k) (hlt : k < n) : w.cell? ⟨ow, k, none⟩ = some (.slice none 0 0) := by
 subst hk
 rw [h.own.cell, List.getElem?_append_right (by simp), List.length_map, Nat.sub_self, List.getElem?_replicate, if_pos (by omega)]
theorem getD_rep {α : Type} (n : Nat) (x d : α) {i : Nat} (h : i < n) : (List.replicate n x).getD i d = x := by
 rw [List.getD_eq_getElem?_getD, List.getElem?_replicate, if_pos h]; rfl
theorem PPart.all {w : World} {base ow M n : Nat} {gs : List Nat} (h : PPart w base ow M n gs) (hl : gs.length = n) (hb : base ≤ ow) (hn : n ≤ maxLen) : POwn w base (.slice (some ⟨ow, 0, none⟩) n n) M gs (List.replicate n (List.replicate M 0#64)) := by
 have ho := h.own
 rw [hl, Nat.sub_self, List.replicate_zero, List.append_nil] at ho
 refine ⟨by rw [List.length_replicate]; exact hl, ?_, fun i hi => ?_, fun i hi => ?_, fun i hi => ?_, fun i j hi hj e => ?_⟩
 ·rw [List.length_replicate]
  exact ho.own hb (by rw [List.length_map, hl, Nat.mul_one]) hn
 all_goals rw [List.length_replicate] at hi
 ·rw [getD_rep _ _ _ hi]; exact h.row i (by omega)
 ·rw [getD_rep _ _ _ hi, List.length_replicate]
 ·exact h.bas i (by omega)
 ·rw [List.length_replicate] at hj
  exact h.inj i j (by omega) (by omega) e
def outRow (t : Tre) (p : Pln) (M k b j : Nat) : List (BitVec 64) := (List.range M).map (fun i => if i < k ∨ (i = k ∧ j < b) then nextWord t p j i else 0#64)
def outK (t : Tre) (p : Pln) (n M k b : Nat) : List (List (BitVec 64)) := (List.range n).map (outRow t p M k b)
theorem outK_len (t : Tre) (p : Pln) (n M k b : Nat) : (outK t p n M k b).length = n := by simp [outK]
theorem outK_get (t : Tre) (p : Pln) (n M k b : Nat) {j : Nat} (hj : j < n) : (outK t p n M k b).getD j [] = outRow t p M k b j := by
 unfold outK
 rw [List.getD_eq_getElem?_getD, List.getElem?_map, List.getElem?_range hj]; rfl
theorem outK_zero (t : Tre) (p : Pln) (n M : Nat) : outK t p n M 0 0 = List.replicate n (List.replicate M 0#64) := by
 unfold outK
 rw [List.eq_replicate_iff]
 refine ⟨by simp, fun l hl => ?_⟩
 obtain ⟨j, _, rfl⟩ := List.mem_map.1 hl
 unfold outRow
 rw [List.eq_replicate_iff]
 refine ⟨by simp, fun x hx => ?_⟩
 obtain ⟨i, _, rfl⟩ := List.mem_map.1 hx
 rw [if_neg (by omega)]
theorem outK_next (t : Tre) (p : Pln) (n M k : Nat) : outK t p n M k n = outK t p n M (k + 1) 0 := by
 unfold outK
 apply List.map_congr_left
 intro j hj
 have := List.mem_range.1 hj
 unfold outRow
 apply List.map_congr_left
 intro i _
 by_cases h : i < k ∨ (i = k ∧ j < n)
 ·rw [if_pos h, if_pos (by omega)]
 ·rw [if_neg h, if_neg (by omega)]
theorem outK_put (t : Tre) (p : Pln) (n M k b : Nat) (hb : b < n) (hk : k < M) : (outK t p n M k b).set b (((outK t p n M k b).getD b []).set k (nextWord t p b k)) = outK t p n M k (b + 1) := by
 rw [outK_get _ _ _ _ _ _ hb]
 apply List.ext_getElem
 ·simp [outK]
 intro j h1 h2
 have hj : j < n := by rw [outK_len] at h2; exact h2
 rw [List.getElem_set]
 have e2 : (outK t p n M k (b + 1))[j] = outRow t p M k (b + 1) j := by simp [outK]
 rw [e2]
 by_cases e : b = j
 ·subst e
  rw [if_pos rfl]
  apply List.ext_getElem
  ·simp [outRow]
  intro i h3 h4
  rw [List.getElem_set]
  have hi : i < M := by simpa [outRow] using h4
  have e4 : (outRow t p M k (b + 1) b)[i] = if i < k ∨ (i = k ∧ b < b + 1) then nextWord t p b i else 0#64 := by simp [outRow]
  have e3 : (outRow t p M k b b)[i]'(by simpa [outRow] using hi) = if i < k ∨ (i = k ∧ b < b) then nextWord t p b i else 0#64 := by simp [outRow]
  rw [e4, e3]
  by_cases c : k = i
  ·subst c
   rw [if_pos rfl, if_pos (by omega)]
  ·rw [if_neg c]
   by_cases d : i < k
   ·rw [if_pos (.inl d), if_pos (.inl d)]
   ·rw [if_neg (by omega), if_neg (by omega)]
 ·rw [if_neg e]
  have e3 : (outK t p n M k b)[j]'(by rw [outK_len]; exact hj) = outRow t p M k b j := by simp [outK]
  rw [e3]
  unfold outRow
  apply List.map_congr_left
  intro i _
  by_cases h : i < k ∨ (i = k ∧ j < b)
  ·rw [if_pos h, if_pos (by omega)]
  ·rw [if_neg h, if_neg (by omega)]
theorem outK_all (t : Tre) (p : Pln) (M : Nat) (hM : M = wpr p.w.toNat * p.h.toNat) : outK t p p.words.length M M 0 = (nextPl t p).words := by
 show _ = (List.range p.words.length).map (nextRow t p)
 unfold outK
 apply List.map_congr_left
 intro j _
 unfold outRow nextRow
 rw [← hM]
 apply List.map_congr_left
 intro i hi
 rw [if_pos (.inl (List.mem_range.1 hi))]
theorem moved_wid {t : Tre} {p : Pln} (dx dy : Int) {i : Nat} (hi : i < (moveP p dx dy).words.length) : ((moveP p dx dy).words.getD i []).length = p.h.toNat * wpr p.w.toNat := by
 unfold moveP at hi ⊢
 rw [pack_len] at hi
 rw [pack_get _ _ _ hi, planeF_length]; rfl
theorem in_at_len (rows : List (List (BitVec 64))) (k : Nat) : (inAt rows k).length = rows.length := by simp [inAt]
theorem in_at_get (rows : List (List (BitVec 64))) (k : Nat) {i : Nat} (h : i < rows.length) : (inAt rows k).getD i 0#64 = (rows.getD i []).getD k 0#64 := by
 have e : rows.getD i [] = rows[i] := by rw [List.getD_eq_getElem?_getD, List.getElem?_eq_getElem h]; rfl
 unfold inAt
 rw [e, List.getD_eq_getElem?_getD, List.getElem?_map, List.getElem?_eq_getElem h]; rfl
def inMix (rows : List (List (BitVec 64))) (k : Nat) (inL : List (BitVec 64)) (i : Nat) : List (BitVec 64) := (inAt rows k).take i ++ inL.drop i
theorem inMix_len (rows : List (List (BitVec 64))) (k : Nat) (inL : List (BitVec 64)) (i : Nat) (hl : inL.length = rows.length) (hi : i ≤ rows.length) : (inMix rows k inL i).length = rows.length := by
 unfold inMix
 rw [List.length_append, List.length_take, List.length_drop, in_at_len]; omega
theorem inMix_zero (rows : List (List (BitVec 64))) (k : Nat) (inL : List (BitVec 64)) : inMix rows k inL 0 = inL := by simp [inMix]
theorem inMix_all (rows : List (List (BitVec 64))) (k : Nat) (inL : List (BitVec 64)) (hl : inL.length = rows.length) : inMix rows k inL rows.length = inAt rows k := by
 unfold inMix
 rw [List.take_of_length_le (by rw [in_at_len]; exact Nat.le_refl _), List.drop_of_length_le (by omega), List.append_nil]
theorem inMix_set (rows : List (List (BitVec 64))) (k : Nat) (inL : List (BitVec 64)) {i : Nat} (hl : inL.length = rows.length) (hi : i < rows.length) : (inMix rows k inL i).set i ((rows.getD i []).getD k 0#64) = inMix rows k inL (i + 1) := by
 have hlen : (inAt rows k).length = rows.length := in_at_len _ _
 rw [← in_at_get rows k hi]
 unfold inMix
 have h1 : ((inAt rows k).take i).length = i := by rw [List.length_take]; omega
 rw [List.set_append_right _ _ (by omega), h1, Nat.sub_self, List.drop_eq_getElem_cons (by omega), List.set_cons_zero, List.take_succ_eq_append_getElem (by omega), List.append_assoc, List.getD_eq_getElem?_getD, List.getElem?_eq_getElem (by omega)]
 rfl
theorem POwn.farW {w : World} {base M : Nat} {v : Value} {gs : List Nat} {rows : List (List (BitVec 64))} {p : Addr} {xs : List Value} (h : POwn w base v M gs rows) (hr : Row w p.block 66 xs) (hne : ∀ i, i < rows.length → gs.getD i 0 ≠ p.block) (u : Value) : POwn (w.setCell p u) base v M gs rows :=
 ⟨h.len, own_set h.own hr (by decide) u, fun i hi => (h.row i hi).far (hne i hi) u, h.wid, h.bas, h.inj⟩
theorem mask_all (W k : Nat) (h : ¬ (k % wpr W = wpr W - 1 ∧ 0 < W % 64)) (x : BitVec 64) : Value.int .u64 (bits .and .u64 (x.toNat : Int) 18446744073709551615) = w64 (x &&& maskF W k) := by
 unfold maskF
 rw [if_neg h]
 have e : (18446744073709551615 : Int) = (((BitVec.allOnes 64).toNat : Nat) : Int) := by decide
 rw [e, u64_and_nat _ _ x.isLt (BitVec.allOnes 64).isLt, ← BitVec.toNat_and]; rfl
end Go.Proofs.Ytiemhbogbaamlaa
