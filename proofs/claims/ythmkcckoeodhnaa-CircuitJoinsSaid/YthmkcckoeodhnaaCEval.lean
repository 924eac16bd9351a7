/-
  circuit.Eval, walked.
-/
import Derived.Test.YthmkcckoeodhnaaCWords
import Derived.Test.YthmkcckoeodhnaaApp
namespace Go.Proofs.Ythmkcckoeodhnaa
open Go.RowKit
set_option linter.unusedSimpArgs false
set_option linter.unusedVariables false

theorem bool_info' : (Try.prog.info? 4).map (fun i => (i.zero, i.size, i.bytes)) = some (some (.bool false), 1, 1) := by kernel_rfl
/-- A Bool as a word, and a word's lowest bit. -/
def bw (b : Bool) : BitVec 64 := if b then 1 else 0
def lo (x : BitVec 64) : Bool := x.getLsbD 0
theorem w64_lo (x : BitVec 64) : (bits .and .u64 (x.toNat : Int) 1 == 1) = lo x := by
  have h : (1 : Int) = (((1 : BitVec 64).toNat : Nat) : Int) := by decide
  rw [h, u64_and_nat _ _ x.isLt (1 : BitVec 64).isLt]
  unfold lo
  rw [← BitVec.testBit_toNat]
  simp only [Nat.testBit, Nat.shiftRight_zero]
  have : x.toNat &&& (1 : BitVec 64).toNat = x.toNat % 2 := Nat.and_one_is_mod _
  rw [this, Nat.one_and_eq_mod_two]
  rcases Nat.mod_two_eq_zero_or_one x.toNat with e | e <;> rw [e] <;> rfl
theorem bools_set (bs : List Bool) (b : Bool) (m k : Nat) (z : Value) (hl : bs.length = m) (hk : 0 < k) : (bools bs ++ List.replicate k z).set m (.bool b) = bools (bs ++ [b]) ++ List.replicate (k - 1) z := by
  subst hl
  obtain ⟨j, rfl⟩ : ∃ j, k = j + 1 := ⟨k - 1, by omega⟩
  rw [List.set_append_right _ _ (by simp)]
  simp [bools, List.replicate_succ]
theorem bools_next (bs : List Bool) (m k : Nat) (z : Value) (hl : bs.length = m) (hk : 0 < k) : (bools bs ++ List.replicate k z)[m]? = some z := by
  subst hl
  rw [List.getElem?_append_right (by simp), List.getElem?_replicate]
  simp [hk]
theorem map_take_b {β : Type} (f : Bool → β) (bs : List Bool) (k : Nat) (h : k < bs.length) : (bs.take (k + 1)).map f = (bs.take k).map f ++ [f (bs.getD k false)] := by
  rw [List.take_succ_eq_append_getElem h, List.map_append, List.getD_eq_getElem?_getD, List.getElem?_eq_getElem h]; rfl
theorem map_take_w {β : Type} (f : BitVec 64 → β) (bs : List (BitVec 64)) (k : Nat) (h : k < bs.length) : (bs.take (k + 1)).map f = (bs.take k).map f ++ [f (bs.getD k 0)] := by
  rw [List.take_succ_eq_append_getElem h, List.map_append, List.getD_eq_getElem?_getD, List.getElem?_eq_getElem h]; rfl

def EvalPost (c : Circ) (n on : Nat) (ins : List Bool) (w : World) (e : Ending) (w' : World) : Prop :=
  (okC c n = false ∧ e = .returned (.tuple #[.slice none 0 0, .int .i64 2]) ∧ Below w.heap.size w w') ∨
  (okC c n = true ∧ ∃ g, e = .returned (.tuple #[.slice (some ⟨g, 0, none⟩) on on, .int .i64 0]) ∧ Row w' g 4 (bools ((outsG evalW 0 c (ins.map bw)).map lo)) ∧ w.heap.size ≤ g ∧ Below w.heap.size w w')

set_option maxHeartbeats 1000000 in
/-- Up to the call of Words: the words hold the Bools; then whatever Words does. -/
theorem eval_head (c : Circ) (GA OA IA : Option Addr) (gn gc on oc n ic : Nat) (ins : List Bool) (w : World) (h : CAt w c GA OA gn on) (hI : Rd w w.heap.size 1 IA n (bools ins)) (hn : n ≤ 1100) :
    Calls Try.prog 15 #[.agg #[.int .i64 c.inputs, .slice GA gn gc, .slice OA on oc], .slice IA n ic] w (EvalPost c n on ins w) := by
  have H : Hid (CAt w c GA OA gn on) := h
  have HI : Hid (Rd w w.heap.size 1 IA n (bools ins)) := hI
  have LI : Hid (ins.length = n) := by have := hI.1; simp at this; show _ = _; omega
  have LO : Hid (c.outs.length = on) := h.ol
  clear h hI
  have hmk := fun W => make_like (P := Try.prog) Try.underlying35 u64_info rfl n (n : Int) rfl (by omega) (by omega) W
  go_enter Try.func15, Try.ntmps15
  go_wp2
  go_loopg [18] n (fun gg s18 wr => ∃ kk : Nat, kk ≤ n ∧ n - kk ≤ gg ∧ s18 = .int .i64 kk ∧ Aside (Below (w.heap.size + 1) (w.alloc (.cells #[.int .i64 c.inputs, .slice GA gn gc, .slice OA on oc] 25)) wr) ∧ Aside (Row wr (w.heap.size + 1) 38 (w64s ((ins.take kk).map bw) ++ List.replicate (n - kk) (.int .u64 0))))
  case atStart => exact ⟨0, Nat.zero_le _, by omega, rfl, (show Below _ _ _ by go_grown), (by have := Row.new (w.alloc (.cells #[.int .i64 c.inputs, .slice GA gn gc, .slice OA on oc] 25)) 38 (List.replicate n (.int .u64 0)); rw [World.size_alloc] at this; exact this)⟩
  case round =>
    clear hmk
    obtain ⟨kk, hkk, hgg, rfl, BW, RW⟩ := hrel
    have B0 : Aside (Below w.heap.size w wr) := below_box (k := 1) BW.out
    by_cases hlt : kk < n
    · have hltz : (kk : Int) < (n : Int) := by omega
      obtain ⟨ad, rfl, hb, hcell⟩ := (HI.out.up B0.out).bool hlt
      have HT : Aside _ := map_take_b bw ins kk (by rw [LI.out]; exact hlt)
      have hlt' : ((ins.take kk).map bw).length = kk := by rw [List.length_map, List.length_take, LI.out]; omega
      have HS : Aside _ := w64s_set ((ins.take kk).map bw) (bw (ins.getD kk false)) kk (n - kk) (.int .u64 0) hlt' (by omega)
      have vc : wr.cell? ⟨w.heap.size + 1, kk, none⟩ = some (.int .u64 0) := (RW.out.cell kk).trans (w64s_next _ _ _ _ hlt' (by omega))
      have vf : wr.frozen? ⟨w.heap.size + 1, kk, none⟩ = false := RW.out.frozen kk
      clear hlt'
      cases hbv : ins.getD kk false
      · rw [hbv] at hcell HT HS
        go_wp2
        go_roundg (n - (kk + 1))
        case measure => omega
        case rel =>
          refine ⟨kk + 1, by omega, by omega, by go_num, BW.out, ?_⟩
          show Row _ _ _ _
          rw [HT.out, show n - (kk + 1) = n - kk - 1 from by omega, ← HS.out]
          have he : (w64s ((ins.take kk).map bw) ++ List.replicate (n - kk) (Value.int .u64 0)).set kk (w64 (bw false)) = w64s ((ins.take kk).map bw) ++ List.replicate (n - kk) (Value.int .u64 0) := by
            apply List.ext_getElem?
            intro j
            rw [List.getElem?_set]
            split
            · rename_i hj; subst hj
              have := (RW.out.cell kk).symm.trans vc
              rw [this, if_pos (List.getElem?_eq_some_iff.1 this).1]; rfl
            · rfl
          rw [he]
          exact RW.out
      · rw [hbv] at hcell HT HS
        go_wp2
        go_roundg (n - (kk + 1))
        case measure => omega
        case rel =>
          have BB := BW.out
          refine ⟨kk + 1, by omega, by omega, by go_num, (show Below _ _ _ by go_grown), ?_⟩
          show Row _ _ _ _
          rw [HT.out, show n - (kk + 1) = n - kk - 1 from by omega, ← HS.out]
          exact RW.out.set _ _
    · have hltz : ¬ (kk : Int) < (n : Int) := by omega
      obtain rfl : kk = n := by omega
      have RW' : Aside (Row wr (w.heap.size + 1) 38 (w64s (ins.map bw))) := by
        have := RW.out
        rw [Nat.sub_self, List.replicate_zero, List.append_nil, ← LI.out, List.take_length] at this
        exact this
      have c0 : wr.cell? ⟨w.heap.size, 0, none⟩ = some (.int .i64 c.inputs) := (BW.out.cell (p := ⟨w.heap.size, 0, none⟩) (by simp)).trans (by go_cell)
      have c1 : wr.cell? ⟨w.heap.size, 1, none⟩ = some (.slice GA gn gc) := (BW.out.cell (p := ⟨w.heap.size, 1, none⟩) (by simp)).trans (by go_cell)
      have c2 : wr.cell? ⟨w.heap.size, 2, none⟩ = some (.slice OA on oc) := (BW.out.cell (p := ⟨w.heap.size, 2, none⟩) (by simp)).trans (by go_cell)
      have hlw : ((w64s (ins.map bw)).length = kk * 1) := by simp [w64s, LI.out]
      have HLW : Aside ((w64s (ins.map bw)).length = kk * 1) := hlw
      clear hlw
      cases hok : okC c kk
      · go_wp2_with fail
        refine (words_bad c GA OA _ gn gc on oc kk kk _ (H.out.up B0.out) (by unfold maxLen; omega) hok).mono ?_
        rintro e w1 ⟨rfl, hb⟩
        go_wp2
        go_ret2
        exact .inl ⟨hok, rfl, B0.out.trans (hb.mono B0.out.size)⟩
      · have h3 : on ≤ 1000 := by
          simp only [okC, Bool.and_eq_true] at hok
          have := (rightC_parts hok.1).1.2.2.2
          rw [LO.out] at this; exact this
        have hmk := fun W => make_like (P := Try.prog) Try.underlying29 bool_info' rfl on (on : Int) rfl (by omega) (by omega) W
        go_wp2_with fail
        refine (words_ok c GA OA (some ⟨w.heap.size + 1, 0, none⟩) gn gc on oc kk kk (ins.map bw) _ (H.out.up B0.out) (RW'.out.rd HLW.out) hok).mono ?_
        rintro e w1 ⟨g, rfl, hrow, hgle, hb⟩
        have HROW : Aside (Row w1 g 38 (w64s (outsG evalW 0 c (ins.map bw)))) := hrow
        have hgl : g < w1.heap.size := hrow.lt
        have HB1 : Aside (Below w.heap.size w w1) := B0.out.trans (hb.mono B0.out.size)
        have LL : Aside ((outsG evalW 0 c (ins.map bw)).length = on) := by show _ = _; rw [outsG, List.length_map, LO.out]
        clear hb hrow c0 c1 c2
        go_wp2
        go_loopg [42] on (fun gg s42 wr' => ∃ jj : Nat, jj ≤ on ∧ on - jj ≤ gg ∧ s42 = .int .i64 jj ∧ Aside (Below w1.heap.size w1 wr') ∧ Aside (Row wr' w1.heap.size 4 (bools (((outsG evalW 0 c (ins.map bw)).take jj).map lo) ++ List.replicate (on - jj) (.bool false))))
        case atStart => exact ⟨0, Nat.zero_le _, by omega, rfl, (show Below _ _ _ by go_grown), Row.new _ _ _⟩
        case round =>
          rename World => wr2
          clear hmk
          obtain ⟨jj, hjj, hg2, rfl, BW2, RW2⟩ := hrel
          by_cases hlt2 : jj < on
          · have hltz2 : (jj : Int) < (on : Int) := by omega
            have hv : wr2.cell? ⟨g, jj, none⟩ = some (w64 ((outsG evalW 0 c (ins.map bw)).getD jj 0)) := by
              rw [BW2.out.cell (p := ⟨g, jj, none⟩) hgl, HROW.out.cell jj]
              have := w64s_at (outsG evalW 0 c (ins.map bw)) [] jj (by rw [LL.out]; exact hlt2)
              simpa using this
            have HT : Aside _ := map_take_w lo (outsG evalW 0 c (ins.map bw)) jj (by rw [LL.out]; exact hlt2)
            have hlt' : (((outsG evalW 0 c (ins.map bw)).take jj).map lo).length = jj := by rw [List.length_map, List.length_take, LL.out]; omega
            generalize (outsG evalW 0 c (ins.map bw)).getD jj 0 = x at hv HT
            have HS : Aside _ := bools_set (((outsG evalW 0 c (ins.map bw)).take jj).map lo) (lo x) jj (on - jj) (.bool false) hlt' (by omega)
            have vc : wr2.cell? ⟨w1.heap.size, jj, none⟩ = some (.bool false) := (RW2.out.cell jj).trans (bools_next _ _ _ _ hlt' (by omega))
            have vf : wr2.frozen? ⟨w1.heap.size, jj, none⟩ = false := RW2.out.frozen jj
            clear hlt'
            unfold w64 at hv
            go_wp2
            go_roundg (on - (jj + 1))
            case measure => omega
            case rel =>
              have BB := BW2.out
              refine ⟨jj + 1, by omega, by omega, by go_num, (show Below _ _ _ by go_grown), ?_⟩
              show Row _ _ _ _
              rw [HT.out, show on - (jj + 1) = on - jj - 1 from by omega, ← HS.out, w64_lo]
              exact RW2.out.set _ _
          · have hltz2 : ¬ (jj : Int) < (on : Int) := by omega
            obtain rfl : jj = on := by omega
            go_wp2
            go_ret2
            refine Or.inr ⟨hok, w1.heap.size, rfl, ?_, HB1.out.size, HB1.out.trans (BW2.out.mono HB1.out.size)⟩
            have := RW2.out
            rw [Nat.sub_self, List.replicate_zero, List.append_nil, ← LL.out, List.take_length] at this
            exact this
end Go.Proofs.Ythmkcckoeodhnaa
