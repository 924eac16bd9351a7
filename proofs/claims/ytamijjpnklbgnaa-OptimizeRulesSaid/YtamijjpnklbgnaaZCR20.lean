/-
  circuit.Eval, walked.
-/
import Derived.Test.YtamijjpnklbgnaaZCR19
import Derived.Test.YtamijjpnklbgnaaZCR1
import Derived.Test.YtamijjpnklbgnaaZCR2
import Derived.Test.YtamijjpnklbgnaaProg
import Derived.Deep.QuietTactic
import Derived.BigQuiet
import Derived.Deep.Light
import Derived.Deep.RegionHeld3
import Derived.Test.YtamijjpnklbgnaaZCR10
namespace Go.Proofs.Ytamijjpnklbgnaa
open Go.RowKit
set_option linter.unusedSimpArgs false
set_option linter.unusedVariables false

theorem bool_info' : (Try.prog.info? 4).map (fun i => (i.zero, i.size, i.bytes)) = some (some (.bool false), 1, 1) := by kernel_rfl
/-- A Bool as a word, and a word's lowest bit. -/
def bw (b : Bool) : BitVec 64 := if b then 1 else 0
def lo (x : BitVec 64) : Bool := x.getLsbD 0
theorem w64_lo (x : BitVec 64) : (bits .and .u64 (x.toNat : Int) 1 == 1) = lo x := by
  have h : (1 : Int) = (((1 : BitVec 64).toNat : Nat) : Int) := by decide
  rw [h, u64_and_nat _ _ x.isLt (1 : BitVec 64).isLt]
  unfold lo
  rw [← BitVec.testBit_toNat]
  simp only [Nat.testBit, Nat.shiftRight_zero]
  have : x.toNat &&& (1 : BitVec 64).toNat = x.toNat % 2 := Nat.and_one_is_mod _
  rw [this, Nat.one_and_eq_mod_two]
  rcases Nat.mod_two_eq_zero_or_one x.toNat with e | e <;> rw [e] <;> rfl
theorem bools_set (bs : List Bool) (b : Bool) (m k : Nat) (z : Value) (hl : bs.length = m) (hk : 0 < k) : (bools bs ++ List.replicate k z).set m (.bool b) = bools (bs ++ [b]) ++ List.replicate (k - 1) z := by
  subst hl
  obtain ⟨j, rfl⟩ : ∃ j, k = j + 1 := ⟨k - 1, by omega⟩
  rw [List.set_append_right _ _ (by simp)]
  simp [bools, List.replicate_succ]
theorem bools_next (bs : List Bool) (m k : Nat) (z : Value) (hl : bs.length = m) (hk : 0 < k) : (bools bs ++ List.replicate k z)[m]? = some z := by
  subst hl
  rw [List.getElem?_append_right (by simp), List.getElem?_replicate]
  simp [hk]
theorem map_take_b {β : Type} (f : Bool → β) (bs : List Bool) (k : Nat) (h : k < bs.length) : (bs.take (k + 1)).map f = (bs.take k).map f ++ [f (bs.getD k false)] := by
  rw [List.take_succ_eq_append_getElem h, List.map_append, List.getD_eq_getElem?_getD, List.getElem?_eq_getElem h]; rfl
theorem map_take_w {β : Type} (f : BitVec 64 → β) (bs : List (BitVec 64)) (k : Nat) (h : k < bs.length) : (bs.take (k + 1)).map f = (bs.take k).map f ++ [f (bs.getD k 0)] := by
  rw [List.take_succ_eq_append_getElem h, List.map_append, List.getD_eq_getElem?_getD, List.getElem?_eq_getElem h]; rfl

def EvalPost (c : Circ) (n on : Nat) (ins : List Bool) (w : World) (e : Ending) (w' : World) : Prop :=
  (okC c n = false ∧ e = .returned (.tuple #[.slice none 0 0, .int .i64 2]) ∧ Below w.heap.size w w') ∨
  (okC c n = true ∧ ∃ g, e = .returned (.tuple #[.slice (some ⟨g, 0, none⟩) on on, .int .i64 0]) ∧ Row w' g 4 (bools ((outsG evalW 0 c (ins.map bw)).map lo)) ∧ w.heap.size ≤ g ∧ Below w.heap.size w w')

set_option maxHeartbeats 1000000 in
/-- Up to the call of Words: the words hold the Bools; then whatever Words does. -/
theorem eval_head (c : Circ) (GA OA IA : Option Addr) (gn gc on oc n ic : Nat) (ins : List Bool) (w : World) (h : CAt w c GA OA gn on) (hI : Rd w w.heap.size 1 IA n (bools ins)) (hn : n ≤ 1100) :
    Calls Try.prog 31 #[.agg #[.int .i64 c.inputs, .slice GA gn gc, .slice OA on oc], .slice IA n ic] w (EvalPost c n on ins w) := by
  have H : Hid (CAt w c GA OA gn on) := h
  have HI : Hid (Rd w w.heap.size 1 IA n (bools ins)) := hI
  have LI : Hid (ins.length = n) := by have := hI.1; simp at this; show _ = _; omega
  have LO : Hid (c.outs.length = on) := h.ol
  clear h hI
  have hmk := fun W => make_like (P := Try.prog) Try.underlying88 u64_info rfl n (n : Int) rfl (by omega) (by omega) W
  go_enter Try.func31, Try.ntmps31
  go_wp2
  go_loopg [18] n (fun gg s18 wr => ∃ kk : Nat, kk ≤ n ∧ n - kk ≤ gg ∧ s18 = .int .i64 kk ∧ Aside (Below (w.heap.size + 1) (w.alloc (.cells #[.int .i64 c.inputs, .slice GA gn gc, .slice OA on oc] 25)) wr) ∧ Aside (Row wr (w.heap.size + 1) 89 (w64s ((ins.take kk).map bw) ++ List.replicate (n - kk) (.int .u64 0))))
  case atStart => exact ⟨0, Nat.zero_le _, by omega, rfl, (show Below _ _ _ by go_grown), (by have := Row.new (w.alloc (.cells #[.int .i64 c.inputs, .slice GA gn gc, .slice OA on oc] 25)) 89 (List.replicate n (.int .u64 0)); rw [World.size_alloc] at this; exact this)⟩
  case round =>
    clear hmk
    obtain ⟨kk, hkk, hgg, rfl, BW, RW⟩ := hrel
    have B0 : Aside (Below w.heap.size w wr) := below_box (k := 1) BW.out
    by_cases hlt : kk < n
    · have hltz : (kk : Int) < (n : Int) := by omega
      obtain ⟨ad, rfl, hb, hcell⟩ := (HI.out.up B0.out).bool hlt
      have HT : Aside _ := map_take_b bw ins kk (by rw [LI.out]; exact hlt)
      have hlt' : ((ins.take kk).map bw).length = kk := by rw [List.length_map, List.length_take, LI.out]; omega
      have HS : Aside _ := w64s_set ((ins.take kk).map bw) (bw (ins.getD kk false)) kk (n - kk) (.int .u64 0) hlt' (by omega)
      have vc : wr.cell? ⟨w.heap.size + 1, kk, none⟩ = some (.int .u64 0) := (RW.out.cell kk).trans (w64s_next _ _ _ _ hlt' (by omega))
      have vf : wr.frozen? ⟨w.heap.size + 1, kk, none⟩ = false := RW.out.frozen kk
      clear hlt'
      cases hbv : ins.getD kk false
      · rw [hbv] at hcell HT HS
        go_wp2
        go_roundg (n - (kk + 1))
        case measure => omega
        case rel =>
          refine ⟨kk + 1, by omega, by omega, by go_num, BW.out, ?_⟩
          show Row _ _ _ _
          rw [HT.out, show n - (kk + 1) = n - kk - 1 from by omega, ← HS.out]
          have he : (w64s ((ins.take kk).map bw) ++ List.replicate (n - kk) (Value.int .u64 0)).set kk (w64 (bw false)) = w64s ((ins.take kk).map bw) ++ List.replicate (n - kk) (Value.int .u64 0) := by
            apply List.ext_getElem?
            intro j
            rw [List.getElem?_set]
            split
            · rename_i hj; subst hj
              have := (RW.out.cell kk).symm.trans vc
              rw [this, if_pos (List.getElem?_eq_some_iff.1 this).1]; rfl
            · rfl
          rw [he]
          exact RW.out
      · rw [hbv] at hcell HT HS
        go_wp2
        go_roundg (n - (kk + 1))
        case measure => omega
        case rel =>
          have BB := BW.out
          refine ⟨kk + 1, by omega, by omega, by go_num, (show Below _ _ _ by go_grown), ?_⟩
          show Row _ _ _ _
          rw [HT.out, show n - (kk + 1) = n - kk - 1 from by omega, ← HS.out]
          exact RW.out.set _ _
    · have hltz : ¬ (kk : Int) < (n : Int) := by omega
      obtain rfl : kk = n := by omega
      have RW' : Aside (Row wr (w.heap.size + 1) 89 (w64s (ins.map bw))) := by
        have := RW.out
        rw [Nat.sub_self, List.replicate_zero, List.append_nil, ← LI.out, List.take_length] at this
        exact this
      have c0 : wr.cell? ⟨w.heap.size, 0, none⟩ = some (.int .i64 c.inputs) := (BW.out.cell (p := ⟨w.heap.size, 0, none⟩) (by simp)).trans (by go_cell)
      have c1 : wr.cell? ⟨w.heap.size, 1, none⟩ = some (.slice GA gn gc) := (BW.out.cell (p := ⟨w.heap.size, 1, none⟩) (by simp)).trans (by go_cell)
      have c2 : wr.cell? ⟨w.heap.size, 2, none⟩ = some (.slice OA on oc) := (BW.out.cell (p := ⟨w.heap.size, 2, none⟩) (by simp)).trans (by go_cell)
      have hlw : ((w64s (ins.map bw)).length = kk * 1) := by simp [w64s, LI.out]
      have HLW : Aside ((w64s (ins.map bw)).length = kk * 1) := hlw
      clear hlw
      cases hok : okC c kk
      · go_wp2_with fail
        refine (words_bad c GA OA _ gn gc on oc kk kk _ (H.out.up B0.out) (by unfold maxLen; omega) hok).mono ?_
        rintro e w1 ⟨rfl, hb⟩
        go_wp2
        go_ret2
        exact .inl ⟨hok, rfl, B0.out.trans (hb.mono B0.out.size)⟩
      · have h3 : on ≤ 1000 := by
          simp only [okC, Bool.and_eq_true] at hok
          have := (rightC_parts hok.1).1.2.2.2
          rw [LO.out] at this; exact this
        have hmk := fun W => make_like (P := Try.prog) Try.underlying30 bool_info' rfl on (on : Int) rfl (by omega) (by omega) W
        go_wp2_with fail
        refine (words_ok c GA OA (some ⟨w.heap.size + 1, 0, none⟩) gn gc on oc kk kk (ins.map bw) _ (H.out.up B0.out) (RW'.out.rd HLW.out) hok).mono ?_
        rintro e w1 ⟨g, rfl, hrow, hgle, hb⟩
        have HROW : Aside (Row w1 g 89 (w64s (outsG evalW 0 c (ins.map bw)))) := hrow
        have hgl : g < w1.heap.size := hrow.lt
        have HB1 : Aside (Below w.heap.size w w1) := B0.out.trans (hb.mono B0.out.size)
        have LL : Aside ((outsG evalW 0 c (ins.map bw)).length = on) := by show _ = _; rw [outsG, List.length_map, LO.out]
        clear hb hrow c0 c1 c2
        go_wp2
        go_loopg [42] on (fun gg s42 wr' => ∃ jj : Nat, jj ≤ on ∧ on - jj ≤ gg ∧ s42 = .int .i64 jj ∧ Aside (Below w1.heap.size w1 wr') ∧ Aside (Row wr' w1.heap.size 4 (bools (((outsG evalW 0 c (ins.map bw)).take jj).map lo) ++ List.replicate (on - jj) (.bool false))))
        case atStart => exact ⟨0, Nat.zero_le _, by omega, rfl, (show Below _ _ _ by go_grown), Row.new _ _ _⟩
        case round =>
          rename World => wr2
          clear hmk
          obtain ⟨jj, hjj, hg2, rfl, BW2, RW2⟩ := hrel
          by_cases hlt2 : jj < on
          · have hltz2 : (jj : Int) < (on : Int) := by omega
            have hv : wr2.cell? ⟨g, jj, none⟩ = some (w64 ((outsG evalW 0 c (ins.map bw)).getD jj 0)) := by
              rw [BW2.out.cell (p := ⟨g, jj, none⟩) hgl, HROW.out.cell jj]
              have := w64s_at (outsG evalW 0 c (ins.map bw)) [] jj (by rw [LL.out]; exact hlt2)
              simpa using this
            have HT : Aside _ := map_take_w lo (outsG evalW 0 c (ins.map bw)) jj (by rw [LL.out]; exact hlt2)
            have hlt' : (((outsG evalW 0 c (ins.map bw)).take jj).map lo).length = jj := by rw [List.length_map, List.length_take, LL.out]; omega
            generalize (outsG evalW 0 c (ins.map bw)).getD jj 0 = x at hv HT
            have HS : Aside _ := bools_set (((outsG evalW 0 c (ins.map bw)).take jj).map lo) (lo x) jj (on - jj) (.bool false) hlt' (by omega)
            have vc : wr2.cell? ⟨w1.heap.size, jj, none⟩ = some (.bool false) := (RW2.out.cell jj).trans (bools_next _ _ _ _ hlt' (by omega))
            have vf : wr2.frozen? ⟨w1.heap.size, jj, none⟩ = false := RW2.out.frozen jj
            clear hlt'
            unfold w64 at hv
            go_wp2
            go_roundg (on - (jj + 1))
            case measure => omega
            case rel =>
              have BB := BW2.out
              refine ⟨jj + 1, by omega, by omega, by go_num, (show Below _ _ _ by go_grown), ?_⟩
              show Row _ _ _ _
              rw [HT.out, show on - (jj + 1) = on - jj - 1 from by omega, ← HS.out, w64_lo]
              exact RW2.out.set _ _
          · have hltz2 : ¬ (jj : Int) < (on : Int) := by omega
            obtain rfl : jj = on := by omega
            go_wp2
            go_ret2
            refine Or.inr ⟨hok, w1.heap.size, rfl, ?_, HB1.out.size, HB1.out.trans (BW2.out.mono HB1.out.size)⟩
            have := RW2.out
            rw [Nat.sub_self, List.replicate_zero, List.append_nil, ← LL.out, List.take_length] at this
            exact this
end Go.Proofs.Ytamijjpnklbgnaa

/-
  Plain: each bit of what a circuit computes over words is what it computes over that bit.
-/
namespace Go.Proofs.Ytamijjpnklbgnaa
open Go.RowKit
set_option linter.unusedSimpArgs false
set_option linter.unusedVariables false

def bitOf (b : Nat) (x : BitVec 64) : Bool := x.getLsbD b
theorem evalW_bit (op : Int) (x y : BitVec 64) (b : Nat) (hb : b < 64) : bitOf b (evalW op x y) = evalB op (bitOf b x) (bitOf b y) := by
  unfold bitOf evalW evalB
  split
  · rw [BitVec.getLsbD_allOnes]; simp [hb]
  · split
    · simp [hb]
    · split
      · simp
      · split
        · simp
        · split
          · simp
          · simp
theorem getD_map_bit (vs : List (BitVec 64)) (b k : Nat) : (vs.map (bitOf b)).getD k false = bitOf b (vs.getD k 0) := by
  simp only [List.getD_eq_getElem?_getD, List.getElem?_map]
  cases vs[k]? <;> simp [bitOf]
theorem runG_bit (gs : List Gt) (vs : List (BitVec 64)) (b : Nat) (hb : b < 64) : (runG evalW 0 gs vs).map (bitOf b) = runG evalB false gs (vs.map (bitOf b)) := by
  induction gs generalizing vs with
  | nil => rfl
  | cons g l ih =>
    have h1 : runG evalW 0 (g :: l) vs = runG evalW 0 l (vs ++ [evalW g.op (vs.getD g.a.toNat 0) (vs.getD g.b.toNat 0)]) := rfl
    have h2 : runG evalB false (g :: l) (vs.map (bitOf b)) = runG evalB false l (vs.map (bitOf b) ++ [evalB g.op ((vs.map (bitOf b)).getD g.a.toNat false) ((vs.map (bitOf b)).getD g.b.toNat false)]) := rfl
    rw [h1, h2, ih, List.map_append, List.map_cons, List.map_nil, evalW_bit _ _ _ _ hb, getD_map_bit, getD_map_bit]
theorem outsG_bit (c : Circ) (vs : List (BitVec 64)) (b : Nat) (hb : b < 64) : (outsG evalW 0 c vs).map (bitOf b) = outsG evalB false c (vs.map (bitOf b)) := by
  simp only [outsG, List.map_map]
  apply List.map_congr_left
  intro o _
  simp only [Function.comp]
  rw [← runG_bit _ _ _ hb, getD_map_bit]
/-- The bits of x below b. -/
def low (b : Nat) (x : BitVec 64) : BitVec 64 := BitVec.ofNat 64 (x.toNat % 2 ^ b)
theorem low_bit (b k : Nat) (x : BitVec 64) : (low b x).getLsbD k = (decide (k < b) && x.getLsbD k) := by
  unfold low
  rw [BitVec.getLsbD_ofNat, Nat.testBit_mod_two_pow, BitVec.testBit_toNat]
  by_cases h : k < 64
  · simp [h]
  · simp [h, BitVec.getLsbD_of_ge x k (by omega)]
theorem low_zero (x : BitVec 64) : low 0 x = 0 := by
  apply BitVec.eq_of_getLsbD_eq
  intro i hi
  rw [low_bit]; simp
theorem low_all (x : BitVec 64) : low 64 x = x := by
  apply BitVec.eq_of_getLsbD_eq
  intro i hi
  rw [low_bit]; simp [hi]
theorem low_succ_true (b : Nat) (x : BitVec 64) (h : bitOf b x = true) : low (b + 1) x = low b x ||| ((1 : BitVec 64) <<< b) := by
  apply BitVec.eq_of_getLsbD_eq
  intro i hi
  unfold bitOf at h
  rw [BitVec.getLsbD_or, low_bit, low_bit, BitVec.getLsbD_shiftLeft, show (1 : BitVec 64) = 1#64 from rfl, BitVec.getLsbD_one]
  by_cases h1 : i < b
  · simp [h1, show i < b + 1 by omega]
  · by_cases h2 : i = b
    · subst h2; simp [h, hi]
    · simp [h1, show ¬ i < b + 1 by omega]; omega
theorem low_succ_false (b : Nat) (x : BitVec 64) (h : bitOf b x = false) : low (b + 1) x = low b x := by
  apply BitVec.eq_of_getLsbD_eq
  intro i hi
  unfold bitOf at h
  rw [low_bit, low_bit]
  by_cases h1 : i < b
  · simp [h1, show i < b + 1 by omega]
  · by_cases h2 : i = b
    · subst h2; simp [h]
    · simp [h1, show ¬ i < b + 1 by omega]
section
variable {α β : Type} (f g : α → β) (h : β → Value) (l : List α) (d : α)
/-- A row half rewritten: the first k places bear f, the others still g. -/
def mix (k : Nat) : List β := (l.take k).map f ++ (l.drop k).map g
theorem mix_zero : mix f g l 0 = l.map g := by simp [mix]
theorem mix_all : mix f g l l.length = l.map f := by simp [mix]
theorem mix_at (k : Nat) (hk : k < l.length) : ((mix f g l k).map h)[k]? = some (h (g (l.getD k d))) := by
  unfold mix
  have hl : ((l.take k).map f).length = k := by simp; omega
  rw [List.map_append, List.getElem?_append_right (by simp; omega)]
  simp [List.getElem?_drop, List.getD_eq_getElem?_getD, List.getElem?_eq_getElem hk, Nat.min_eq_left (Nat.le_of_lt hk)]
theorem mix_set (k : Nat) (hk : k < l.length) : ((mix f g l k).map h).set k (h (f (l.getD k d))) = (mix f g l (k + 1)).map h := by
  unfold mix
  apply List.ext_getElem?
  intro i
  rw [List.getElem?_set]
  have hd : l.getD k d = l[k] := by simp [List.getD_eq_getElem?_getD, List.getElem?_eq_getElem hk]
  have hlen : (List.map h (List.map f (List.take k l) ++ List.map g (List.drop k l))).length = l.length := by simp; omega
  rw [hlen, hd]
  by_cases hi : k = i
  · subst hi
    rw [if_pos rfl, if_pos hk, List.map_append, List.getElem?_append_left (by simp; omega)]
    simp [List.getElem?_take, List.getElem?_eq_getElem hk]
  · rw [if_neg hi, List.map_append, List.map_append]
    by_cases h1 : i < k
    · rw [List.getElem?_append_left (by simp; omega), List.getElem?_append_left (by simp; omega)]
      simp [List.getElem?_take, h1, show i < k + 1 by omega]
    · rw [List.getElem?_append_right (by simp; omega), List.getElem?_append_right (by simp; omega)]
      simp only [List.getElem?_map, List.getElem?_drop, List.length_map, List.length_take]
      rw [Nat.min_eq_left (by omega), Nat.min_eq_left (by omega), show k + (i - k) = i by omega, show k + 1 + (i - (k + 1)) = i by omega]
end
theorem outsG_at {α : Type} (f : Int → α → α → α) (d : α) (c : Circ) (vs : List α) (k : Nat) (hk : k < c.outs.length) :
    (outsG f d c vs).getD k d = (runG f d c.gates vs).getD (c.outs.getD k 0).toNat d := by
  simp [outsG, List.getD_eq_getElem?_getD, List.getElem?_map, List.getElem?_eq_getElem hk]
end Go.Proofs.Ytamijjpnklbgnaa

/-
  circuit.Eval at a valid circuit: the outputs, by the rule over Bools.
-/
namespace Go.Proofs.Ytamijjpnklbgnaa
open Go.RowKit
set_option linter.unusedSimpArgs false
set_option linter.unusedVariables false
theorem evl_lo (c : Circ) (ins : List Bool) : (outsG evalW 0 c (ins.map bw)).map lo = outsG evalB false c ins := by
  have h1 : lo = bitOf 0 := rfl
  have h2 : bitOf 0 ∘ bw = id := funext (fun b => by cases b <;> rfl)
  rw [h1, outsG_bit _ _ _ (by omega), List.map_map, h2, List.map_id]
theorem eval_right (c : Circ) (GA OA IA : Option Addr) (gn gc on oc n ic : Nat) (ins : List Bool) (w : World) (h : CAt w c GA OA gn on) (hI : Rd w w.heap.size 1 IA n (bools ins)) (hr : rightC c = true) (hn : (n : Int) = c.inputs) :
    Calls Try.prog 31 #[.agg #[.int .i64 c.inputs, .slice GA gn gc, .slice OA on oc], .slice IA n ic] w fun e w' => ∃ g, e = .returned (.tuple #[.slice (some ⟨g, 0, none⟩) on on, .int .i64 0]) ∧ Row w' g 4 (bools (outsG evalB false c ins)) ∧ w.heap.size ≤ g ∧ Below w.heap.size w w' := by
  have hb := (rightC_parts hr).1
  have hok : okC c n = true := by simp only [okC, Bool.and_eq_true, decide_eq_true_eq]; exact ⟨hr, hn⟩
  refine (eval_head c GA OA IA gn gc on oc n ic ins w h hI (by omega)).mono fun e w' hp => ?_
  rcases hp with ⟨hk, _⟩ | ⟨_, g, he, hrow, hg, hB⟩
  · rw [hok] at hk; cases hk
  · rw [evl_lo] at hrow
    exact ⟨g, he, hrow, hg, hB⟩
theorem outsG_len {α : Type} (f : Int → α → α → α) (d : α) (c : Circ) (vs : List α) : (outsG f d c vs).length = c.outs.length := by simp [outsG]
end Go.Proofs.Ytamijjpnklbgnaa

/-
  Comparing integers and points: cmp.Compare, cmp.Or, point.Compare, walked.
-/
namespace Go.Proofs.Ytamijjpnklbgnaa
open Go.RowKit
set_option linter.unusedSimpArgs false
set_option linter.unusedVariables false

/-- -1, 0 or 1. -/
def cmpI (a b : Int) : Int := if a < b then -1 else if b < a then 1 else 0
theorem cmpI_zero (a b : Int) : cmpI a b = 0 ↔ a = b := by unfold cmpI; split <;> (try split) <;> omega
theorem cmpI_cases (a b : Int) : cmpI a b = -1 ∧ a < b ∨ cmpI a b = 1 ∧ b < a ∨ cmpI a b = 0 ∧ a = b := by unfold cmpI; split <;> (try split) <;> omega
set_option maxHeartbeats 400000 in
theorem isNaN_any (x : Int) (w : World) : Calls Try.prog 77 #[.int .i64 x] w fun e w' => e = .returned (.bool false) ∧ w = w' := by
  go_enter Try.func77, Try.ntmps77
  go_wp2
  go_ret
  exact ⟨ret_bool (by simp), rfl⟩

set_option maxHeartbeats 400000 in
theorem cmpCompare_any (a b : Int) (w : World) : Calls Try.prog 76 #[.int .i64 a, .int .i64 b] w fun e w' => e = .returned (.int .i64 (cmpI a b)) ∧ w = w' := by
  go_enter Try.func76, Try.ntmps76
  go_wp2_with fail
  refine (isNaN_any a _).mono ?_
  rintro e w1 ⟨rfl, rfl⟩
  go_wp2_with fail
  refine (isNaN_any b _).mono ?_
  rintro e w1 ⟨rfl, rfl⟩
  go_wp2
  all_goals go_ret
  all_goals refine ⟨ret_i64 ?_, rfl⟩
  all_goals (unfold cmpI; split <;> (try split) <;> omega)

set_option maxHeartbeats 400000 in
theorem cmpOr_any (A : Option Addr) (c : Nat) (a b : Int) (w : World) (h : Rd w w.heap.size 1 A 2 (ints [a, b])) : Calls Try.prog 75 #[.slice A 2 c] w fun e w' => e = .returned (.int .i64 (if a ≠ 0 then a else b)) ∧ w = w' := by
  obtain ⟨ad, rfl, hb, h0⟩ := h.int (k := 0) (by omega)
  obtain ⟨ad', e', hb', h1⟩ := h.int (k := 1) (by omega)
  cases e'
  simp only [List.getD_cons_zero, List.getD_cons_succ] at h0 h1
  have H0 : Hid (w.cell? (ad.add 0) = some (.int .i64 a)) := h0
  have H1 : Hid (w.cell? (ad.add 1) = some (.int .i64 b)) := h1
  clear h0 h1 h
  go_enter Try.func75, Try.ntmps75
  go_wp2
  go_loopg [5, 8] 2 (fun gg _ s8 wr => ∃ kk : Nat, kk ≤ 2 ∧ 2 - kk ≤ gg ∧ s8 = .int .i64 kk ∧ wr = w ∧ Aside (0 < kk → a = 0) ∧ Aside (1 < kk → b = 0))
  case atStart => exact ⟨0, by omega, by omega, rfl, rfl, fun h => absurd h (by omega), fun h => absurd h (by omega)⟩
  case round =>
    obtain ⟨kk, hkk, hg, rfl, rfl, A0, A1⟩ := hrel
    have hc : kk = 0 ∨ kk = 1 ∨ kk = 2 := by omega
    rcases hc with rfl | rfl | rfl
    · have h0 : wr.cell? ad = some (.int .i64 a) := H0.out
      by_cases hz : a = 0
      · subst hz
        go_wp2
        go_roundg 1
        case measure => omega
        case rel => exact ⟨1, by omega, by omega, by go_num, rfl, (by first | exact trivial | exact fun _ => trivial | exact fun _ => rfl), (show Aside _ from fun h => absurd h (by omega))⟩
      · have hz' : (a != 0) = true := by simpa using hz
        go_wp2
        go_ret
        exact ⟨ret_i64 (by simp [hz]), rfl⟩
    · have h1 : wr.cell? ⟨ad.block, ad.off + 1, none⟩ = some (.int .i64 b) := H1.out
      have ha := A0.out (by omega)
      by_cases hz : b = 0
      · subst hz
        go_wp2
        go_roundg 0
        case measure => omega
        case rel => exact ⟨2, by omega, by omega, by go_num, rfl, (show Aside _ from fun _ => ha), (by first | exact trivial | exact fun _ => trivial | exact fun _ => rfl)⟩
      · have hz' : (b != 0) = true := by simpa using hz
        have HA : Hid (a = 0) := ha
        clear ha
        go_wp2
        go_ret
        exact ⟨ret_i64 (by have h1 := HA.out; simp [h1]), rfl⟩
    · have HA : Hid (a = 0) := A0.out (by omega)
      have HB : Hid (b = 0) := A1.out (by omega)
      go_wp2
      go_ret
      exact ⟨ret_i64 (by have h1 := HA.out; have h2 := HB.out; simp [h1, h2]), rfl⟩

set_option maxRecDepth 100000 in
set_option maxHeartbeats 1000000 in
theorem pointCompare_any (a b c d : Int) (w : World) : Calls Try.prog 74 #[.agg #[.int .i64 a, .int .i64 b], .agg #[.int .i64 c, .int .i64 d]] w fun e w' => e = .returned (.int .i64 (if cmpI b d ≠ 0 then cmpI b d else cmpI a c)) ∧ Below w.heap.size w w' := by
  generalize hp : cmpI b d = p
  generalize hq : cmpI a c = q
  have HP : Hid (cmpI b d = p) := hp
  have HQ : Hid (cmpI a c = q) := hq
  clear hp hq
  generalize hr : (if p ≠ 0 then p else q) = r
  have HR : Hid ((if p ≠ 0 then p else q) = r) := hr
  clear hr
  go_enter Try.func74, Try.ntmps74
  go_wp2_with fail
  have RA : Hid (Row (World.alloc (World.alloc w _) _) w.heap.size 95 [.int .i64 a, .int .i64 b]) := (Row.new w 95 [.int .i64 a, .int .i64 b]).alloc (.cells #[.int .i64 c, .int .i64 d] 95)
  have RB : Hid (Row (World.alloc (World.alloc w (.cells #[.int .i64 a, .int .i64 b] 95)) _) (w.heap.size + 1) 95 [.int .i64 c, .int .i64 d]) := rowNew1 w _ 95 [.int .i64 c, .int .i64 d]
  have HB : Hid (Below w.heap.size w (World.alloc (World.alloc w (.cells #[.int .i64 a, .int .i64 b] 95)) (.cells #[.int .i64 c, .int .i64 d] 95))) := by show Below _ _ _; go_grown
  revert RA RB HB
  generalize World.alloc (World.alloc w (.cells #[.int .i64 a, .int .i64 b] 95)) (.cells #[.int .i64 c, .int .i64 d] 95) = w1
  intro RA RB HB
  have HS : ∀ w', Below w1.heap.size w1 w' → w'.cell? ⟨w.heap.size, 0, none⟩ = some (.int .i64 a) ∧ w'.cell? ⟨w.heap.size, 1, none⟩ = some (.int .i64 b) ∧ w'.cell? ⟨w.heap.size + 1, 0, none⟩ = some (.int .i64 c) ∧ w'.cell? ⟨w.heap.size + 1, 1, none⟩ = some (.int .i64 d) := fun w' hw => ⟨(rowCells RA.out hw).cell 0, (rowCells RA.out hw).cell 1, (rowCells RB.out hw).cell 0, (rowCells RB.out hw).cell 1⟩
  have HN : Hid (Below w1.heap.size w1 w1) := Below.refl _ _
  clear RA RB
  go_region_held3 (fun w' => w'.cell? ⟨w.heap.size, 0, none⟩ = some (.int .i64 a) ∧ w'.cell? ⟨w.heap.size, 1, none⟩ = some (.int .i64 b) ∧ w'.cell? ⟨w.heap.size + 1, 0, none⟩ = some (.int .i64 c) ∧ w'.cell? ⟨w.heap.size + 1, 1, none⟩ = some (.int .i64 d)) (exact HS _ (by first | exact below_on2 HN.out (by go_grown) | go_grown)) (first
    | (go_at_call_of 76 (Value.int .i64 b)
       refine (cmpCompare_any b d _).mono ?_
       rw [HP.out]
       rintro e w7 ⟨rfl, rfl⟩)
    | (go_at_call 76
       refine (cmpCompare_any a c _).mono ?_
       rw [HQ.out]
       rintro e w7 ⟨rfl, rfl⟩)
    | (go_at_call 75
       refine (cmpOr_any _ _ p q _ (by first | exact ((Row.new w1 3 (ints [p, q])).drew).rd rfl | exact (Row.new w1 3 (ints [p, q])).rd rfl | exact ((Row.new w1 3 (ints [p, q])).drewN _).rd rfl)).mono ?_
       rw [HR.out]
       rintro e w7 ⟨rfl, rfl⟩))
  all_goals
    go_wp2
    go_ret
    exact ⟨rfl, below_on2 HB.out (by go_grown)⟩
end Go.Proofs.Ytamijjpnklbgnaa

/-
  Bits of numbers: lower.Bits, the reference's Bits and bit, both State, walked.
-/
namespace Go.Proofs.Ytamijjpnklbgnaa
open Go.RowKit
set_option linter.unusedSimpArgs false
set_option linter.unusedVariables false

set_option maxHeartbeats 400000 in
theorem lBits_any (x : Int) (w : World) : Calls Try.prog 57 #[.int .i64 x] w fun e w' => e = .returned (.int .i64 (bitsF x)) ∧ w = w' := by
  have hb : Hid (x = 2 ∨ x = 3 ∨ x = 4 ∨ (x ≠ 2 ∧ x ≠ 3 ∧ x ≠ 4)) := by show _ ∨ _; omega
  rcases hb.out with rfl | rfl | rfl | h
  · go_enter Try.func57, Try.ntmps57
    go_wp2
    go_ret
    exact ⟨rfl, rfl⟩
  · go_enter Try.func57, Try.ntmps57
    go_wp2
    go_ret
    exact ⟨rfl, rfl⟩
  · go_enter Try.func57, Try.ntmps57
    go_wp2
    go_ret
    exact ⟨rfl, rfl⟩
  · have h2 : (x == 2) = false := by simpa using h.1
    have h3 : (x == 3) = false := by simpa using h.2.1
    have h4 : (x == 4) = false := by simpa using h.2.2
    have HX : Hid (x ≠ 2 ∧ x ≠ 3 ∧ x ≠ 4) := h
    clear h hb
    go_enter Try.func57, Try.ntmps57
    go_wp2
    all_goals go_ret
    all_goals refine ⟨ret_i64 ?_, rfl⟩
    all_goals
      have := HX.out
      unfold bitsF
      rw [if_neg (by omega), if_neg (by omega)]
      first
        | rw [if_pos (by omega)]; rfl
        | rw [if_neg (by omega)]; rfl

theorem bit_and (v : Int) (h0 : 0 ≤ v) (h1 : v ≤ 7) : bits BinOp.and IntKind.i64 v 1 = v % 2 := by
  have : v = 0 ∨ v = 1 ∨ v = 2 ∨ v = 3 ∨ v = 4 ∨ v = 5 ∨ v = 6 ∨ v = 7 := by omega
  rcases this with rfl | rfl | rfl | rfl | rfl | rfl | rfl | rfl <;> decide
theorem bit_run (x : Int) (k : Nat) (h0 : 0 ≤ x) (h1 : x ≤ 7) : bits BinOp.and IntKind.i64 (x / 2 ^ k) 1 = x / 2 ^ k % 2 := by
  have hp : (0 : Int) < 2 ^ k := Int.pow_pos (by omega)
  have h2 : x / 2 ^ k ≤ x := Int.ediv_le_self _ h0
  have h3 : 0 ≤ x / 2 ^ k := Int.ediv_nonneg h0 (by omega)
  exact bit_and _ h3 (by omega)
theorem bit_cases (x : Int) (k : Nat) : x / 2 ^ k % 2 = if bitI x k = true then 1 else 0 := by
  unfold bitI
  split <;> simp_all <;> omega

theorem or_pow (n : Int) (k : Nat) (h0 : 0 ≤ n) (h1 : n < 2 ^ k) (hk : k ≤ 7) : bits BinOp.or IntKind.i64 n (2 ^ k) = n + 2 ^ k := by
  have key : ∀ k : Fin 8, ∀ n : Fin 128, n.val < 2 ^ k.val → bits BinOp.or IntKind.i64 (n.val : Int) (2 ^ k.val) = (n.val : Int) + 2 ^ k.val := by decide +kernel
  obtain ⟨m, rfl⟩ : ∃ m : Nat, n = (m : Int) := ⟨n.toNat, by omega⟩
  have hm : m < 2 ^ k := by
    have : ((2 ^ k : Nat) : Int) = 2 ^ k := by simp
    omega
  have hm2 : m < 128 := by
    have : 2 ^ k ≤ 2 ^ 7 := Nat.pow_le_pow_right (by omega) hk
    omega
  exact key ⟨k, by omega⟩ ⟨m, hm2⟩ hm

theorem pow_le8 (m : Nat) (h : m ≤ 8) : (2 : Int) ^ m ≤ 256 := by
  have h1 : 2 ^ m ≤ 2 ^ 8 := Nat.pow_le_pow_right (by omega) h
  have h2 : ((2 ^ m : Nat) : Int) = 2 ^ m := by simp
  omega
theorem bl_snoc (l : List Bool) (k : Nat) (h : k < l.length) : l.take (k + 1) = l.take k ++ [l.getD k false] := by
  rw [List.take_succ_eq_append_getElem h, List.getD_eq_getElem?_getD, List.getElem?_eq_getElem h]; rfl
theorem stateF_big {l : List Bool} (h : 8 < l.length) : stateF l = 0 := by rw [stateF, if_pos h]
theorem stateF_small {l : List Bool} (h : ¬ 8 < l.length) : stateF l = valB l := by rw [stateF, if_neg h]

set_option maxHeartbeats 1000000 in
theorem lState_any (A : Option Addr) (n c : Nat) (l : List Bool) (w : World) (h : Rd w w.heap.size 1 A n (bools l)) (hm : n ≤ maxLen) : Calls Try.prog 32 #[.slice A n c] w fun e w' => e = .returned (.int .i64 (stateF l)) ∧ w = w' := by
  have H : Hid (Rd w w.heap.size 1 A n (bools l)) := h
  have HL : Hid (l.length = n) := by have := h.1; rw [bools_length, Nat.mul_one] at this; exact this
  unfold maxLen at hm
  clear h
  by_cases hb : 8 < n
  · have HE : Hid (stateF l = 0) := stateF_big (by rw [HL.out]; exact hb)
    go_enter Try.func32, Try.ntmps32
    go_wp2
    go_ret
    exact ⟨ret_i64 HE.out.symm, rfl⟩
  have HE : Hid (stateF l = valB l) := stateF_small (by rw [HL.out]; exact hb)
  go_enter Try.func32, Try.ntmps32
  go_wp2
  go_loopg [3, 4, 5, 11] n (fun gg s3 _ _ s11 wr => ∃ (kk : Nat) (z : Int), kk ≤ n ∧ n - kk ≤ gg ∧ s11 = .int .i64 kk ∧ s3 = .int .i64 z ∧ wr = w ∧ Aside (z = valB (l.take kk)))
  case atStart => exact ⟨0, 0, Nat.zero_le _, by omega, rfl, rfl, rfl, (show _ = _ by simp [valB])⟩
  case round =>
    obtain ⟨kk, z, hkk, hgg, rfl, rfl, rfl, HZ⟩ := hrel
    by_cases hlt : kk < n
    · have hltz : (kk : Int) < (n : Int) := by omega
      obtain ⟨ad, rfl, hb', hz⟩ := H.out.bool hlt
      have hbd := valB_bd (l.take kk)
      rw [← HZ.out, List.length_take, HL.out, Nat.min_eq_left hkk] at hbd
      have HS : Hid (valB (l.take (kk + 1)) = z + if l.getD kk false = true then 2 ^ kk else 0) := by
        show _ = _
        rw [bl_snoc l kk (by rw [HL.out]; exact hlt), valB_snoc, ← HZ.out, List.length_take, HL.out, Nat.min_eq_left hkk]
      generalize l.getD kk false = b at hz HS
      have hor := or_pow z kk hbd.1 hbd.2 (by omega)
      have hpw : Hid ((1 : Int) ≤ 2 ^ kk ∧ (2 : Int) ^ kk ≤ 128) := by
        have hx : kk = 0 ∨ kk = 1 ∨ kk = 2 ∨ kk = 3 ∨ kk = 4 ∨ kk = 5 ∨ kk = 6 ∨ kk = 7 := by omega
        rcases hx with rfl | rfl | rfl | rfl | rfl | rfl | rfl | rfl <;> exact ⟨by decide, by decide⟩
      have hwr : IntKind.i64.wrap (2 ^ kk) = 2 ^ kk := IntWalk.i64_in _ (by have := hpw.out; omega)
      have h2p : (2 : Int) ^ kk ≤ 128 := hpw.out.2
      have h1p : (1 : Int) ≤ 2 ^ kk := hpw.out.1
      have hk7 : kk ≤ 7 := by omega
      clear hbd
      cases b
      · go_wp2
        go_roundg (n - (kk + 1))
        case measure => omega
        case rel => exact ⟨kk + 1, z, by omega, by omega, by go_num, rfl, rfl, (show _ = _ by rw [HS.out]; simp)⟩
      · go_wp2
        go_roundg (n - (kk + 1))
        case measure => omega
        case rel => exact ⟨kk + 1, z + 2 ^ kk, by omega, by omega, by go_num, by first | rfl | (rw [hor]; done) | simp [hor], rfl, (show _ = _ by rw [HS.out]; simp)⟩
    · have hltz : ¬ (kk : Int) < (n : Int) := by omega
      obtain rfl : kk = n := by omega
      go_wp2
      go_ret
      refine ⟨ret_i64 ?_, rfl⟩
      rw [HE.out, HZ.out, List.take_of_length_le (by rw [HL.out]; exact Nat.le_refl _)]

theorem valB_drop (l : List Bool) (k : Nat) (h : k < l.length) : valB (l.drop k) = (if l.getD k false = true then 1 else 0) + 2 * valB (l.drop (k + 1)) := by
  rw [List.drop_eq_getElem_cons h, valB, List.getD_eq_getElem?_getD, List.getElem?_eq_getElem h]; rfl

end Go.Proofs.Ytamijjpnklbgnaa
