/-
  Plain: each bit of what a circuit computes over words is what it computes over that bit.
-/
import Derived.Test.YtamijjpnklbgnaaCRunG
import Derived.Test.YtamijjpnklbgnaaProg
import Derived.Laws.CopyOwn
import Derived.StillTailTactics
import Derived.BigQuiet
import Derived.Test.YtamijjpnklbgnaaCRight
import Derived.Deep.Light
import Derived.Test.YtamijjpnklbgnaaApp
import Derived.Test.YtamijjpnklbgnaaWalk
import Derived.Test.YtamijjpnklbgnaaRegL
import Derived.Test.YtamijjpnklbgnaaZAll
import Derived.Test.YtamijjpnklbgnaaZAwake
import Derived.Test.YtamijjpnklbgnaaZCount
import Derived.Test.YtamijjpnklbgnaaRows
import Derived.Test.YtamijjpnklbgnaaOpen
import Derived.Test.YtamijjpnklbgnaaCOpen
namespace Go.Proofs.Ytamijjpnklbgnaa
open Go.RowKit
set_option linter.unusedSimpArgs false
set_option linter.unusedVariables false

def bitOf (b : Nat) (x : BitVec 64) : Bool := x.getLsbD b
theorem evalW_bit (op : Int) (x y : BitVec 64) (b : Nat) (hb : b < 64) : bitOf b (evalW op x y) = evalB op (bitOf b x) (bitOf b y) := by
  unfold bitOf evalW evalB
  split
  · rw [BitVec.getLsbD_allOnes]; simp [hb]
  · split
    · simp [hb]
    · split
      · simp
      · split
        · simp
        · split
          · simp
          · simp
theorem getD_map_bit (vs : List (BitVec 64)) (b k : Nat) : (vs.map (bitOf b)).getD k false = bitOf b (vs.getD k 0) := by
  simp only [List.getD_eq_getElem?_getD, List.getElem?_map]
  cases vs[k]? <;> simp [bitOf]
theorem runG_bit (gs : List Gt) (vs : List (BitVec 64)) (b : Nat) (hb : b < 64) : (runG evalW 0 gs vs).map (bitOf b) = runG evalB false gs (vs.map (bitOf b)) := by
  induction gs generalizing vs with
  | nil => rfl
  | cons g l ih =>
    have h1 : runG evalW 0 (g :: l) vs = runG evalW 0 l (vs ++ [evalW g.op (vs.getD g.a.toNat 0) (vs.getD g.b.toNat 0)]) := rfl
    have h2 : runG evalB false (g :: l) (vs.map (bitOf b)) = runG evalB false l (vs.map (bitOf b) ++ [evalB g.op ((vs.map (bitOf b)).getD g.a.toNat false) ((vs.map (bitOf b)).getD g.b.toNat false)]) := rfl
    rw [h1, h2, ih, List.map_append, List.map_cons, List.map_nil, evalW_bit _ _ _ _ hb, getD_map_bit, getD_map_bit]
theorem outsG_bit (c : Circ) (vs : List (BitVec 64)) (b : Nat) (hb : b < 64) : (outsG evalW 0 c vs).map (bitOf b) = outsG evalB false c (vs.map (bitOf b)) := by
  simp only [outsG, List.map_map]
  apply List.map_congr_left
  intro o _
  simp only [Function.comp]
  rw [← runG_bit _ _ _ hb, getD_map_bit]
/-- The bits of x below b. -/
def low (b : Nat) (x : BitVec 64) : BitVec 64 := BitVec.ofNat 64 (x.toNat % 2 ^ b)
theorem low_bit (b k : Nat) (x : BitVec 64) : (low b x).getLsbD k = (decide (k < b) && x.getLsbD k) := by
  unfold low
  rw [BitVec.getLsbD_ofNat, Nat.testBit_mod_two_pow, BitVec.testBit_toNat]
  by_cases h : k < 64
  · simp [h]
  · simp [h, BitVec.getLsbD_of_ge x k (by omega)]
theorem low_zero (x : BitVec 64) : low 0 x = 0 := by
  apply BitVec.eq_of_getLsbD_eq
  intro i hi
  rw [low_bit]; simp
theorem low_all (x : BitVec 64) : low 64 x = x := by
  apply BitVec.eq_of_getLsbD_eq
  intro i hi
  rw [low_bit]; simp [hi]
theorem low_succ_true (b : Nat) (x : BitVec 64) (h : bitOf b x = true) : low (b + 1) x = low b x ||| ((1 : BitVec 64) <<< b) := by
  apply BitVec.eq_of_getLsbD_eq
  intro i hi
  unfold bitOf at h
  rw [BitVec.getLsbD_or, low_bit, low_bit, BitVec.getLsbD_shiftLeft, show (1 : BitVec 64) = 1#64 from rfl, BitVec.getLsbD_one]
  by_cases h1 : i < b
  · simp [h1, show i < b + 1 by omega]
  · by_cases h2 : i = b
    · subst h2; simp [h, hi]
    · simp [h1, show ¬ i < b + 1 by omega]; omega
theorem low_succ_false (b : Nat) (x : BitVec 64) (h : bitOf b x = false) : low (b + 1) x = low b x := by
  apply BitVec.eq_of_getLsbD_eq
  intro i hi
  unfold bitOf at h
  rw [low_bit, low_bit]
  by_cases h1 : i < b
  · simp [h1, show i < b + 1 by omega]
  · by_cases h2 : i = b
    · subst h2; simp [h]
    · simp [h1, show ¬ i < b + 1 by omega]
section
variable {α β : Type} (f g : α → β) (h : β → Value) (l : List α) (d : α)
/-- A row half rewritten: the first k places bear f, the others still g. -/
def mix (k : Nat) : List β := (l.take k).map f ++ (l.drop k).map g
theorem mix_zero : mix f g l 0 = l.map g := by simp [mix]
theorem mix_all : mix f g l l.length = l.map f := by simp [mix]
theorem mix_at (k : Nat) (hk : k < l.length) : ((mix f g l k).map h)[k]? = some (h (g (l.getD k d))) := by
  unfold mix
  have hl : ((l.take k).map f).length = k := by simp; omega
  rw [List.map_append, List.getElem?_append_right (by simp; omega)]
  simp [List.getElem?_drop, List.getD_eq_getElem?_getD, List.getElem?_eq_getElem hk, Nat.min_eq_left (Nat.le_of_lt hk)]
theorem mix_set (k : Nat) (hk : k < l.length) : ((mix f g l k).map h).set k (h (f (l.getD k d))) = (mix f g l (k + 1)).map h := by
  unfold mix
  apply List.ext_getElem?
  intro i
  rw [List.getElem?_set]
  have hd : l.getD k d = l[k] := by simp [List.getD_eq_getElem?_getD, List.getElem?_eq_getElem hk]
  have hlen : (List.map h (List.map f (List.take k l) ++ List.map g (List.drop k l))).length = l.length := by simp; omega
  rw [hlen, hd]
  by_cases hi : k = i
  · subst hi
    rw [if_pos rfl, if_pos hk, List.map_append, List.getElem?_append_left (by simp; omega)]
    simp [List.getElem?_take, List.getElem?_eq_getElem hk]
  · rw [if_neg hi, List.map_append, List.map_append]
    by_cases h1 : i < k
    · rw [List.getElem?_append_left (by simp; omega), List.getElem?_append_left (by simp; omega)]
      simp [List.getElem?_take, h1, show i < k + 1 by omega]
    · rw [List.getElem?_append_right (by simp; omega), List.getElem?_append_right (by simp; omega)]
      simp only [List.getElem?_map, List.getElem?_drop, List.length_map, List.length_take]
      rw [Nat.min_eq_left (by omega), Nat.min_eq_left (by omega), show k + (i - k) = i by omega, show k + 1 + (i - (k + 1)) = i by omega]
end
theorem outsG_at {α : Type} (f : Int → α → α → α) (d : α) (c : Circ) (vs : List α) (k : Nat) (hk : k < c.outs.length) :
    (outsG f d c vs).getD k d = (runG f d c.gates vs).getD (c.outs.getD k 0).toNat d := by
  simp [outsG, List.getD_eq_getElem?_getD, List.getElem?_map, List.getElem?_eq_getElem hk]
end Go.Proofs.Ytamijjpnklbgnaa

/-
  circuit.values, walked.
-/
namespace Go.Proofs.Ytamijjpnklbgnaa
open Go.RowKit
set_option linter.unusedSimpArgs false
set_option linter.unusedVariables false

theorem w64_cells (x : BitVec 64) : (w64 x).cells = #[w64 x] := rfl
theorem u64_info : (Try.prog.info? 89).map (fun i => (i.zero, i.size, i.bytes)) = some (some (.int .u64 0), 1, 8) := by kernel_rfl

theorem w64s_at (vs : List (BitVec 64)) (r : List Value) (k : Nat) (h : k < vs.length) : (w64s vs ++ r)[k]? = some (w64 (vs.getD k 0)) := by
  rw [List.getElem?_append_left (by simpa [w64s] using h)]
  simp [w64s, List.getElem?_map, List.getElem?_eq_getElem h, List.getD_eq_getElem?_getD]

theorem w64s_next (vs : List (BitVec 64)) (m k : Nat) (z : Value) (hl : vs.length = m) (hk : 0 < k) : (w64s vs ++ List.replicate k z)[m]? = some z := by
  subst hl
  rw [List.getElem?_append_right (by simp [w64s]), List.getElem?_replicate]
  simp [w64s, hk]
theorem w64s_set (vs : List (BitVec 64)) (x : BitVec 64) (m k : Nat) (z : Value) (hl : vs.length = m) (hk : 0 < k) : (w64s vs ++ List.replicate k z).set m (w64 x) = w64s (vs ++ [x]) ++ List.replicate (k - 1) z := by
  subst hl
  obtain ⟨j, rfl⟩ : ∃ j, k = j + 1 := ⟨k - 1, by omega⟩
  rw [List.set_append_right _ _ (by simp [w64s])]
  simp [w64s, List.replicate_succ]
theorem w64_and (x y : BitVec 64) : bits .and .u64 (x.toNat : Int) (y.toNat : Int) = ((x &&& y).toNat : Int) := by
  rw [u64_and_nat _ _ x.isLt y.isLt, BitVec.toNat_and]
theorem w64_or (x y : BitVec 64) : bits .or .u64 (x.toNat : Int) (y.toNat : Int) = ((x ||| y).toNat : Int) := by
  rw [u64_or_nat _ _ x.isLt y.isLt, BitVec.toNat_or]
theorem w64_not (x : BitVec 64) : bits .xor .u64 IntKind.u64.max (x.toNat : Int) = ((~~~x).toNat : Int) := by
  have h : IntKind.u64.max = (((BitVec.allOnes 64).toNat : Nat) : Int) := by decide
  rw [h, u64_xor_nat _ _ (BitVec.allOnes 64).isLt x.isLt, ← BitVec.toNat_xor, BitVec.allOnes_xor]
theorem w64_xor (x y : BitVec 64) : bits .xor .u64 (x.toNat : Int) (y.toNat : Int) = ((x ^^^ y).toNat : Int) := by
  rw [u64_xor_nat _ _ x.isLt y.isLt, BitVec.toNat_xor]

set_option maxRecDepth 100000 in
set_option maxHeartbeats 1000000 in
theorem values_any (inn : Nat) (GA OA IA : Option Addr) (gn gc on oc ic : Nat) (gs : List Gt) (ins : List (BitVec 64)) (w : World)
    (hG : Rd w w.heap.size 3 GA gn (gatesCells gs)) (hI : Rd w w.heap.size 1 IA inn (w64s ins)) (h1 : inn ≤ 1000) (h2 : gn ≤ 20000)
    (hok : ∀ k, k < gs.length → gateOk ((inn : Int) + k) (gs.getD k default) = true) :
    Calls Try.prog 72 #[.agg #[.int .i64 inn, .slice GA gn gc, .slice OA on oc], .slice IA inn ic] w fun e w' =>
      ∃ g, e = .returned (.slice (some ⟨g, 0, none⟩) (inn + gn) (inn + gn)) ∧ Row w' g 89 (w64s (runG evalW 0 gs ins)) ∧ w.heap.size ≤ g ∧ Below w.heap.size w w' := by
  have LN : Hid (gs.length = gn) := by have := hG.1; rw [gatesCells_length] at this; show _ = _; omega
  have LI : Hid (ins.length = inn) := by have := hI.1; simp [w64s] at this; show _ = _; omega
  have HG : Hid (Rd w w.heap.size 3 GA gn (gatesCells gs)) := hG
  have HI : Hid (Rd w w.heap.size 1 IA inn (w64s ins)) := hI
  have HOK : Hid (∀ k, k < gs.length → gateOk ((inn : Int) + k) (gs.getD k default) = true) := hok
  clear hG hI hok
  have hmk := fun W => make_like (P := Try.prog) Try.underlying88 u64_info rfl (inn + gn) ((inn : Int) + (gn : Int)) (by omega) (by omega) (by omega) W
  go_enter Try.func72, Try.ntmps72
  go_wp2_with (with_reducible refine wpList_copy_splice rfl (.tmp 16) (.tmp 17) 88 88 rfl 89 Try.underlying88 (by kernel_rfl) (some ⟨w.heap.size + 1, 0, none⟩) IA (inn + gn) (inn + gn) inn ic rfl rfl (w.heap.size + 1) 0 (List.replicate (inn + gn) (.int .u64 0)) 89 ?hg (w64s ins) ?hn ?hpos ?hfit ?h1 (w.heap.size + 1) (w.alloc (.cells #[.int .i64 inn, .slice GA gn gc, .slice OA on oc] 25)) ?hb ?hBg ?_)
  case hg =>
    have := Row.new (w.alloc (.cells #[.int .i64 inn, .slice GA gn gc, .slice OA on oc] 25)) 89 (List.replicate (inn + gn) (.int .u64 0))
    rw [World.size_alloc] at this
    exact this
  case hn => simp [w64s, LI.out]
  case hpos =>
    intro hp
    obtain ⟨ad, e, hb, hc⟩ := HI.out.ex (by simp [w64s, LI.out] at hp; exact hp)
    exact ⟨ad, e, fun j v hv => (by
      have := ((HI.out.up (show Below w.heap.size w ((w.alloc (.cells #[.int .i64 inn, .slice GA gn gc, .slice OA on oc] 25)).alloc (.cells (likeRow (.int .u64 0) (inn + gn)) 89)) by go_grown)).ex (by simp [w64s, LI.out] at hp; exact hp))
      obtain ⟨ad', e', _, hc'⟩ := this
      rw [e] at e'
      injection e' with e'
      subst e'
      exact hc' j v hv)⟩
  case hfit => simp [w64s, LI.out]
  case h1 => intro v hv; simp only [w64s, List.mem_map] at hv; obtain ⟨x, _, rfl⟩ := hv; rfl
  case hb => go_grown
  case hBg => omega
  intro w1 hrow hb1
  have R1 : Hid (Row w1 (w.heap.size + 1) 89 (w64s ins ++ List.replicate gn (.int .u64 0))) := by
    have := hrow.out
    simp only [splice, List.take_zero, List.nil_append, Nat.zero_add, List.drop_replicate, w64s, List.length_map, LI.out] at this
    rw [show inn + gn - inn = gn from by omega] at this
    exact this
  have c0 : w1.cell? ⟨w.heap.size, 0, none⟩ = some (.int .i64 inn) := (hb1.cell (p := ⟨w.heap.size, 0, none⟩) (by simp)).trans (by go_cell)
  have c1 : w1.cell? ⟨w.heap.size, 1, none⟩ = some (.slice GA gn gc) := (hb1.cell (p := ⟨w.heap.size, 1, none⟩) (by simp)).trans (by go_cell)
  clear hmk hrow
  go_wp2
  clear c0 c1
  go_loopg [22] gn (fun gg s22 wr => ∃ kk : Nat, kk ≤ gn ∧ gn - kk ≤ gg ∧ s22 = .int .i64 kk ∧ Aside (Below (w.heap.size + 1) (w.alloc (.cells #[.int .i64 inn, .slice GA gn gc, .slice OA on oc] 25)) wr) ∧ Aside (Row wr (w.heap.size + 1) 89 (w64s (runG evalW 0 (gs.take kk) ins) ++ List.replicate (gn - kk) (.int .u64 0))))
  case atStart => exact ⟨0, Nat.zero_le _, by omega, rfl, hb1, R1.out⟩
  case round =>
    clear hb1 R1
    obtain ⟨kk, hkk, hg, rfl, BW, RW⟩ := hrel
    have c0 : wr.cell? ⟨w.heap.size, 0, none⟩ = some (.int .i64 inn) := (BW.out.cell (p := ⟨w.heap.size, 0, none⟩) (by simp)).trans (by go_cell)
    have c1 : wr.cell? ⟨w.heap.size, 1, none⟩ = some (.slice GA gn gc) := (BW.out.cell (p := ⟨w.heap.size, 1, none⟩) (by simp)).trans (by go_cell)
    have hsz : w.heap.size + 1 < wr.heap.size := RW.out.lt
    have hsz0 : w.heap.size < wr.heap.size := by omega
    have HB0 : Aside (Below w.heap.size w wr) := below_box (k := 1) BW.out
    by_cases hlt : kk < gn
    · have hltz : (kk : Int) < (gn : Int) := by omega
      obtain ⟨ad, rfl, hb, g0, g1, g2⟩ := (HG.out.below HB0.out (Nat.le_refl _)).gate hlt
      have HP := gateOk_parts (HOK.out kk (by rw [LN.out]; exact hlt))
      have HT := runG_take evalW 0 gs ins kk (by rw [LN.out]; exact hlt)
      generalize gs.getD kk default = gt at g0 g1 g2 HP HT
      have hlen : (runG evalW 0 (gs.take kk) ins).length = inn + kk := by rw [runG_length, List.length_take, LI.out, LN.out]; omega
      generalize runG evalW 0 (gs.take kk) ins = vs at RW HT hlen
      obtain ⟨op, ga, gb⟩ := gt
      dsimp only at g0 g1 g2 HP HT
      obtain ⟨hop, ha, hb', ha0, hb0⟩ := HP
      have vc : wr.cell? ⟨w.heap.size + 1, inn + kk, none⟩ = some (.int .u64 0) := (RW.out.cell (inn + kk)).trans (by rw [List.getElem?_append_right (by simp [w64s]; omega), List.getElem?_replicate]; simp [w64s, hlen]; omega)
      have vf : wr.frozen? ⟨w.heap.size + 1, inn + kk, none⟩ = false := RW.out.frozen (inn + kk)
      have HL : Aside (vs.length = inn + kk) := hlen
      have HS : Aside (∀ x : BitVec 64, (w64s vs ++ List.replicate (gn - kk) (Value.int .u64 0)).set (inn + kk) (w64 x) = w64s (vs ++ [x]) ++ List.replicate (gn - kk - 1) (Value.int .u64 0)) := fun x => w64s_set vs x _ _ _ hlen (by omega)
      rcases hop with rfl | rfl | rfl | rfl | rfl | rfl
      · clear ha hb' ha0 hb0 hlen
        have HT' : Aside _ := HT
        clear HT
        go_wp2
        go_roundg (gn - (kk + 1))
        case measure => omega
        case rel =>
          have BB := BW.out
          have HT := HT'.out
          refine ⟨kk + 1, by omega, by omega, by go_num, (show Below _ _ _ by go_grown), ?_⟩
          show Row _ _ _ _
          rw [HT, show gn - (kk + 1) = gn - kk - 1 from by omega]
          have h0 := HS.out 0
          have he : (w64s vs ++ List.replicate (gn - kk) (Value.int .u64 0)).set (inn + kk) (w64 0) = w64s vs ++ List.replicate (gn - kk) (Value.int .u64 0) := by
            apply List.ext_getElem?
            intro j
            rw [List.getElem?_set]
            split
            · rename_i hj; subst hj
              have := (RW.out.cell (inn + kk)).symm.trans vc
              rw [this, if_pos (List.getElem?_eq_some_iff.1 this).1]; rfl
            · rfl
          rw [show (evalW 0 _ _) = 0 from rfl, ← h0, he]
          exact (RW.out.alloc _)
      · clear ha hb' ha0 hb0 hlen
        have HT' : Aside _ := HT
        clear HT
        go_wp2
        go_roundg (gn - (kk + 1))
        case measure => omega
        case rel =>
          have BB := BW.out
          have HT := HT'.out
          refine ⟨kk + 1, by omega, by omega, by go_num, (show Below _ _ _ by go_grown), ?_⟩
          show Row _ _ _ _
          rw [HT, show gn - (kk + 1) = gn - kk - 1 from by omega]
          rw [show evalW 1 _ _ = BitVec.allOnes 64 from rfl, ← HS.out]
          exact (RW.out.set _ _).alloc _
      · obtain ⟨an, rfl⟩ : ∃ an : Nat, ga = (an : Int) := ⟨ga.toNat, by omega⟩
        have ha' : an < inn + kk := by omega
        have va : wr.cell? ⟨w.heap.size + 1, an, none⟩ = some (w64 (vs.getD an 0)) := (RW.out.cell an).trans (w64s_at vs _ an (by omega))
        simp only [Int.toNat_natCast] at HT
        generalize vs.getD an 0 = x at va HT
        unfold w64 at va
        clear ha hb' ha0 hb0 hlen
        have HT' : Aside _ := HT
        clear HT
        go_wp2
        go_roundg (gn - (kk + 1))
        case measure => omega
        case rel =>
          have BB := BW.out
          have HT := HT'.out
          refine ⟨kk + 1, by omega, by omega, by go_num, (show Below _ _ _ by go_grown), ?_⟩
          show Row _ _ _ _
          rw [HT, show gn - (kk + 1) = gn - kk - 1 from by omega]
          rw [show evalW 2 x _ = ~~~x from rfl, ← HS.out]
          have := (RW.out.set (inn + kk) (w64 (~~~x))).alloc (.cells #[.int .i64 2, .int .i64 an, .int .i64 gb] 32)
          rw [w64_not]
          exact this
      · obtain ⟨an, rfl⟩ : ∃ an : Nat, ga = (an : Int) := ⟨ga.toNat, by omega⟩
        obtain ⟨bn, rfl⟩ : ∃ bn : Nat, gb = (bn : Int) := ⟨gb.toNat, by omega⟩
        have ha' : an < inn + kk := by omega
        have hbn : bn < inn + kk := by omega
        have va : wr.cell? ⟨w.heap.size + 1, an, none⟩ = some (w64 (vs.getD an 0)) := (RW.out.cell an).trans (w64s_at vs _ an (by omega))
        have vb : wr.cell? ⟨w.heap.size + 1, bn, none⟩ = some (w64 (vs.getD bn 0)) := (RW.out.cell bn).trans (w64s_at vs _ bn (by omega))
        simp only [Int.toNat_natCast] at HT
        generalize vs.getD an 0 = x at va HT
        generalize vs.getD bn 0 = y at vb HT
        unfold w64 at va vb
        clear ha hb' ha0 hb0 hlen
        have HT' : Aside _ := HT
        clear HT
        go_wp2
        go_region
        go_wp2
        go_roundg (gn - (kk + 1))
        case measure => omega
        case rel =>
          have BB := BW.out
          have HT := HT'.out
          refine ⟨kk + 1, by omega, by omega, by go_num, (show Below _ _ _ by go_grown), ?_⟩
          show Row _ _ _ _
          rw [HT, show gn - (kk + 1) = gn - kk - 1 from by omega]
          rw [show evalW 3 x y = x &&& y from rfl, ← HS.out, w64_and]
          exact ((RW.out.set (inn + kk) (w64 (x &&& y))).alloc _).drew
      · obtain ⟨an, rfl⟩ : ∃ an : Nat, ga = (an : Int) := ⟨ga.toNat, by omega⟩
        obtain ⟨bn, rfl⟩ : ∃ bn : Nat, gb = (bn : Int) := ⟨gb.toNat, by omega⟩
        have ha' : an < inn + kk := by omega
        have hbn : bn < inn + kk := by omega
        have va : wr.cell? ⟨w.heap.size + 1, an, none⟩ = some (w64 (vs.getD an 0)) := (RW.out.cell an).trans (w64s_at vs _ an (by omega))
        have vb : wr.cell? ⟨w.heap.size + 1, bn, none⟩ = some (w64 (vs.getD bn 0)) := (RW.out.cell bn).trans (w64s_at vs _ bn (by omega))
        simp only [Int.toNat_natCast] at HT
        generalize vs.getD an 0 = x at va HT
        generalize vs.getD bn 0 = y at vb HT
        unfold w64 at va vb
        clear ha hb' ha0 hb0 hlen
        have HT' : Aside _ := HT
        clear HT
        go_wp2
        go_region
        go_wp2
        go_roundg (gn - (kk + 1))
        case measure => omega
        case rel =>
          have BB := BW.out
          have HT := HT'.out
          refine ⟨kk + 1, by omega, by omega, by go_num, (show Below _ _ _ by go_grown), ?_⟩
          show Row _ _ _ _
          rw [HT, show gn - (kk + 1) = gn - kk - 1 from by omega]
          rw [show evalW 4 x y = x ||| y from rfl, ← HS.out, w64_or]
          exact ((RW.out.set (inn + kk) (w64 (x ||| y))).alloc _).drew
      · obtain ⟨an, rfl⟩ : ∃ an : Nat, ga = (an : Int) := ⟨ga.toNat, by omega⟩
        obtain ⟨bn, rfl⟩ : ∃ bn : Nat, gb = (bn : Int) := ⟨gb.toNat, by omega⟩
        have ha' : an < inn + kk := by omega
        have hbn : bn < inn + kk := by omega
        have va : wr.cell? ⟨w.heap.size + 1, an, none⟩ = some (w64 (vs.getD an 0)) := (RW.out.cell an).trans (w64s_at vs _ an (by omega))
        have vb : wr.cell? ⟨w.heap.size + 1, bn, none⟩ = some (w64 (vs.getD bn 0)) := (RW.out.cell bn).trans (w64s_at vs _ bn (by omega))
        simp only [Int.toNat_natCast] at HT
        generalize vs.getD an 0 = x at va HT
        generalize vs.getD bn 0 = y at vb HT
        unfold w64 at va vb
        clear ha hb' ha0 hb0 hlen
        have HT' : Aside _ := HT
        clear HT
        go_wp2
        go_region
        go_wp2
        go_roundg (gn - (kk + 1))
        case measure => omega
        case rel =>
          have BB := BW.out
          have HT := HT'.out
          refine ⟨kk + 1, by omega, by omega, by go_num, (show Below _ _ _ by go_grown), ?_⟩
          show Row _ _ _ _
          rw [HT, show gn - (kk + 1) = gn - kk - 1 from by omega]
          rw [show evalW 5 x y = x ^^^ y from rfl, ← HS.out, w64_xor]
          exact ((RW.out.set (inn + kk) (w64 (x ^^^ y))).alloc _).drew
    · have hltz : ¬ (kk : Int) < (gn : Int) := by omega
      obtain rfl : kk = gn := by omega
      go_wp2
      go_ret
      refine ⟨w.heap.size + 1, rfl, ?_, by omega, HB0.out⟩
      have := RW.out
      rw [Nat.sub_self, List.replicate_zero, List.append_nil, ← LN.out, List.take_length] at this
      exact this
end Go.Proofs.Ytamijjpnklbgnaa

/-
  circuit.Words, walked.
-/
namespace Go.Proofs.Ytamijjpnklbgnaa
open Go.RowKit
set_option linter.unusedSimpArgs false
set_option linter.unusedVariables false

theorem right_at (c : Circ) (GA OA : Option Addr) (gn gc on oc : Nat) (w : World) (h : CAt w c GA OA gn on) :
    Calls Try.prog 25 #[.agg #[.int .i64 c.inputs, .slice GA gn gc, .slice OA on oc]] w fun e w' => e = .returned (.bool (rightC c)) ∧ Below w.heap.size w w' :=
  right_any c.inputs GA OA gn gc on oc c.gates c.outs w h.gates h.outs h.g63 h.o63

set_option maxHeartbeats 400000 in
theorem words_bad (c : Circ) (GA OA IA : Option Addr) (gn gc on oc n ic : Nat) (w : World) (h : CAt w c GA OA gn on) (hn : n ≤ maxLen) (hbad : okC c n = false) :
    Calls Try.prog 61 #[.agg #[.int .i64 c.inputs, .slice GA gn gc, .slice OA on oc], .slice IA n ic] w fun e w' => e = .returned (.tuple #[.slice none 0 0, .int .i64 2]) ∧ Below w.heap.size w w' := by
  unfold maxLen at hn
  have H : Hid (CAt w c GA OA gn on) := h
  clear h
  cases hr : rightC c
  · clear hbad
    go_enter Try.func61, Try.ntmps61
    go_wp2_with fail
    refine (right_at c GA OA gn gc on oc _ (H.out.up (by go_grown))).mono ?_
    rw [hr]
    rintro e w1 ⟨rfl, hb⟩
    have B1 : Below w.heap.size w w1 := (show Below w.heap.size w _ by go_grown).trans (hb.mono (by simp))
    go_wp2
    go_ret2
    exact ⟨rfl, B1⟩
  · have hne : ((n : Int) != c.inputs) = true := by simp [okC, hr] at hbad; simpa using hbad
    clear hbad
    go_enter Try.func61, Try.ntmps61
    go_wp2_with fail
    refine (right_at c GA OA gn gc on oc _ (H.out.up (by go_grown))).mono ?_
    rw [hr]
    rintro e w1 ⟨rfl, hb⟩
    have B1 : Below w.heap.size w w1 := (show Below w.heap.size w _ by go_grown).trans (hb.mono (by simp))
    have c0 : w1.cell? ⟨w.heap.size, 0, none⟩ = some (.int .i64 c.inputs) := (hb.cell (p := ⟨w.heap.size, 0, none⟩) (by simp)).trans (by go_cell)
    go_wp2
    go_ret2
    exact ⟨rfl, B1⟩

set_option maxHeartbeats 1000000 in
theorem words_ok (c : Circ) (GA OA IA : Option Addr) (gn gc on oc n ic : Nat) (ins : List (BitVec 64)) (w : World) (h : CAt w c GA OA gn on) (hI : Rd w w.heap.size 1 IA n (w64s ins)) (hok : okC c n = true) :
    Calls Try.prog 61 #[.agg #[.int .i64 c.inputs, .slice GA gn gc, .slice OA on oc], .slice IA n ic] w fun e w' =>
      ∃ g, e = .returned (.tuple #[.slice (some ⟨g, 0, none⟩) on on, .int .i64 0]) ∧ Row w' g 89 (w64s (outsG evalW 0 c ins)) ∧ w.heap.size ≤ g ∧ Below w.heap.size w w' := by
  have H : Hid (CAt w c GA OA gn on) := h
  have HI : Hid (Rd w w.heap.size 1 IA n (w64s ins)) := hI
  simp only [okC, Bool.and_eq_true, decide_eq_true_eq] at hok
  obtain ⟨hr, hn⟩ := hok
  obtain ⟨⟨h0, h1, h2, h3⟩, hg, ho⟩ := rightC_parts hr
  rw [h.gl] at h2 ho
  rw [h.ol] at h3
  obtain ⟨inp, gs, os⟩ := c
  dsimp only at hn h0 h1 hg ho
  subst hn
  have HR : Hid (rightC ⟨(n : Int), gs, os⟩ = true) := hr
  have LO : Hid (os.length = on) := h.ol
  have LI : Hid (ins.length = n) := by have := hI.1; simp [w64s] at this; show _ = _; omega
  have HGK : Hid (∀ k, k < gs.length → gateOk ((n : Int) + k) (gs.getD k default) = true) := hg
  have HOK : Hid (os.all (outOk ((n : Int) + gn)) = true) := ho
  have LG : Hid (gs.length = gn) := h.gl
  clear h hI hr hg ho
  have hmk := fun W => make_like (P := Try.prog) Try.underlying88 u64_info rfl on (on : Int) rfl (by omega) (by omega) W
  go_enter Try.func61, Try.ntmps61
  go_wp2_with fail
  refine (right_at ⟨(n : Int), gs, os⟩ GA OA gn gc on oc _ (H.out.up (by go_grown))).mono ?_
  rw [HR.out]
  rintro e w1 ⟨rfl, hb⟩
  have B1 : Below w.heap.size w w1 := (show Below w.heap.size w _ by go_grown).trans (hb.mono (by simp))
  have c0 : w1.cell? ⟨w.heap.size, 0, none⟩ = some (.int .i64 n) := (hb.cell (p := ⟨w.heap.size, 0, none⟩) (by simp)).trans (by go_cell)
  have c1 : w1.cell? ⟨w.heap.size, 1, none⟩ = some (.slice GA gn gc) := (hb.cell (p := ⟨w.heap.size, 1, none⟩) (by simp)).trans (by go_cell)
  have c2 : w1.cell? ⟨w.heap.size, 2, none⟩ = some (.slice OA on oc) := (hb.cell (p := ⟨w.heap.size, 2, none⟩) (by simp)).trans (by go_cell)
  have hz1 : w.heap.size < w1.heap.size := by have := hb.size; simp at this; omega
  clear hb
  go_wp2_with fail
  refine (values_any n GA OA IA gn gc on oc ic gs ins _ (H.out.up B1).gates (HI.out.up B1) (by omega) h2 HGK.out).mono ?_
  rintro e w2 ⟨g, rfl, hrow, hgle, hb⟩
  have B2 : Below w.heap.size w w2 := B1.trans (hb.mono B1.size)
  have d2 : w2.cell? ⟨w.heap.size, 2, none⟩ = some (.slice OA on oc) := (hb.cell (p := ⟨w.heap.size, 2, none⟩) (by show w.heap.size < _; omega)).trans c2
  have hz2 : w.heap.size < w2.heap.size := by have := hb.size; omega
  have HROW : Hid (Row w2 g 89 (w64s (runG evalW 0 gs ins))) := hrow
  have hgl : g < w2.heap.size := hrow.lt
  have HB2 : Hid (Below w.heap.size w w2) := B2
  clear hb B1 c0 c1 c2 hz1 hrow B2
  go_wp2
  go_loopg [30] on (fun gg s30 wr => ∃ kk : Nat, kk ≤ on ∧ on - kk ≤ gg ∧ s30 = .int .i64 kk ∧ Aside (Below (w2.heap.size) w2 wr) ∧ Aside (Row wr w2.heap.size 89 (w64s ((os.take kk).map fun o => (runG evalW 0 gs ins).getD o.toNat 0) ++ List.replicate (on - kk) (.int .u64 0))))
  case atStart => exact ⟨0, Nat.zero_le _, by omega, rfl, (show Below _ _ _ by go_grown), Row.new _ _ _⟩
  case round =>
    obtain ⟨kk, hkk, hgg, rfl, BW, RW⟩ := hrel
    have e2 : wr.cell? ⟨w.heap.size, 2, none⟩ = some (.slice OA on oc) := (BW.out.cell (p := ⟨w.heap.size, 2, none⟩) hz2).trans d2
    have hsz : w2.heap.size < wr.heap.size := RW.out.lt
    by_cases hlt : kk < on
    · have hltz : (kk : Int) < (on : Int) := by omega
      have B3 : Below w.heap.size w wr := HB2.out.trans (BW.out.mono (by omega))
      obtain ⟨ad, rfl, hb, hcell⟩ := ((H.out.up B3).outs).int hlt
      obtain ⟨ho1, ho2⟩ := outOk_at HOK.out (k := kk) (by rw [LO.out]; exact hlt)
      have HT : Aside _ := map_take_snoc (fun o => (runG evalW 0 gs ins).getD o.toNat 0) os kk (by rw [LO.out]; exact hlt)
      generalize os.getD kk 0 = o at hcell ho1 ho2 HT
      obtain ⟨on', rfl⟩ : ∃ m : Nat, o = (m : Int) := ⟨o.toNat, by omega⟩
      have hon : on' < n + gn := by omega
      clear ho1 ho2 B3
      have HL : Aside ((runG evalW 0 gs ins).length = n + gn) := by show _ = _; rw [runG_length, LI.out, LG.out]
      have hv : wr.cell? ⟨g, on', none⟩ = some (w64 ((runG evalW 0 gs ins).getD on' 0)) := by
        rw [BW.out.cell (p := ⟨g, on', none⟩) hgl, HROW.out.cell on']
        have := w64s_at (runG evalW 0 gs ins) [] on' (by rw [HL.out]; exact hon)
        simpa using this
      have hlt' : ((os.take kk).map fun o => (runG evalW 0 gs ins).getD o.toNat 0).length = kk := by rw [List.length_map, List.length_take, LO.out]; omega
      have hs := w64s_set ((os.take kk).map fun o => (runG evalW 0 gs ins).getD o.toNat 0) ((runG evalW 0 gs ins).getD on' 0) kk (on - kk) (.int .u64 0) hlt' (by omega)
      have vc : wr.cell? ⟨w2.heap.size, kk, none⟩ = some (.int .u64 0) := (RW.out.cell kk).trans (w64s_next _ _ _ _ hlt' (by omega))
      have vf : wr.frozen? ⟨w2.heap.size, kk, none⟩ = false := RW.out.frozen kk
      generalize hx : (runG evalW 0 gs ins).getD on' 0 = x at hv hs
      have HX : Aside ((runG evalW 0 gs ins).getD on' 0 = x) := hx
      have HS : Aside _ := hs
      clear hx hs hlt'
      unfold w64 at hv
      go_wp2
      go_roundg (on - (kk + 1))
      case measure => omega
      case rel =>
        have BB := BW.out
        refine ⟨kk + 1, by omega, by omega, by go_num, (show Below _ _ _ by go_grown), ?_⟩
        show Row _ _ _ _
        rw [HT.out, show on - (kk + 1) = on - kk - 1 from by omega]
        simp only [Int.toNat_natCast]
        rw [HX.out, ← HS.out]
        exact RW.out.set _ _
    · have hltz : ¬ (kk : Int) < (on : Int) := by omega
      obtain rfl : kk = on := by omega
      go_wp2
      go_ret2
      refine ⟨w2.heap.size, rfl, ?_, HB2.out.size, HB2.out.trans (BW.out.mono HB2.out.size)⟩
      have := RW.out
      rw [Nat.sub_self, List.replicate_zero, List.append_nil, ← LO.out, List.take_length] at this
      exact this
end Go.Proofs.Ytamijjpnklbgnaa

/-
  circuit.Eval, walked.
-/
namespace Go.Proofs.Ytamijjpnklbgnaa
open Go.RowKit
set_option linter.unusedSimpArgs false
set_option linter.unusedVariables false

theorem bool_info' : (Try.prog.info? 4).map (fun i => (i.zero, i.size, i.bytes)) = some (some (.bool false), 1, 1) := by kernel_rfl
/-- A Bool as a word, and a word's lowest bit. -/
def bw (b : Bool) : BitVec 64 := if b then 1 else 0
def lo (x : BitVec 64) : Bool := x.getLsbD 0
theorem w64_lo (x : BitVec 64) : (bits .and .u64 (x.toNat : Int) 1 == 1) = lo x := by
  have h : (1 : Int) = (((1 : BitVec 64).toNat : Nat) : Int) := by decide
  rw [h, u64_and_nat _ _ x.isLt (1 : BitVec 64).isLt]
  unfold lo
  rw [← BitVec.testBit_toNat]
  simp only [Nat.testBit, Nat.shiftRight_zero]
  have : x.toNat &&& (1 : BitVec 64).toNat = x.toNat % 2 := Nat.and_one_is_mod _
  rw [this, Nat.one_and_eq_mod_two]
  rcases Nat.mod_two_eq_zero_or_one x.toNat with e | e <;> rw [e] <;> rfl
theorem bools_set (bs : List Bool) (b : Bool) (m k : Nat) (z : Value) (hl : bs.length = m) (hk : 0 < k) : (bools bs ++ List.replicate k z).set m (.bool b) = bools (bs ++ [b]) ++ List.replicate (k - 1) z := by
  subst hl
  obtain ⟨j, rfl⟩ : ∃ j, k = j + 1 := ⟨k - 1, by omega⟩
  rw [List.set_append_right _ _ (by simp)]
  simp [bools, List.replicate_succ]
theorem bools_next (bs : List Bool) (m k : Nat) (z : Value) (hl : bs.length = m) (hk : 0 < k) : (bools bs ++ List.replicate k z)[m]? = some z := by
  subst hl
  rw [List.getElem?_append_right (by simp), List.getElem?_replicate]
  simp [hk]
theorem map_take_b {β : Type} (f : Bool → β) (bs : List Bool) (k : Nat) (h : k < bs.length) : (bs.take (k + 1)).map f = (bs.take k).map f ++ [f (bs.getD k false)] := by
  rw [List.take_succ_eq_append_getElem h, List.map_append, List.getD_eq_getElem?_getD, List.getElem?_eq_getElem h]; rfl
theorem map_take_w {β : Type} (f : BitVec 64 → β) (bs : List (BitVec 64)) (k : Nat) (h : k < bs.length) : (bs.take (k + 1)).map f = (bs.take k).map f ++ [f (bs.getD k 0)] := by
  rw [List.take_succ_eq_append_getElem h, List.map_append, List.getD_eq_getElem?_getD, List.getElem?_eq_getElem h]; rfl

def EvalPost (c : Circ) (n on : Nat) (ins : List Bool) (w : World) (e : Ending) (w' : World) : Prop :=
  (okC c n = false ∧ e = .returned (.tuple #[.slice none 0 0, .int .i64 2]) ∧ Below w.heap.size w w') ∨
  (okC c n = true ∧ ∃ g, e = .returned (.tuple #[.slice (some ⟨g, 0, none⟩) on on, .int .i64 0]) ∧ Row w' g 4 (bools ((outsG evalW 0 c (ins.map bw)).map lo)) ∧ w.heap.size ≤ g ∧ Below w.heap.size w w')

set_option maxHeartbeats 1000000 in
/-- Up to the call of Words: the words hold the Bools; then whatever Words does. -/
theorem eval_head (c : Circ) (GA OA IA : Option Addr) (gn gc on oc n ic : Nat) (ins : List Bool) (w : World) (h : CAt w c GA OA gn on) (hI : Rd w w.heap.size 1 IA n (bools ins)) (hn : n ≤ 1100) :
    Calls Try.prog 31 #[.agg #[.int .i64 c.inputs, .slice GA gn gc, .slice OA on oc], .slice IA n ic] w (EvalPost c n on ins w) := by
  have H : Hid (CAt w c GA OA gn on) := h
  have HI : Hid (Rd w w.heap.size 1 IA n (bools ins)) := hI
  have LI : Hid (ins.length = n) := by have := hI.1; simp at this; show _ = _; omega
  have LO : Hid (c.outs.length = on) := h.ol
  clear h hI
  have hmk := fun W => make_like (P := Try.prog) Try.underlying88 u64_info rfl n (n : Int) rfl (by omega) (by omega) W
  go_enter Try.func31, Try.ntmps31
  go_wp2
  go_loopg [18] n (fun gg s18 wr => ∃ kk : Nat, kk ≤ n ∧ n - kk ≤ gg ∧ s18 = .int .i64 kk ∧ Aside (Below (w.heap.size + 1) (w.alloc (.cells #[.int .i64 c.inputs, .slice GA gn gc, .slice OA on oc] 25)) wr) ∧ Aside (Row wr (w.heap.size + 1) 89 (w64s ((ins.take kk).map bw) ++ List.replicate (n - kk) (.int .u64 0))))
  case atStart => exact ⟨0, Nat.zero_le _, by omega, rfl, (show Below _ _ _ by go_grown), (by have := Row.new (w.alloc (.cells #[.int .i64 c.inputs, .slice GA gn gc, .slice OA on oc] 25)) 89 (List.replicate n (.int .u64 0)); rw [World.size_alloc] at this; exact this)⟩
  case round =>
    clear hmk
    obtain ⟨kk, hkk, hgg, rfl, BW, RW⟩ := hrel
    have B0 : Aside (Below w.heap.size w wr) := below_box (k := 1) BW.out
    by_cases hlt : kk < n
    · have hltz : (kk : Int) < (n : Int) := by omega
      obtain ⟨ad, rfl, hb, hcell⟩ := (HI.out.up B0.out).bool hlt
      have HT : Aside _ := map_take_b bw ins kk (by rw [LI.out]; exact hlt)
      have hlt' : ((ins.take kk).map bw).length = kk := by rw [List.length_map, List.length_take, LI.out]; omega
      have HS : Aside _ := w64s_set ((ins.take kk).map bw) (bw (ins.getD kk false)) kk (n - kk) (.int .u64 0) hlt' (by omega)
      have vc : wr.cell? ⟨w.heap.size + 1, kk, none⟩ = some (.int .u64 0) := (RW.out.cell kk).trans (w64s_next _ _ _ _ hlt' (by omega))
      have vf : wr.frozen? ⟨w.heap.size + 1, kk, none⟩ = false := RW.out.frozen kk
      clear hlt'
      cases hbv : ins.getD kk false
      · rw [hbv] at hcell HT HS
        go_wp2
        go_roundg (n - (kk + 1))
        case measure => omega
        case rel =>
          refine ⟨kk + 1, by omega, by omega, by go_num, BW.out, ?_⟩
          show Row _ _ _ _
          rw [HT.out, show n - (kk + 1) = n - kk - 1 from by omega, ← HS.out]
          have he : (w64s ((ins.take kk).map bw) ++ List.replicate (n - kk) (Value.int .u64 0)).set kk (w64 (bw false)) = w64s ((ins.take kk).map bw) ++ List.replicate (n - kk) (Value.int .u64 0) := by
            apply List.ext_getElem?
            intro j
            rw [List.getElem?_set]
            split
            · rename_i hj; subst hj
              have := (RW.out.cell kk).symm.trans vc
              rw [this, if_pos (List.getElem?_eq_some_iff.1 this).1]; rfl
            · rfl
          rw [he]
          exact RW.out
      · rw [hbv] at hcell HT HS
        go_wp2
        go_roundg (n - (kk + 1))
        case measure => omega
        case rel =>
          have BB := BW.out
          refine ⟨kk + 1, by omega, by omega, by go_num, (show Below _ _ _ by go_grown), ?_⟩
          show Row _ _ _ _
          rw [HT.out, show n - (kk + 1) = n - kk - 1 from by omega, ← HS.out]
          exact RW.out.set _ _
    · have hltz : ¬ (kk : Int) < (n : Int) := by omega
      obtain rfl : kk = n := by omega
      have RW' : Aside (Row wr (w.heap.size + 1) 89 (w64s (ins.map bw))) := by
        have := RW.out
        rw [Nat.sub_self, List.replicate_zero, List.append_nil, ← LI.out, List.take_length] at this
        exact this
      have c0 : wr.cell? ⟨w.heap.size, 0, none⟩ = some (.int .i64 c.inputs) := (BW.out.cell (p := ⟨w.heap.size, 0, none⟩) (by simp)).trans (by go_cell)
      have c1 : wr.cell? ⟨w.heap.size, 1, none⟩ = some (.slice GA gn gc) := (BW.out.cell (p := ⟨w.heap.size, 1, none⟩) (by simp)).trans (by go_cell)
      have c2 : wr.cell? ⟨w.heap.size, 2, none⟩ = some (.slice OA on oc) := (BW.out.cell (p := ⟨w.heap.size, 2, none⟩) (by simp)).trans (by go_cell)
      have hlw : ((w64s (ins.map bw)).length = kk * 1) := by simp [w64s, LI.out]
      have HLW : Aside ((w64s (ins.map bw)).length = kk * 1) := hlw
      clear hlw
      cases hok : okC c kk
      · go_wp2_with fail
        refine (words_bad c GA OA _ gn gc on oc kk kk _ (H.out.up B0.out) (by unfold maxLen; omega) hok).mono ?_
        rintro e w1 ⟨rfl, hb⟩
        go_wp2
        go_ret2
        exact .inl ⟨hok, rfl, B0.out.trans (hb.mono B0.out.size)⟩
      · have h3 : on ≤ 1000 := by
          simp only [okC, Bool.and_eq_true] at hok
          have := (rightC_parts hok.1).1.2.2.2
          rw [LO.out] at this; exact this
        have hmk := fun W => make_like (P := Try.prog) Try.underlying30 bool_info' rfl on (on : Int) rfl (by omega) (by omega) W
        go_wp2_with fail
        refine (words_ok c GA OA (some ⟨w.heap.size + 1, 0, none⟩) gn gc on oc kk kk (ins.map bw) _ (H.out.up B0.out) (RW'.out.rd HLW.out) hok).mono ?_
        rintro e w1 ⟨g, rfl, hrow, hgle, hb⟩
        have HROW : Aside (Row w1 g 89 (w64s (outsG evalW 0 c (ins.map bw)))) := hrow
        have hgl : g < w1.heap.size := hrow.lt
        have HB1 : Aside (Below w.heap.size w w1) := B0.out.trans (hb.mono B0.out.size)
        have LL : Aside ((outsG evalW 0 c (ins.map bw)).length = on) := by show _ = _; rw [outsG, List.length_map, LO.out]
        clear hb hrow c0 c1 c2
        go_wp2
        go_loopg [42] on (fun gg s42 wr' => ∃ jj : Nat, jj ≤ on ∧ on - jj ≤ gg ∧ s42 = .int .i64 jj ∧ Aside (Below w1.heap.size w1 wr') ∧ Aside (Row wr' w1.heap.size 4 (bools (((outsG evalW 0 c (ins.map bw)).take jj).map lo) ++ List.replicate (on - jj) (.bool false))))
        case atStart => exact ⟨0, Nat.zero_le _, by omega, rfl, (show Below _ _ _ by go_grown), Row.new _ _ _⟩
        case round =>
          rename World => wr2
          clear hmk
          obtain ⟨jj, hjj, hg2, rfl, BW2, RW2⟩ := hrel
          by_cases hlt2 : jj < on
          · have hltz2 : (jj : Int) < (on : Int) := by omega
            have hv : wr2.cell? ⟨g, jj, none⟩ = some (w64 ((outsG evalW 0 c (ins.map bw)).getD jj 0)) := by
              rw [BW2.out.cell (p := ⟨g, jj, none⟩) hgl, HROW.out.cell jj]
              have := w64s_at (outsG evalW 0 c (ins.map bw)) [] jj (by rw [LL.out]; exact hlt2)
              simpa using this
            have HT : Aside _ := map_take_w lo (outsG evalW 0 c (ins.map bw)) jj (by rw [LL.out]; exact hlt2)
            have hlt' : (((outsG evalW 0 c (ins.map bw)).take jj).map lo).length = jj := by rw [List.length_map, List.length_take, LL.out]; omega
            generalize (outsG evalW 0 c (ins.map bw)).getD jj 0 = x at hv HT
            have HS : Aside _ := bools_set (((outsG evalW 0 c (ins.map bw)).take jj).map lo) (lo x) jj (on - jj) (.bool false) hlt' (by omega)
            have vc : wr2.cell? ⟨w1.heap.size, jj, none⟩ = some (.bool false) := (RW2.out.cell jj).trans (bools_next _ _ _ _ hlt' (by omega))
            have vf : wr2.frozen? ⟨w1.heap.size, jj, none⟩ = false := RW2.out.frozen jj
            clear hlt'
            unfold w64 at hv
            go_wp2
            go_roundg (on - (jj + 1))
            case measure => omega
            case rel =>
              have BB := BW2.out
              refine ⟨jj + 1, by omega, by omega, by go_num, (show Below _ _ _ by go_grown), ?_⟩
              show Row _ _ _ _
              rw [HT.out, show on - (jj + 1) = on - jj - 1 from by omega, ← HS.out, w64_lo]
              exact RW2.out.set _ _
          · have hltz2 : ¬ (jj : Int) < (on : Int) := by omega
            obtain rfl : jj = on := by omega
            go_wp2
            go_ret2
            refine Or.inr ⟨hok, w1.heap.size, rfl, ?_, HB1.out.size, HB1.out.trans (BW2.out.mono HB1.out.size)⟩
            have := RW2.out
            rw [Nat.sub_self, List.replicate_zero, List.append_nil, ← LL.out, List.take_length] at this
            exact this
end Go.Proofs.Ytamijjpnklbgnaa

/-
  circuit.Eval at a valid circuit: the outputs, by the rule over Bools.
-/
namespace Go.Proofs.Ytamijjpnklbgnaa
open Go.RowKit
set_option linter.unusedSimpArgs false
set_option linter.unusedVariables false
theorem evl_lo (c : Circ) (ins : List Bool) : (outsG evalW 0 c (ins.map bw)).map lo = outsG evalB false c ins := by
  have h1 : lo = bitOf 0 := rfl
  have h2 : bitOf 0 ∘ bw = id := funext (fun b => by cases b <;> rfl)
  rw [h1, outsG_bit _ _ _ (by omega), List.map_map, h2, List.map_id]
theorem eval_right (c : Circ) (GA OA IA : Option Addr) (gn gc on oc n ic : Nat) (ins : List Bool) (w : World) (h : CAt w c GA OA gn on) (hI : Rd w w.heap.size 1 IA n (bools ins)) (hr : rightC c = true) (hn : (n : Int) = c.inputs) :
    Calls Try.prog 31 #[.agg #[.int .i64 c.inputs, .slice GA gn gc, .slice OA on oc], .slice IA n ic] w fun e w' => ∃ g, e = .returned (.tuple #[.slice (some ⟨g, 0, none⟩) on on, .int .i64 0]) ∧ Row w' g 4 (bools (outsG evalB false c ins)) ∧ w.heap.size ≤ g ∧ Below w.heap.size w w' := by
  have hb := (rightC_parts hr).1
  have hok : okC c n = true := by simp only [okC, Bool.and_eq_true, decide_eq_true_eq]; exact ⟨hr, hn⟩
  refine (eval_head c GA OA IA gn gc on oc n ic ins w h hI (by omega)).mono fun e w' hp => ?_
  rcases hp with ⟨hk, _⟩ | ⟨_, g, he, hrow, hg, hB⟩
  · rw [hok] at hk; cases hk
  · rw [evl_lo] at hrow
    exact ⟨g, he, hrow, hg, hB⟩
theorem outsG_len {α : Type} (f : Int → α → α → α) (d : α) (c : Circ) (vs : List α) : (outsG f d c vs).length = c.outs.length := by simp [outsG]
end Go.Proofs.Ytamijjpnklbgnaa

/-
  The law's same: two circuits with the same outputs for inputs; walked.
-/
namespace Go.Proofs.Ytamijjpnklbgnaa
open Go.RowKit
set_option linter.unusedSimpArgs false
set_option linter.unusedVariables false
set_option maxRecDepth 100000 in
set_option maxHeartbeats 4000000 in
theorem sameE_any (a b : Circ) (GA OA GB OB IA : Option Addr) (gn gc on oc hn hc pn pc N ic : Nat) (ins : List Bool) (w : World) (ha : CAt w a GA OA gn on) (hb : CAt w b GB OB hn pn) (hI : Rd w w.heap.size 1 IA N (bools ins))
    (ra : rightC a = true) (rb : rightC b = true) (na : (N : Int) = a.inputs) (nb : (N : Int) = b.inputs) (heq : outsG evalB false a ins = outsG evalB false b ins) :
    Calls Try.prog 24 #[.agg #[.int .i64 a.inputs, .slice GA gn gc, .slice OA on oc], .agg #[.int .i64 b.inputs, .slice GB hn hc, .slice OB pn pc], .slice IA N ic] w fun e w' => e = .returned (.bool true) ∧ Below w.heap.size w w' := by
  have HA : Hid (CAt w a GA OA gn on) := ha
  have HB0 : Hid (CAt w b GB OB hn pn) := hb
  have HI : Hid (Rd w w.heap.size 1 IA N (bools ins)) := hI
  have RA : Hid (rightC a = true) := ra
  have RB : Hid (rightC b = true) := rb
  have NA : Hid (∀ _ : Unit, (N : Int) = a.inputs) := fun _ => na
  have NB : Hid (∀ _ : Unit, (N : Int) = b.inputs) := fun _ => nb
  obtain ⟨l, hl⟩ : ∃ l, outsG evalB false b ins = l := ⟨_, rfl⟩
  have HLA : Hid (∀ _ : Unit, outsG evalB false a ins = l) := fun _ => heq.trans hl
  have HLB : Hid (∀ _ : Unit, outsG evalB false b ins = l) := fun _ => hl
  have e1 : on = l.length := by rw [← hl, ← heq, outsG_len]; exact ha.ol.symm
  have e2 : pn = l.length := by rw [← hl, outsG_len]; exact hb.ol.symm
  obtain rfl : on = pn := by omega
  have HLL : Hid (∀ _ : Unit, on = l.length) := fun _ => e1
  have hon : on ≤ 1000 := by have := (rightC_parts ra).1; have := ha.ol; omega
  clear ha hb hI ra rb na nb heq hl e1 e2
  go_enter Try.func24, Try.ntmps24
  go_upto_region 1 with fail
  have RA1 : Hid (Row (World.alloc (World.alloc w (.cells #[.int .i64 a.inputs, .slice GA gn gc, .slice OA on oc] 25)) (.cells #[.int .i64 b.inputs, .slice GB hn hc, .slice OB on pc] 25)) (w.heap.size) 25 [.int .i64 a.inputs, .slice GA gn gc, .slice OA on oc]) := by
    have h0 := Row.new w 25 [.int .i64 a.inputs, .slice GA gn gc, .slice OA on oc]
    try simp only [World.size_alloc] at h0
    exact (h0.alloc _)
  have RB1 : Hid (Row (World.alloc (World.alloc w (.cells #[.int .i64 a.inputs, .slice GA gn gc, .slice OA on oc] 25)) (.cells #[.int .i64 b.inputs, .slice GB hn hc, .slice OB on pc] 25)) (w.heap.size + 1) 25 [.int .i64 b.inputs, .slice GB hn hc, .slice OB on pc]) := by
    have h0 := Row.new (World.alloc w (.cells #[.int .i64 a.inputs, .slice GA gn gc, .slice OA on oc] 25)) 25 [.int .i64 b.inputs, .slice GB hn hc, .slice OB on pc]
    try simp only [World.size_alloc] at h0
    exact h0
  have hgr9 : Below w.heap.size w (World.alloc (World.alloc w (.cells #[.int .i64 a.inputs, .slice GA gn gc, .slice OA on oc] 25)) (.cells #[.int .i64 b.inputs, .slice GB hn hc, .slice OB on pc] 25)) := by go_grown
  have B_w : Hid (Below w.heap.size w (World.alloc (World.alloc w (.cells #[.int .i64 a.inputs, .slice GA gn gc, .slice OA on oc] 25)) (.cells #[.int .i64 b.inputs, .slice GB hn hc, .slice OB on pc] 25))) := hgr9
  clear hgr9
  revert RA1 RB1 B_w
  generalize (World.alloc (World.alloc w (.cells #[.int .i64 a.inputs, .slice GA gn gc, .slice OA on oc] 25)) (.cells #[.int .i64 b.inputs, .slice GB hn hc, .slice OB on pc] 25)) = wa
  intro RA1 RB1 B_w
  have kR : Hid (Row wa (w.heap.size) 25 [.int .i64 a.inputs, .slice GA gn gc, .slice OA on oc]) := RA1.out
  have k0 := kR.out.cell 0
  have k1 := kR.out.cell 1
  have k2 := kR.out.cell 2
  have kl := kR.out.lt
  simp only [List.getElem?_cons_zero, List.getElem?_cons_succ] at k0 k1 k2
  clear kR
  go_wp2_with fail
  have HC := eval_right a GA OA IA gn gc on oc N ic ins wa (HA.out.up B_w.out) (HI.out.up B_w.out) RA.out (NA.out ())
  rw [HLA.out ()] at HC
  refine HC.mono ?_
  clear HC
  rintro e w1 ⟨g1, rfl, hr1, hg1, hb⟩
  have R1 : Hid (Row w1 g1 4 (bools l)) := hr1
  clear hr1 hg1
  have B_w : Hid (Below w.heap.size w w1) := below_on2 B_w.out hb
  have B_wa : Hid (Below wa.heap.size wa w1) := hb
  clear k0 k1 k2 kl
  clear hb
  have kR : Hid (Row w1 (w.heap.size + 1) 25 [.int .i64 b.inputs, .slice GB hn hc, .slice OB on pc]) := (rowCells RB1.out B_wa.out)
  have k0 := kR.out.cell 0
  have k1 := kR.out.cell 1
  have k2 := kR.out.cell 2
  have kl := kR.out.lt
  simp only [List.getElem?_cons_zero, List.getElem?_cons_succ] at k0 k1 k2
  clear kR
  go_wp2_with fail
  have HC := eval_right b GB OB IA hn hc on pc N ic ins w1 (HB0.out.up B_w.out) (HI.out.up B_w.out) RB.out (NB.out ())
  rw [HLB.out ()] at HC
  refine HC.mono ?_
  clear HC
  rintro e w2 ⟨g2, rfl, hr2, hg2, hb⟩
  have R2 : Hid (Row w2 g2 4 (bools l)) := hr2
  clear hr2 hg2
  have B_w : Hid (Below w.heap.size w w2) := below_on2 B_w.out hb
  have B_wa : Hid (Below wa.heap.size wa w2) := below_on2 B_wa.out hb
  have B_w1 : Hid (Below w1.heap.size w1 w2) := hb
  clear k0 k1 k2 kl
  clear hb
  have R1b : Hid (Row w2 g1 4 (bools l)) := rowCells R1.out B_w1.out
  have BW : Hid (Below w.heap.size w w2) := B_w
  clear R1 B_w B_wa B_w1 RA1 RB1 HA HB0 HI RA RB NA NB HLA HLB
  go_wp2_with fail
  go_loopg [11, 39] on (fun gg _ s39 wr => ∃ k : Nat, k ≤ on ∧ on - k ≤ gg ∧ s39 = .int .i64 k ∧ Aside (Below w.heap.size w wr) ∧ Aside (Row wr g1 4 (bools l)) ∧ Aside (Row wr g2 4 (bools l)))
  case atStart => exact ⟨0, Nat.zero_le _, by omega, rfl, BW.out, R1b.out, R2.out⟩
  case round =>
    clear BW R1b R2
    obtain ⟨k, hk, hgg, rfl, BW, R1, R2⟩ := hrel
    by_cases hlt : k < on
    · have hlz : (k : Int) < (on : Int) := by omega
      have hkl : k < l.length := by have := HLL.out (); omega
      have c1 : wr.cell? ⟨g1, k, none⟩ = some (.bool (l.getD k false)) := by rw [R1.out.cell]; exact bools_get l k hkl
      have c2 : wr.cell? ⟨g2, k, none⟩ = some (.bool (l.getD k false)) := by rw [R2.out.cell]; exact bools_get l k hkl
      have l1 := R1.out.lt
      have l2 := R2.out.lt
      clear hkl
      cases hv : l.getD k false
      · rw [hv] at c1 c2
        clear hv
        go_wp2_with fail
        go_quiet (fail)
        go_wp2_with fail
        go_roundg (on - (k + 1))
        case measure => omega
        case rel => exact ⟨k + 1, by omega, by omega, by go_num, below_drewN BW.out _, R1.out, R2.out⟩
      · rw [hv] at c1 c2
        clear hv
        go_wp2_with fail
        go_quiet (fail)
        go_wp2_with fail
        go_roundg (on - (k + 1))
        case measure => omega
        case rel => exact ⟨k + 1, by omega, by omega, by go_num, below_drewN BW.out _, R1.out, R2.out⟩
    · have hlz : ¬ (k : Int) < (on : Int) := by omega
      go_wp2_with fail
      go_ret
      exact ⟨rfl, BW.out⟩
end Go.Proofs.Ytamijjpnklbgnaa

/-
  A region that draws its order, walked by a condition that holds whatever has been listed so far: each operation is looked at once, not once for each order. Any program.
-/
namespace Go.Proofs.Ytamijjpnklbgnaa
open Go.RowKit
set_option linter.unusedSimpArgs false
set_option linter.unusedVariables false
section
variable {P : Program} {ops : Array Oper} {Q : Exit → Act → World → Prop}
/-- The operation i is listed too. -/
def also (b : Nat → Bool) (i : Nat) : Nat → Bool := fun j => if j = i then true else b j
theorem also_same (b : Nat → Bool) (i : Nat) : also b i i = true := if_pos rfl
theorem also_ne (b : Nat → Bool) {i j : Nat} (h : j ≠ i) : also b i j = b j := if_neg h
/-- Each operation waits for earlier ones alone. -/
def backward (ops : Array Oper) : Bool := (List.range ops.size).all fun i => ((ops[i]?).map (fun o => o.after.all fun e => decide (e.on < i))).getD true
theorem len_filter_lt (p q : Nat → Bool) (n i : Nat) (hi : i < n) (h : ∀ j, p j = true → q j = true) (hp : p i = false) (hq : q i = true) : ((List.range n).filter p).length < ((List.range n).filter q).length := by
  induction n with
  | zero => omega
  | succ n ih =>
    rw [List.range_succ, List.filter_append, List.filter_append, List.length_append, List.length_append]
    have hle : ∀ m, ((List.range m).filter p).length ≤ ((List.range m).filter q).length := fun m => by
      induction m with
      | zero => exact Nat.le_refl _
      | succ m ih2 =>
        rw [List.range_succ, List.filter_append, List.filter_append, List.length_append, List.length_append]
        cases hpm : p m with
        | true => simp [hpm, h m hpm]; exact ih2
        | false => simp [hpm]; omega
    rcases Nat.lt_or_ge i n with h1 | h1
    · have := ih h1
      cases hpn : p n with
      | true => simp [hpn, h n hpn]; exact this
      | false => simp [hpn]; omega
    · obtain rfl : i = n := by omega
      have := hle i
      simp [hp, hq]; omega
theorem inv_any (I : (Nat → Bool) → Act → World → Prop) (hb : backward ops = true)
    (hstep : ∀ b c u i o, ops[i]? = some o → b i = false → (∀ e ∈ o.after, Region.binds .any e = true → b e.on = true) → I b c u → ∀ K' : Act → World → Prop, (∀ c' u', I (also b i) c' u' → K' c' u') → if Region.wanted o (yielded ops c.tmps) = true then Oper.wp P o c u K' Q else K' (c.put o.dst undef) u)
    (hend : ∀ b c u, (∀ i, i < ops.size → b i = true) → I b c u → Q .normal c u) (f : Nat) :
    ∀ (lst : Array Bool) (c : Act) (u : World), lst.size = ops.size → ((List.range ops.size).filter (fun j => !lst.getD j true)).length ≤ f → I (fun j => lst.getD j false) c u → wpAny P .any ops Q f lst c u := by
  have hdone : ∀ (lst : Array Bool), lst.size = ops.size → Region.ready .any ops lst = [] → ∀ i, i < ops.size → lst.getD i false = true := fun lst hs hr i => by
    induction i using Nat.strongRecOn with
    | _ i ih =>
      intro hi
      cases hl : lst.getD i false with
      | true => rfl
      | false =>
        exfalso
        have hmem : i ∈ Region.ready .any ops lst := by
          rw [mem_ready]
          refine ⟨?_, ops[i], Array.getElem?_eq_getElem hi, fun e he _ => ?_⟩
          · rw [Array.getD_eq_getD_getElem?, Array.getElem?_eq_getElem (by omega)] at hl ⊢; exact hl
          · unfold backward at hb
            rw [List.all_eq_true] at hb
            have h1 := hb i (List.mem_range.2 hi)
            rw [Array.getElem?_eq_getElem hi] at h1
            simp only [Option.map_some, Option.getD_some, Array.all_eq_true_iff_forall_mem, decide_eq_true_eq] at h1
            have h2 := h1 e (by simpa using he)
            exact ih e.on h2 (by omega)
        rw [hr] at hmem
        cases hmem
  induction f with
  | zero =>
    intro lst c u hs hf hI
    have hall : ∀ i, i < ops.size → lst.getD i true = true := fun i hi => by
      cases h : lst.getD i true with
      | true => rfl
      | false =>
        have : i ∈ (List.range ops.size).filter (fun j => !lst.getD j true) := by
          rw [List.mem_filter, List.mem_range]; exact ⟨hi, by rw [h]; rfl⟩
        have := List.length_pos_of_mem this
        omega
    have hr : Region.ready .any ops lst = [] := by
      rw [List.eq_nil_iff_forall_not_mem]
      intro i hi
      obtain ⟨h1, o, ho, _⟩ := mem_ready.1 hi
      rw [hall i (Array.getElem?_eq_some_iff.1 ho).1] at h1
      cases h1
    exact ⟨hr, hend _ c u (hdone lst hs hr) hI⟩
  | succ f ih =>
    intro lst c u hs hf hI
    refine ⟨fun hr => hend _ c u (hdone lst hs hr) hI, fun i hi => ?_⟩
    obtain ⟨hun, o, ho, hall⟩ := mem_ready.1 hi
    have hio : i < ops.size := (Array.getElem?_eq_some_iff.1 ho).1
    have hunf : lst.getD i false = false := by
      rw [Array.getD_eq_getD_getElem?, Array.getElem?_eq_getElem (by omega)] at hun ⊢; exact hun
    refine wpOp_step ho (fun K' hK => hstep (fun j => lst.getD j false) c u i o ho hunf hall hI K' (fun c' u' hI' => hK c' u' (ih _ c' u' (by rw [Array.size_setIfInBounds]; exact hs) ?_ ?_)))
    · have := len_filter_lt (fun j => !(lst.setIfInBounds i true).getD j true) (fun j => !lst.getD j true) ops.size i hio (fun j hj => by
        by_cases e : i = j
        · subst e
          rw [Array.getD_eq_getD_getElem?, Array.getElem?_setIfInBounds_self_of_lt (by omega)] at hj
          cases hj
        · rw [getD_set_ne true e] at hj; exact hj) (by
        show (!(lst.setIfInBounds i true).getD i true) = false
        rw [Array.getD_eq_getD_getElem?, Array.getElem?_setIfInBounds_self_of_lt (by omega)]; rfl) (by show (!lst.getD i true) = true; rw [hun]; rfl)
      omega
    · have e : (fun j => (lst.setIfInBounds i true).getD j false) = also (fun j => lst.getD j false) i := by
        funext j
        unfold also
        by_cases e : j = i
        · subst e
          rw [if_pos rfl, Array.getD_eq_getD_getElem?, Array.getElem?_setIfInBounds_self_of_lt (by omega)]; rfl
        · rw [if_neg e, getD_set_ne false (Ne.symm e)]
      rw [e]; exact hI'
/-- The law. -/
theorem wp_region_inv {id : Nat} {a : Act} {w : World} (I : (Nat → Bool) → Act → World → Prop) (hm : P.follows .mixedOrders = true) (hb : backward ops = true) (hstart : I (fun _ => false) a w.drew)
    (hstep : ∀ b c u i o, ops[i]? = some o → b i = false → (∀ e ∈ o.after, Region.binds .any e = true → b e.on = true) → I b c u → ∀ K' : Act → World → Prop, (∀ c' u', I (also b i) c' u' → K' c' u') → if Region.wanted o (yielded ops c.tmps) = true then Oper.wp P o c u K' Q else K' (c.put o.dst undef) u)
    (hend : ∀ b c u, (∀ i, i < ops.size → b i = true) → I b c u → Q .normal c u) : (Code.region id ops true).wp P Q a w := by
  refine wp_region_any hm (inv_any I hb hstep hend ops.size _ a _ (by simp) ?_ ?_)
  · exact Nat.le_trans (List.length_filter_le _ _) (by simp)
  · have e : (fun j => (Array.replicate ops.size false).getD j false) = fun _ => false := by
      funext j
      rw [Array.getD_eq_getD_getElem?, Array.getElem?_replicate]
      split <;> rfl
    rw [e]; exact hstart
end
end Go.Proofs.Ytamijjpnklbgnaa

/-
  Results of calls and the boxes that they are stored into, in whatever order calls, boxes and stores come up. Plain memory.
-/
namespace Go.Proofs.Ytamijjpnklbgnaa
open Go.RowKit
set_option linter.unusedSimpArgs false
set_option linter.unusedVariables false
def zeroCs : List Value := [.int .i64 0, .slice none 0 0, .slice none 0 0]
def upd {α : Type} (f : Nat → α) (j : Nat) (v : α) : Nat → α := fun i => if i = j then v else f i
theorem upd_same {α : Type} (f : Nat → α) (j : Nat) (v : α) : upd f j v j = v := if_pos rfl
theorem upd_ne {α : Type} (f : Nat → α) {i j : Nat} (v : α) (h : i ≠ j) : upd f j v i = f i := if_neg h
/-- got j: the cells of the result of call j; box j: the block of box j; full j: the result is stored. -/
structure Bx (B : Nat) (w1 u : World) (D : Nat → Circ) (got : Nat → Option (List Value)) (box : Nat → Option Nat) (full : Nat → Bool) : Prop where
  below : Below B w1 u
  size : B ≤ u.heap.size
  gotOk : ∀ j l, got j = some l → ∃ GA OA gn gc on oc, l = [.int .i64 (D j).inputs, .slice GA gn gc, .slice OA on oc] ∧ CAt u (D j) GA OA gn on ∧ ∀ i x, box i = some x → NotIn GA gn x ∧ NotIn OA on x
  boxOk : ∀ j x, box j = some x → B ≤ x ∧ ∃ l, Row u x 25 l ∧ (full j = false → l = zeroCs) ∧ (full j = true → got j = some l)
  inj : ∀ i j x, box i = some x → box j = some x → i = j
  fullOk : ∀ j, full j = true → (got j).isSome = true ∧ (box j).isSome = true
section
variable {B : Nat} {w1 u u' : World} {D : Nat → Circ} {got : Nat → Option (List Value)} {box : Nat → Option Nat} {full : Nat → Bool}
theorem Bx.start (hb : Below B w1 u) (hs : B ≤ u.heap.size) : Bx B w1 u D (fun _ => none) (fun _ => none) (fun _ => false) :=
  ⟨hb, hs, fun _ _ h => (by cases h), fun _ _ h => (by cases h), fun _ _ _ h => (by cases h), fun _ h => (by cases h)⟩
theorem Rd.notIn {w : World} {sz n : Nat} {A : Option Addr} {xs : List Value} (h : Rd w w.heap.size sz A n xs) : NotIn A n w.heap.size := fun ad e hn => by
  obtain ⟨ad', e', hb, _⟩ := h.2 hn
  cases e.symm.trans e'
  omega
theorem Bx.call (h : Bx B w1 u D got box full) (j : Nat) (hj : got j = none) (hb : Below u.heap.size u u') {GA OA : Option Addr} {gn gc on oc : Nat} (hc : CAt u' (D j) GA OA gn on)
    (hG : ∀ x, B ≤ x → x < u.heap.size → NotIn GA gn x) (hO : ∀ x, B ≤ x → x < u.heap.size → NotIn OA on x) :
    Bx B w1 u' D (upd got j (some [.int .i64 (D j).inputs, .slice GA gn gc, .slice OA on oc])) box full := by
  have hf : full j = false := by
    cases hh : full j with
    | false => rfl
    | true => have := (h.fullOk j hh).1; rw [hj] at this; cases this
  refine ⟨h.below.trans (hb.mono h.size), Nat.le_trans h.size hb.size, fun i l hl => ?_, fun i x hx => ?_, h.inj, fun i hi => ⟨?_, (h.fullOk i hi).2⟩⟩
  rotate_left 2
  · by_cases e : i = j
    · subst e; rw [upd_same]; rfl
    · rw [upd_ne _ _ e]; exact (h.fullOk i hi).1
  · by_cases e : i = j
    · subst e
      rw [upd_same] at hl
      cases hl
      refine ⟨GA, OA, gn, gc, on, oc, rfl, hc, fun i x hx => ?_⟩
      obtain ⟨h1, l, h2, _⟩ := h.boxOk i x hx
      exact ⟨hG x h1 h2.lt, hO x h1 h2.lt⟩
    · rw [upd_ne _ _ e] at hl
      obtain ⟨a, b, c, d, e, f, h1, h2, h3⟩ := h.gotOk i l hl
      exact ⟨a, b, c, d, e, f, h1, h2.up hb, h3⟩
  · obtain ⟨h1, l, h2, h3, h4⟩ := h.boxOk i x hx
    refine ⟨h1, l, rowCells h2 hb, h3, fun hi => ?_⟩
    by_cases e : i = j
    · subst e; rw [hf] at hi; cases hi
    · rw [upd_ne _ _ e]; exact h4 hi
theorem Bx.alloc (h : Bx B w1 u D got box full) (j : Nat) (hj : box j = none) : Bx B w1 (u.alloc (.cells zeroCs.toArray 25)) D got (upd box j (some u.heap.size)) full := by
  have hb : Below u.heap.size u (u.alloc (.cells zeroCs.toArray 25)) := (Below.refl _ _).alloc (Nat.le_refl _) _
  have hf : full j = false := by
    cases hh : full j with
    | false => rfl
    | true => have := (h.fullOk j hh).2; rw [hj] at this; cases this
  refine ⟨h.below.trans (hb.mono h.size), Nat.le_trans h.size hb.size, fun i l hl => ?_, fun i x hx => ?_, fun i k x hi hk => ?_, fun i hi => ⟨(h.fullOk i hi).1, ?_⟩⟩
  rotate_left 3
  · by_cases e : i = j
    · subst e; rw [upd_same]; rfl
    · rw [upd_ne _ _ e]; exact (h.fullOk i hi).2
  · obtain ⟨a, b, c, d, e, f, h1, h2, h3⟩ := h.gotOk i l hl
    refine ⟨a, b, c, d, e, f, h1, h2.up hb, fun k x hx => ?_⟩
    by_cases e : k = j
    · subst e
      rw [upd_same] at hx
      cases hx
      exact ⟨h2.gates.notIn, h2.outs.notIn⟩
    · rw [upd_ne _ _ e] at hx
      exact h3 k x hx
  · by_cases e : i = j
    · subst e
      rw [upd_same] at hx
      cases hx
      exact ⟨h.size, zeroCs, Row.new _ _ _, fun _ => rfl, fun hi => by rw [hf] at hi; cases hi⟩
    · rw [upd_ne _ _ e] at hx
      obtain ⟨h1, l, h2, h3⟩ := h.boxOk i x hx
      exact ⟨h1, l, h2.alloc _, h3⟩
  · have hlt : ∀ i x, box i = some x → x < u.heap.size := fun i x hx => by obtain ⟨_, l, h2, _⟩ := h.boxOk i x hx; exact h2.lt
    by_cases e : i = j
    · by_cases e' : k = j
      · omega
      · subst e
        rw [upd_same] at hi
        rw [upd_ne _ _ e'] at hk
        cases hi
        exact absurd (hlt k _ hk) (Nat.lt_irrefl _)
    · rw [upd_ne _ _ e] at hi
      by_cases e' : k = j
      · subst e'
        rw [upd_same] at hk
        cases hk
        exact absurd (hlt i _ hi) (Nat.lt_irrefl _)
      · rw [upd_ne _ _ e'] at hk
        exact h.inj i k x hi hk
theorem Bx.set1 (h : Bx B w1 u D got box full) {x : Nat} {j : Nat} (hx : box j = some x) (p : Addr) (hp : p.block = x) (v : Value) :
    Below B w1 (u.setCell p v) ∧ (∀ i l, got i = some l → ∃ GA OA gn gc on oc, l = [.int .i64 (D i).inputs, .slice GA gn gc, .slice OA on oc] ∧ CAt (u.setCell p v) (D i) GA OA gn on ∧ ∀ i x, box i = some x → NotIn GA gn x ∧ NotIn OA on x)
      ∧ (∀ i y, box i = some y → i ≠ j → B ≤ y ∧ ∃ l, Row (u.setCell p v) y 25 l ∧ (full i = false → l = zeroCs) ∧ (full i = true → got i = some l)) := by
  obtain ⟨hB, _⟩ := h.boxOk j x hx
  refine ⟨h.below.setCell (by omega) _, fun i l hl => ?_, fun i y hy hne => ?_⟩
  · obtain ⟨a, b, c, d, e, f, h1, h2, h3⟩ := h.gotOk i l hl
    exact ⟨a, b, c, d, e, f, h1, h2.farSet (by rw [hp]; exact (h3 j x hx).1) (by rw [hp]; exact (h3 j x hx).2) v, h3⟩
  · obtain ⟨h1, l, h2, h3⟩ := h.boxOk i y hy
    exact ⟨h1, l, h2.far (by rw [hp]; intro e; subst e; exact hne (h.inj i j y hy hx)) v, h3⟩
theorem Bx.store (h : Bx B w1 u D got box full) (j : Nat) {x : Nat} {l0 l1 l2 : Value} (hx : box j = some x) (hg : got j = some [l0, l1, l2]) (hf : full j = false) :
    Bx B w1 (((u.setCell ⟨x, 0, none⟩ l0).setCell ⟨x, 1, none⟩ l1).setCell ⟨x, 2, none⟩ l2) D got box (upd full j true) := by
  obtain ⟨hB, l, hrow, hz, _⟩ := h.boxOk j x hx
  have hz := hz hf
  subst hz
  have hgot : ∀ (v : Value) (k : Nat) (u : World), (∀ i l, got i = some l → ∃ GA OA gn gc on oc, l = [.int .i64 (D i).inputs, .slice GA gn gc, .slice OA on oc] ∧ CAt u (D i) GA OA gn on ∧ ∀ i x, box i = some x → NotIn GA gn x ∧ NotIn OA on x) →
      (∀ i l, got i = some l → ∃ GA OA gn gc on oc, l = [.int .i64 (D i).inputs, .slice GA gn gc, .slice OA on oc] ∧ CAt (u.setCell ⟨x, k, none⟩ v) (D i) GA OA gn on ∧ ∀ i x, box i = some x → NotIn GA gn x ∧ NotIn OA on x) := fun v k u H i l hl => by
    obtain ⟨a, b, c, d, e, f, h1, h2, h3⟩ := H i l hl
    exact ⟨a, b, c, d, e, f, h1, h2.farSet (p := ⟨x, k, none⟩) (h3 j x hx).1 (h3 j x hx).2 v, h3⟩
  refine ⟨((h.below.setCell (p := ⟨x, 0, none⟩) hB _).setCell (p := ⟨x, 1, none⟩) hB _).setCell (p := ⟨x, 2, none⟩) hB _, by simp only [World.size_setCell]; exact h.size, hgot _ 2 _ (hgot _ 1 _ (hgot _ 0 _ h.gotOk)), fun i y hy => ?_, h.inj, fun i hi => ?_⟩
  rotate_left 1
  · by_cases e : i = j
    · subst e; exact ⟨by rw [hg]; rfl, by rw [hx]; rfl⟩
    · rw [upd_ne _ _ e] at hi; exact h.fullOk i hi
  by_cases e : i = j
  · subst e
    obtain rfl : x = y := Option.some.inj (hx.symm.trans hy)
    refine ⟨hB, [l0, l1, l2], ((hrow.set 0 l0).set 1 l1).set 2 l2, fun hi => (by rw [upd_same] at hi; cases hi), fun _ => hg⟩
  · obtain ⟨h1, l, h2, h3⟩ := h.boxOk i y hy
    have hne : y ≠ x := fun e2 => by subst e2; exact e (h.inj i j y hy hx)
    refine ⟨h1, l, ((h2.far (p := ⟨x, 0, none⟩) hne _).far (p := ⟨x, 1, none⟩) hne _).far (p := ⟨x, 2, none⟩) hne _, ?_⟩
    rw [upd_ne _ _ e]; exact h3
theorem OldNew.sep {A GA : Option Addr} {n gn lo B : Nat} (h : OldNew A n GA gn lo) (hold : ∀ x, B ≤ x → NotIn GA gn x) : ∀ x, B ≤ x → x < lo → NotIn A n x := fun x h1 h2 ad ea hn => by
  rcases h ad ea hn with ⟨ad2, e2, hn2, e3⟩ | h3
  · rw [← e3]; exact hold x h1 ad2 e2 hn2
  · omega
end
end Go.Proofs.Ytamijjpnklbgnaa

/-
  The law: the results of all four functions are valid, have the same outputs, and not more gates; walked.
-/
namespace Go.Proofs.Ytamijjpnklbgnaa
open Go.RowKit
set_option linter.unusedSimpArgs false
set_option linter.unusedVariables false
theorem foldC_in {c : Circ} (h : rightC c = true) : (foldC c).inputs = c.inputs := by rw [foldC_eq h]; rfl
theorem shareC_in {c : Circ} (h : rightC c = true) : (shareC c).inputs = c.inputs := by rw [shareC_eq h]; rfl
theorem trimC_in {c : Circ} (h : rightC c = true) : (trimC c).inputs = c.inputs := by rw [trimC_eq h]; rfl
theorem bools_oneZ (l : List Bool) : ∀ u ∈ bools l, u.oneCell' = true := by
  intro u hu
  obtain ⟨b, _, rfl⟩ := List.mem_map.1 hu
  rfl
theorem boolsZ_append (a b : List Bool) : bools (a ++ b) = bools a ++ bools b := by simp [bools]
theorem splice_bools (N m : Nat) (l : List Bool) (hl : l.length ≤ N) : ∃ r : List Bool, r.length = N ∧ splice (bools (List.replicate N false)) 0 (bools l) = bools r := by
  refine ⟨l ++ List.replicate (N - l.length) false, by simp; omega, ?_⟩
  unfold splice
  rw [boolsZ_append]
  simp [bools]
set_option maxRecDepth 100000 in
set_option maxHeartbeats 16000000 in
theorem lawKeeps_any (c : Circ) (GA OA IA : Option Addr) (gn gc on oc n ic : Nat) (ins : List Bool) (w : World) (hc : CAt w c GA OA gn on) (hI : Rd w w.heap.size 1 IA n (bools ins)) (hnm : n ≤ maxLen) :
    Calls Try.prog 7 #[.agg #[.int .i64 c.inputs, .slice GA gn gc, .slice OA on oc], .slice IA n ic] w fun e w' => e = .returned (.bool true) ∧ Below w.heap.size w w' := by
  have HI : Hid (Rd w w.heap.size 1 IA n (bools ins)) := hI
  have HIL : Hid (∀ _ : Unit, ins.length = n) := fun _ => by have := hI.1; simp [bools] at this; omega
  unfold maxLen at hnm
  clear hI
  have HC0 : Hid (CAt w c GA OA gn on) := hc
  have HF1 : gn ≤ maxLen := hc.g63
  have HF2 : on ≤ maxLen := hc.o63
  obtain ⟨qf, hqf⟩ : ∃ q, fewB c gn on = q := ⟨_, rfl⟩
  have HFEW : Hid (∀ _ : Unit, fewB c gn on = qf) := fun _ => hqf
  clear hc hqf
  go_enter Try.func7, Try.ntmps7
  go_upto_region 1 with fail
  have RC : Hid (Row (World.alloc w (.cells #[.int .i64 c.inputs, .slice GA gn gc, .slice OA on oc] 25)) (w.heap.size) 25 [.int .i64 c.inputs, .slice GA gn gc, .slice OA on oc]) := by
    have h0 := Row.new w 25 [.int .i64 c.inputs, .slice GA gn gc, .slice OA on oc]
    try simp only [World.size_alloc] at h0
    exact h0
  have hgr9 : Below w.heap.size w (World.alloc w (.cells #[.int .i64 c.inputs, .slice GA gn gc, .slice OA on oc] 25)) := by go_grown
  have B_w : Hid (Below w.heap.size w (World.alloc w (.cells #[.int .i64 c.inputs, .slice GA gn gc, .slice OA on oc] 25))) := hgr9
  clear hgr9
  revert RC B_w
  generalize (World.alloc w (.cells #[.int .i64 c.inputs, .slice GA gn gc, .slice OA on oc] 25)) = wa
  intro RC B_w
  have kR : Hid (Row wa (w.heap.size) 25 [.int .i64 c.inputs, .slice GA gn gc, .slice OA on oc]) := RC.out
  have k0 := kR.out.cell 0
  have k1 := kR.out.cell 1
  have k2 := kR.out.cell 2
  have kl := kR.out.lt
  simp only [List.getElem?_cons_zero, List.getElem?_cons_succ] at k0 k1 k2
  clear kR
  go_wp2_with fail
  have HC := fewZ_any c GA OA gn gc on oc wa HF1 HF2
  rw [HFEW.out ()] at HC
  refine HC.mono ?_
  clear HC
  rintro e w1 ⟨rfl, hb⟩
  have B_w : Hid (Below w.heap.size w w1) := below_on2 B_w.out hb
  have B_wa : Hid (Below wa.heap.size wa w1) := hb
  clear k0 k1 k2 kl
  clear hb
  cases qf
  · go_wp2_with fail
    refine (awake_any w1).mono ?_
    rintro e y1 ⟨rfl, hb⟩
    have B_w : Hid (Below w.heap.size w y1) := below_on2 B_w.out hb
    have B_wa : Hid (Below wa.heap.size wa y1) := below_on2 B_wa.out hb
    have B_w1 : Hid (Below w1.heap.size w1 y1) := hb
    clear hb
    go_wp2_with fail
    go_ret
    exact ⟨rfl, B_w.out⟩
  have kR : Hid (Row w1 (w.heap.size) 25 [.int .i64 c.inputs, .slice GA gn gc, .slice OA on oc]) := (rowCells RC.out B_wa.out)
  have k0 := kR.out.cell 0
  have k1 := kR.out.cell 1
  have k2 := kR.out.cell 2
  have kl := kR.out.lt
  simp only [List.getElem?_cons_zero, List.getElem?_cons_succ] at k0 k1 k2
  clear kR
  go_wp2_with fail
  obtain ⟨q, hq⟩ : ∃ q, rightC c = q := ⟨_, rfl⟩
  have HQ : Hid (∀ _ : Unit, rightC c = q) := fun _ => hq
  have HC := rRightZ_at c GA OA gn gc on oc w1 (HC0.out.up B_w.out)
  rw [hq] at HC
  clear hq
  refine HC.mono ?_
  clear HC
  rintro e w2 ⟨rfl, hb⟩
  have B_w : Hid (Below w.heap.size w w2) := below_on2 B_w.out hb
  have B_wa : Hid (Below wa.heap.size wa w2) := below_on2 B_wa.out hb
  have B_w1 : Hid (Below w1.heap.size w1 w2) := hb
  clear k0 k1 k2 kl
  clear hb
  cases q
  · go_wp2_with fail
    refine (awake_any w2).mono ?_
    rintro e y1 ⟨rfl, hb⟩
    have B_w : Hid (Below w.heap.size w y1) := below_on2 B_w.out hb
    have B_wa : Hid (Below wa.heap.size wa y1) := below_on2 B_wa.out hb
    have B_w1 : Hid (Below w1.heap.size w1 y1) := below_on2 B_w1.out hb
    have B_w2 : Hid (Below w2.heap.size w2 y1) := hb
    clear hb
    go_wp2_with fail
    go_ret
    exact ⟨rfl, B_w.out⟩
  have HR : Hid (rightC c = true) := HQ.out ()
  clear HQ
  by_cases hn1 : 100 < n
  · have hd1 : decide ((100 : Int) < (n : Int)) = true := decide_eq_true (by omega)
    go_wp2_with fail
    refine (awake_any w2).mono ?_
    rintro e y1 ⟨rfl, hb⟩
    have B_w : Hid (Below w.heap.size w y1) := below_on2 B_w.out hb
    have B_wa : Hid (Below wa.heap.size wa y1) := below_on2 B_wa.out hb
    have B_w1 : Hid (Below w1.heap.size w1 y1) := below_on2 B_w1.out hb
    have B_w2 : Hid (Below w2.heap.size w2 y1) := hb
    clear hb
    go_wp2_with fail
    go_ret
    exact ⟨rfl, B_w.out⟩
  have hd1 : decide ((100 : Int) < (n : Int)) = false := decide_eq_false (by omega)
  have hR1 := (rightC_parts HR.out).1
  obtain ⟨N, hN⟩ : ∃ N : Nat, c.inputs = (N : Int) := ⟨c.inputs.toNat, by omega⟩
  have hN1 : N ≤ 1000 := by omega
  have HN : Hid (∀ _ : Unit, c.inputs = (N : Int)) := fun _ => hN
  have HGL : Hid (∀ _ : Unit, c.gates.length = gn) := fun _ => HC0.out.gl
  clear hR1
  have RC2 : Hid (Row w2 w.heap.size 25 [.int .i64 c.inputs, .slice GA gn gc, .slice OA on oc]) := rowCells RC.out B_wa.out
  have k0 : w2.cell? ⟨w.heap.size, 0, none⟩ = some (.int .i64 (N : Int)) := by rw [← hN]; exact RC2.out.cell 0
  have kl := RC2.out.lt
  clear hN
  have hmk := fun W => make_like (P := Try.prog) Try.underlying30 bool_infoZ rfl N (N : Int) rfl (by omega) (by omega) W
  go_upto_region 4 with fail
  clear hmk k0 kl hd1
  have RI3 : Hid (Row (World.alloc w2 (.cells (likeRow (.bool false) N) 4)) w2.heap.size 4 (bools (List.replicate N false))) := falseRow w2 N _
  have hszI : w2.heap.size < (World.alloc w2 (.cells (likeRow (.bool false) N) 4)).heap.size := RI3.out.lt
  have C_w := B_w
  have C_wa := B_wa
  have C_w1 := B_w1
  have hgr9 : Below w2.heap.size w2 ((World.alloc w2 (.cells (likeRow (.bool false) N) 4))) := by go_grown
  have B_w : Hid (Below w.heap.size w ((World.alloc w2 (.cells (likeRow (.bool false) N) 4)))) := below_on2 B_w.out hgr9
  have B_wa : Hid (Below wa.heap.size wa ((World.alloc w2 (.cells (likeRow (.bool false) N) 4)))) := below_on2 B_wa.out hgr9
  have B_w1 : Hid (Below w1.heap.size w1 ((World.alloc w2 (.cells (likeRow (.bool false) N) 4)))) := below_on2 B_w1.out hgr9
  have B_w2 : Hid (Below w2.heap.size w2 ((World.alloc w2 (.cells (likeRow (.bool false) N) 4)))) := hgr9
  clear hgr9
  revert RI3 hszI B_w B_wa B_w1 B_w2
  generalize (World.alloc w2 (.cells (likeRow (.bool false) N) 4)) = w3
  intro RI3 hszI B_w B_wa B_w1 B_w2
  have HS : Hid (∃ r : List Bool, r.length = N ∧ splice (bools (List.replicate N false)) 0 (bools (ins.take N)) = bools r) := splice_bools N 0 (ins.take N) (by rw [List.length_take]; omega)
  go_wp2_with (with_reducible refine wpList_copy_splice rfl (.tmp 28) (.tmp 29) 30 30 rfl 4 Try.underlying30 (by kernel_rfl) (some ⟨w2.heap.size, 0, none⟩) IA N N n ic rfl rfl w2.heap.size 0 (bools (List.replicate N false)) 4 ?hg (bools (ins.take N)) ?hn ?hpos ?hfit (bools_oneZ _) w2.heap.size w3 ?hb (Nat.le_refl _) ?_)
  case hg => exact RI3.out
  case hn => rw [bools, List.length_map, List.length_take, HIL.out ()]; exact Nat.min_comm _ _
  case hpos =>
    intro hp
    obtain ⟨ad, e, hb, hcc⟩ := (HI.out.up B_w.out).ex (by simp [bools, HIL.out ()] at hp; omega)
    exact ⟨ad, e, fun j v hv => hcc j v (by
      have : (bools (ins.take N)) = (bools ins).take N := by simp [bools, List.map_take]
      rw [this, List.getElem?_take] at hv
      split at hv
      · exact hv
      · cases hv)⟩
  case hfit => simp [bools]; omega
  case hb => exact Below.refl _ _
  intro w4 hI4 hb4
  obtain ⟨inL, hinl, hsp⟩ := HS.out
  have RI4 : Hid (Row w4 w2.heap.size 4 (bools inL)) := (by have := hI4.out; rw [hsp] at this; exact this)
  have hszw4 : w2.heap.size < w4.heap.size := RI4.out.lt
  have B_w : Hid (Below w.heap.size w w4) := below_on2 C_w.out (B_w2.out.trans hb4)
  have B_wa : Hid (Below wa.heap.size wa w4) := below_on2 C_wa.out (B_w2.out.trans hb4)
  have B_w1 : Hid (Below w1.heap.size w1 w4) := below_on2 C_w1.out (B_w2.out.trans hb4)
  have B_w2 : Hid (Below w2.heap.size w2 w4) := (B_w2.out.trans hb4)
  clear C_w C_wa C_w1
  clear hb4 hI4 hsp HS RI3 hszI
  have RC4 : Hid (Row w4 w.heap.size 25 [.int .i64 c.inputs, .slice GA gn gc, .slice OA on oc]) := (rowCells RC.out B_wa.out)
  have HN1 : Hid (∀ x, w4.heap.size ≤ x → NotIn GA gn x) := fun x hx => HC0.out.gates.low (Nat.le_trans B_w.out.size hx)
  have HN2 : Hid (∀ x, w4.heap.size ≤ x → NotIn OA on x) := fun x hx => HC0.out.outs.low (Nat.le_trans B_w.out.size hx)
  go_wp2_with fail
  have HINL : Hid (∀ _ : Unit, inL.length = N) := fun _ => hinl
  clear hinl
  have HFL : Hid (∀ _ : Unit, (foldC c).gates.length = gn ∧ (shareC c).gates.length = gn ∧ (trimC c).gates.length ≤ gn ∧ (allC c).gates.length ≤ (trimC c).gates.length) := fun _ => by
    have e := HGL.out ()
    exact ⟨(foldC_gl HR.out).trans e, (shareC_gl HR.out).trans e, e ▸ trim_le HR.out, all_gates HR.out⟩
  refine wp_region_inv (fun b cc u => ∃ (got : Nat → Option (List Value)) (box : Nat → Option Nat) (full : Nat → Bool) (v31 v33 v35 v37 v32 v34 v36 v38 v6 v7 v8 v9 : Value), Bx w4.heap.size w4 u (fun j => if j = 0 then foldC c else if j = 1 then shareC c else if j = 2 then trimC c else if j = 3 then allC c else c) got box full ∧ ((got 0).isSome = b 1) ∧ ((got 1).isSome = b 3) ∧ ((got 2).isSome = b 5) ∧ ((got 3).isSome = b 7) ∧ ((box 0).isSome = b 8) ∧ ((box 1).isSome = b 9) ∧ ((box 2).isSome = b 10) ∧ ((box 3).isSome = b 11) ∧ (full 0 = b 12) ∧ (full 1 = b 13) ∧ (full 2 = b 14) ∧ (full 3 = b 15) ∧ (b 0 = true → v31 = .agg #[.int .i64 c.inputs, .slice GA gn gc, .slice OA on oc]) ∧ (b 2 = true → v33 = .agg #[.int .i64 c.inputs, .slice GA gn gc, .slice OA on oc]) ∧ (b 4 = true → v35 = .agg #[.int .i64 c.inputs, .slice GA gn gc, .slice OA on oc]) ∧ (b 6 = true → v37 = .agg #[.int .i64 c.inputs, .slice GA gn gc, .slice OA on oc]) ∧ (∀ l, got 0 = some l → v32 = .agg l.toArray) ∧ (∀ l, got 1 = some l → v34 = .agg l.toArray) ∧ (∀ l, got 2 = some l → v36 = .agg l.toArray) ∧ (∀ l, got 3 = some l → v38 = .agg l.toArray) ∧ (∀ x, box 0 = some x → v6 = .pointer (some ⟨x, 0, none⟩)) ∧ (∀ x, box 1 = some x → v7 = .pointer (some ⟨x, 0, none⟩)) ∧ (∀ x, box 2 = some x → v8 = .pointer (some ⟨x, 0, none⟩)) ∧ (∀ x, box 3 = some x → v9 = .pointer (some ⟨x, 0, none⟩)) ∧ cc = { tmps := #[.agg #[.int .i64 c.inputs, .slice GA gn gc, .slice OA on oc], .slice IA n ic, .pointer (some ⟨w.heap.size, 0, none⟩), undef, .bool false, .slice (some ⟨w2.heap.size, 0, none⟩) N N, v6, v7, v8, v9, undef, .agg #[.int .i64 c.inputs, .slice GA gn gc, .slice OA on oc], .bool true, .bool false, .bool false, .agg #[.int .i64 c.inputs, .slice GA gn gc, .slice OA on oc], .bool true, .bool false, .bool false, .bool false, .slice IA n ic, .int .i64 n, .bool false, .bool false, undef, .pointer (some ⟨w.heap.size, 0, none⟩), .int .i64 N, .slice (some ⟨w2.heap.size, 0, none⟩) N N, .slice (some ⟨w2.heap.size, 0, none⟩) N N, .slice IA n ic, .int .i64 ((min N ins.length : Nat) : Int), v31, v32, v33, v34, v35, v36, v37, v38, undef, undef, undef, undef, undef, undef, undef, undef, undef, undef, undef, undef, undef, undef, undef, undef, undef, undef, undef, undef, undef, undef, undef, undef, undef, undef, undef, undef, undef, undef, undef, undef, undef, undef, undef, undef, undef, undef, undef, undef, undef, undef, undef, undef, undef, undef, undef, undef, undef, undef, undef, undef, undef, undef, undef, undef, undef, undef, undef, undef, undef, undef, undef, undef, undef, undef, undef, undef, undef, undef, undef, undef, undef, undef, undef, undef], defers := [] }) (by kernel_rfl) (by kernel_rfl) ?start ?step ?fin
  case start =>
    exact ⟨fun _ => none, fun _ => none, fun _ => false, undef, undef, undef, undef, undef, undef, undef, undef, undef, undef, undef, undef, Bx.start (Below.refl _ _).drew (Nat.le_refl _), rfl, rfl, rfl, rfl, rfl, rfl, rfl, rfl, rfl, rfl, rfl, rfl, fun h => (by cases h), fun h => (by cases h), fun h => (by cases h), fun h => (by cases h), fun _ h => (by cases h), fun _ h => (by cases h), fun _ h => (by cases h), fun _ h => (by cases h), fun _ h => (by cases h), fun _ h => (by cases h), fun _ h => (by cases h), fun _ h => (by cases h), rfl⟩
  case step =>
    intro b cc u i o ho hbi hpre hI K9 hK9
    obtain ⟨got, box, full, v31, v33, v35, v37, v32, v34, v36, v38, v6, v7, v8, v9, HBx, hg0, hg1, hg2, hg3, hx0, hx1, hx2, hx3, hf0, hf1, hf2, hf3, hl0, hl1, hl2, hl3, hv0, hv1, hv2, hv3, hp0, hp1, hp2, hp3, rfl⟩ := hI
    have hi : i < 16 := (Array.getElem?_eq_some_iff.1 ho).1
    have HK : Hid (∀ c2 u2, _ → K9 c2 u2) := hK9
    clear hK9
    have hB : Below w4.heap.size w4 u := HBx.below
    have hs0 : w4.heap.size ≤ u.heap.size := HBx.size
    have HBx : Hid (Bx _ _ _ _ _ _ _) := HBx
    obtain rfl | rfl | rfl | rfl | rfl | rfl | rfl | rfl | rfl | rfl | rfl | rfl | rfl | rfl | rfl | rfl : i = 0 ∨ i = 1 ∨ i = 2 ∨ i = 3 ∨ i = 4 ∨ i = 5 ∨ i = 6 ∨ i = 7 ∨ i = 8 ∨ i = 9 ∨ i = 10 ∨ i = 11 ∨ i = 12 ∨ i = 13 ∨ i = 14 ∨ i = 15 := by omega
    · obtain rfl := Option.some.inj ho
      have RCu : Hid (Row u w.heap.size 25 [.int .i64 c.inputs, .slice GA gn gc, .slice OA on oc]) := (RC4.out).below hB (RC4.out).lt
      have k0 := RCu.out.cell 0
      have k1 := RCu.out.cell 1
      have k2 := RCu.out.cell 2
      have kl := RCu.out.lt
      simp only [List.getElem?_cons_zero, List.getElem?_cons_succ] at k0 k1 k2
      clear RCu
      go_simp
      exact HK.out _ _ ⟨got, box, full, .agg #[.int .i64 c.inputs, .slice GA gn gc, .slice OA on oc], v33, v35, v37, v32, v34, v36, v38, v6, v7, v8, v9, HBx.out, hg0, hg1, hg2, hg3, hx0, hx1, hx2, hx3, hf0, hf1, hf2, hf3, fun _ => rfl, hl1, hl2, hl3, hv0, hv1, hv2, hv3, hp0, hp1, hp2, hp3, rfl⟩
    · obtain rfl := Option.some.inj ho
      have p0 := hl0 (hpre ⟨0, .data⟩ (by simp) rfl)
      subst p0
      have hgn : got 0 = none := Option.not_isSome_iff_eq_none.1 (by rw [hg0, hbi]; decide)
      go_simp
      go_at_call 12
      have HCc : CAt u c GA OA gn on := (HC0.out).up (below_on2 B_w.out hB)
      have HC := fold_any c GA OA gn gc on oc u HCc
      refine HC.mono ?_
      clear HC
      rintro e u2 ⟨A1, A2, n1, c1, n2, c2, he, hca, hfa, hfb, hb⟩
      have he2 : e = .returned (.agg #[.int .i64 (foldC c).inputs, .slice A1 n1 c1, .slice A2 n2 c2]) := he
      subst he2
      clear he
      try go_simp
      have HBn : Bx _ _ _ _ _ _ _ := HBx.out.call 0 hgn (gc := c1) (oc := c2) hb hca (fun x h1 h2 => hfa.ne h2) (fun x h1 h2 => hfb.ne h2)
      exact HK.out _ _ ⟨(upd got 0 (some [.int .i64 (foldC c).inputs, .slice A1 n1 c1, .slice A2 n2 c2])), box, full, .agg #[.int .i64 c.inputs, .slice GA gn gc, .slice OA on oc], v33, v35, v37, .agg #[.int .i64 (foldC c).inputs, .slice A1 n1 c1, .slice A2 n2 c2], v34, v36, v38, v6, v7, v8, v9, HBn, rfl, hg1, hg2, hg3, hx0, hx1, hx2, hx3, hf0, hf1, hf2, hf3, fun _ => rfl, hl1, hl2, hl3, fun l h => (by cases h; rfl), hv1, hv2, hv3, hp0, hp1, hp2, hp3, rfl⟩
    · obtain rfl := Option.some.inj ho
      have RCu : Hid (Row u w.heap.size 25 [.int .i64 c.inputs, .slice GA gn gc, .slice OA on oc]) := (RC4.out).below hB (RC4.out).lt
      have k0 := RCu.out.cell 0
      have k1 := RCu.out.cell 1
      have k2 := RCu.out.cell 2
      have kl := RCu.out.lt
      simp only [List.getElem?_cons_zero, List.getElem?_cons_succ] at k0 k1 k2
      clear RCu
      go_simp
      exact HK.out _ _ ⟨got, box, full, v31, .agg #[.int .i64 c.inputs, .slice GA gn gc, .slice OA on oc], v35, v37, v32, v34, v36, v38, v6, v7, v8, v9, HBx.out, hg0, hg1, hg2, hg3, hx0, hx1, hx2, hx3, hf0, hf1, hf2, hf3, hl0, fun _ => rfl, hl2, hl3, hv0, hv1, hv2, hv3, hp0, hp1, hp2, hp3, rfl⟩
    · obtain rfl := Option.some.inj ho
      have p0 := hl1 (hpre ⟨2, .data⟩ (by simp) rfl)
      subst p0
      have hgn : got 1 = none := Option.not_isSome_iff_eq_none.1 (by rw [hg1, hbi]; decide)
      go_simp
      go_at_call 14
      have HCc : CAt u c GA OA gn on := (HC0.out).up (below_on2 B_w.out hB)
      have HC := share_any c GA OA gn gc on oc u HCc
      refine HC.mono ?_
      clear HC
      rintro e u2 ⟨A1, A2, n1, c1, n2, c2, he, hca, hfa, hfb, hb⟩
      have he2 : e = .returned (.agg #[.int .i64 (shareC c).inputs, .slice A1 n1 c1, .slice A2 n2 c2]) := he
      subst he2
      clear he
      try go_simp
      have HBn : Bx _ _ _ _ _ _ _ := HBx.out.call 1 hgn (gc := c1) (oc := c2) hb hca (fun x h1 h2 => hfa.ne h2) (fun x h1 h2 => hfb.ne h2)
      exact HK.out _ _ ⟨(upd got 1 (some [.int .i64 (shareC c).inputs, .slice A1 n1 c1, .slice A2 n2 c2])), box, full, v31, .agg #[.int .i64 c.inputs, .slice GA gn gc, .slice OA on oc], v35, v37, v32, .agg #[.int .i64 (shareC c).inputs, .slice A1 n1 c1, .slice A2 n2 c2], v36, v38, v6, v7, v8, v9, HBn, hg0, rfl, hg2, hg3, hx0, hx1, hx2, hx3, hf0, hf1, hf2, hf3, hl0, fun _ => rfl, hl2, hl3, hv0, fun l h => (by cases h; rfl), hv2, hv3, hp0, hp1, hp2, hp3, rfl⟩
    · obtain rfl := Option.some.inj ho
      have RCu : Hid (Row u w.heap.size 25 [.int .i64 c.inputs, .slice GA gn gc, .slice OA on oc]) := (RC4.out).below hB (RC4.out).lt
      have k0 := RCu.out.cell 0
      have k1 := RCu.out.cell 1
      have k2 := RCu.out.cell 2
      have kl := RCu.out.lt
      simp only [List.getElem?_cons_zero, List.getElem?_cons_succ] at k0 k1 k2
      clear RCu
      go_simp
      exact HK.out _ _ ⟨got, box, full, v31, v33, .agg #[.int .i64 c.inputs, .slice GA gn gc, .slice OA on oc], v37, v32, v34, v36, v38, v6, v7, v8, v9, HBx.out, hg0, hg1, hg2, hg3, hx0, hx1, hx2, hx3, hf0, hf1, hf2, hf3, hl0, hl1, fun _ => rfl, hl3, hv0, hv1, hv2, hv3, hp0, hp1, hp2, hp3, rfl⟩
    · obtain rfl := Option.some.inj ho
      have p0 := hl2 (hpre ⟨4, .data⟩ (by simp) rfl)
      subst p0
      have hgn : got 2 = none := Option.not_isSome_iff_eq_none.1 (by rw [hg2, hbi]; decide)
      go_simp
      go_at_call 16
      have HCc : CAt u c GA OA gn on := (HC0.out).up (below_on2 B_w.out hB)
      have HC := trim_any c GA OA gn gc on oc u HCc
      refine HC.mono ?_
      clear HC
      rintro e u2 ⟨A1, A2, n1, c1, n2, c2, he, hca, hfa, hfb, hb⟩
      have he2 : e = .returned (.agg #[.int .i64 (trimC c).inputs, .slice A1 n1 c1, .slice A2 n2 c2]) := he
      subst he2
      clear he
      try go_simp
      have HBn : Bx _ _ _ _ _ _ _ := HBx.out.call 2 hgn (gc := c1) (oc := c2) hb hca (fun x h1 h2 => hfa.ne h2) (fun x h1 h2 => hfb.ne h2)
      exact HK.out _ _ ⟨(upd got 2 (some [.int .i64 (trimC c).inputs, .slice A1 n1 c1, .slice A2 n2 c2])), box, full, v31, v33, .agg #[.int .i64 c.inputs, .slice GA gn gc, .slice OA on oc], v37, v32, v34, .agg #[.int .i64 (trimC c).inputs, .slice A1 n1 c1, .slice A2 n2 c2], v38, v6, v7, v8, v9, HBn, hg0, hg1, rfl, hg3, hx0, hx1, hx2, hx3, hf0, hf1, hf2, hf3, hl0, hl1, fun _ => rfl, hl3, hv0, hv1, fun l h => (by cases h; rfl), hv3, hp0, hp1, hp2, hp3, rfl⟩
    · obtain rfl := Option.some.inj ho
      have RCu : Hid (Row u w.heap.size 25 [.int .i64 c.inputs, .slice GA gn gc, .slice OA on oc]) := (RC4.out).below hB (RC4.out).lt
      have k0 := RCu.out.cell 0
      have k1 := RCu.out.cell 1
      have k2 := RCu.out.cell 2
      have kl := RCu.out.lt
      simp only [List.getElem?_cons_zero, List.getElem?_cons_succ] at k0 k1 k2
      clear RCu
      go_simp
      exact HK.out _ _ ⟨got, box, full, v31, v33, v35, .agg #[.int .i64 c.inputs, .slice GA gn gc, .slice OA on oc], v32, v34, v36, v38, v6, v7, v8, v9, HBx.out, hg0, hg1, hg2, hg3, hx0, hx1, hx2, hx3, hf0, hf1, hf2, hf3, hl0, hl1, hl2, fun _ => rfl, hv0, hv1, hv2, hv3, hp0, hp1, hp2, hp3, rfl⟩
    · obtain rfl := Option.some.inj ho
      have p0 := hl3 (hpre ⟨6, .data⟩ (by simp) rfl)
      subst p0
      have hgn : got 3 = none := Option.not_isSome_iff_eq_none.1 (by rw [hg3, hbi]; decide)
      go_simp
      go_at_call 18
      have HCc : CAt u c GA OA gn on := (HC0.out).up (below_on2 B_w.out hB)
      have HC := allF_any c GA OA gn gc on oc u HCc
      refine HC.mono ?_
      clear HC
      rintro e u2 ⟨A1, A2, n1, c1, n2, c2, he, hca, hfa, hfb, hb⟩
      have he2 : e = .returned (.agg #[.int .i64 (allC c).inputs, .slice A1 n1 c1, .slice A2 n2 c2]) := he
      subst he2
      clear he
      try go_simp
      have HBn : Bx _ _ _ _ _ _ _ := HBx.out.call 3 hgn (gc := c1) (oc := c2) hb hca (hfa.sep HN1.out) (hfb.sep HN2.out)
      exact HK.out _ _ ⟨(upd got 3 (some [.int .i64 (allC c).inputs, .slice A1 n1 c1, .slice A2 n2 c2])), box, full, v31, v33, v35, .agg #[.int .i64 c.inputs, .slice GA gn gc, .slice OA on oc], v32, v34, v36, .agg #[.int .i64 (allC c).inputs, .slice A1 n1 c1, .slice A2 n2 c2], v6, v7, v8, v9, HBn, hg0, hg1, hg2, rfl, hx0, hx1, hx2, hx3, hf0, hf1, hf2, hf3, hl0, hl1, hl2, fun _ => rfl, hv0, hv1, hv2, fun l h => (by cases h; rfl), hp0, hp1, hp2, hp3, rfl⟩
    · obtain rfl := Option.some.inj ho
      have hxn : box 0 = none := Option.not_isSome_iff_eq_none.1 (by rw [hx0, hbi]; decide)
      go_simp
      exact HK.out _ _ ⟨got, (upd box 0 (some u.heap.size)), full, v31, v33, v35, v37, v32, v34, v36, v38, .pointer (some ⟨u.heap.size, 0, none⟩), v7, v8, v9, HBx.out.alloc 0 hxn, hg0, hg1, hg2, hg3, rfl, hx1, hx2, hx3, hf0, hf1, hf2, hf3, hl0, hl1, hl2, hl3, hv0, hv1, hv2, hv3, fun x h => (by cases h; rfl), hp1, hp2, hp3, rfl⟩
    · obtain rfl := Option.some.inj ho
      have hxn : box 1 = none := Option.not_isSome_iff_eq_none.1 (by rw [hx1, hbi]; decide)
      go_simp
      exact HK.out _ _ ⟨got, (upd box 1 (some u.heap.size)), full, v31, v33, v35, v37, v32, v34, v36, v38, v6, .pointer (some ⟨u.heap.size, 0, none⟩), v8, v9, HBx.out.alloc 1 hxn, hg0, hg1, hg2, hg3, hx0, rfl, hx2, hx3, hf0, hf1, hf2, hf3, hl0, hl1, hl2, hl3, hv0, hv1, hv2, hv3, hp0, fun x h => (by cases h; rfl), hp2, hp3, rfl⟩
    · obtain rfl := Option.some.inj ho
      have hxn : box 2 = none := Option.not_isSome_iff_eq_none.1 (by rw [hx2, hbi]; decide)
      go_simp
      exact HK.out _ _ ⟨got, (upd box 2 (some u.heap.size)), full, v31, v33, v35, v37, v32, v34, v36, v38, v6, v7, .pointer (some ⟨u.heap.size, 0, none⟩), v9, HBx.out.alloc 2 hxn, hg0, hg1, hg2, hg3, hx0, hx1, rfl, hx3, hf0, hf1, hf2, hf3, hl0, hl1, hl2, hl3, hv0, hv1, hv2, hv3, hp0, hp1, fun x h => (by cases h; rfl), hp3, rfl⟩
    · obtain rfl := Option.some.inj ho
      have hxn : box 3 = none := Option.not_isSome_iff_eq_none.1 (by rw [hx3, hbi]; decide)
      go_simp
      exact HK.out _ _ ⟨got, (upd box 3 (some u.heap.size)), full, v31, v33, v35, v37, v32, v34, v36, v38, v6, v7, v8, .pointer (some ⟨u.heap.size, 0, none⟩), HBx.out.alloc 3 hxn, hg0, hg1, hg2, hg3, hx0, hx1, hx2, rfl, hf0, hf1, hf2, hf3, hl0, hl1, hl2, hl3, hv0, hv1, hv2, hv3, hp0, hp1, hp2, fun x h => (by cases h; rfl), rfl⟩
    · obtain rfl := Option.some.inj ho
      obtain ⟨l, hl⟩ := Option.isSome_iff_exists.1 (hg0.trans (hpre ⟨1, .data⟩ (by simp) rfl))
      obtain ⟨x, hx⟩ := Option.isSome_iff_exists.1 (hx0.trans (hpre ⟨8, .data⟩ (by simp) rfl))
      have hfn : full 0 = false := hf0.trans hbi
      have p1 := hv0 l hl
      have p2 := hp0 x hx
      subst p1 p2
      obtain ⟨A1, A2, n1, c1, n2, c2, rfl, hca, hsep⟩ := HBx.out.gotOk 0 l hl
      obtain ⟨hBx, lz, hrow, hz, -⟩ := HBx.out.boxOk 0 x hx
      have hz := hz hfn
      subst hz
      have RZ : Hid (Row u x 25 [.int .i64 0, .slice none 0 0, .slice none 0 0]) := hrow
      have z0 := RZ.out.cell 0
      have z1 := RZ.out.cell 1
      have z2 := RZ.out.cell 2
      have zl := RZ.out.lt
      simp only [List.getElem?_cons_zero, List.getElem?_cons_succ] at z0 z1 z2
      have zf0 := RZ.out.frozen 0
      have zf1 := RZ.out.frozen 1
      have zf2 := RZ.out.frozen 2
      clear hca hsep hrow
      go_simp
      exact HK.out _ _ ⟨got, box, (upd full 0 true), v31, v33, v35, v37, .agg #[.int .i64 _, .slice A1 n1 c1, .slice A2 n2 c2], v34, v36, v38, .pointer (some ⟨x, 0, none⟩), v7, v8, v9, HBx.out.store 0 hx hl hfn, hg0, hg1, hg2, hg3, hx0, hx1, hx2, hx3, rfl, hf1, hf2, hf3, hl0, hl1, hl2, hl3, hv0, hv1, hv2, hv3, hp0, hp1, hp2, hp3, rfl⟩
    · obtain rfl := Option.some.inj ho
      obtain ⟨l, hl⟩ := Option.isSome_iff_exists.1 (hg1.trans (hpre ⟨3, .data⟩ (by simp) rfl))
      obtain ⟨x, hx⟩ := Option.isSome_iff_exists.1 (hx1.trans (hpre ⟨9, .data⟩ (by simp) rfl))
      have hfn : full 1 = false := hf1.trans hbi
      have p1 := hv1 l hl
      have p2 := hp1 x hx
      subst p1 p2
      obtain ⟨A1, A2, n1, c1, n2, c2, rfl, hca, hsep⟩ := HBx.out.gotOk 1 l hl
      obtain ⟨hBx, lz, hrow, hz, -⟩ := HBx.out.boxOk 1 x hx
      have hz := hz hfn
      subst hz
      have RZ : Hid (Row u x 25 [.int .i64 0, .slice none 0 0, .slice none 0 0]) := hrow
      have z0 := RZ.out.cell 0
      have z1 := RZ.out.cell 1
      have z2 := RZ.out.cell 2
      have zl := RZ.out.lt
      simp only [List.getElem?_cons_zero, List.getElem?_cons_succ] at z0 z1 z2
      have zf0 := RZ.out.frozen 0
      have zf1 := RZ.out.frozen 1
      have zf2 := RZ.out.frozen 2
      clear hca hsep hrow
      go_simp
      exact HK.out _ _ ⟨got, box, (upd full 1 true), v31, v33, v35, v37, v32, .agg #[.int .i64 _, .slice A1 n1 c1, .slice A2 n2 c2], v36, v38, v6, .pointer (some ⟨x, 0, none⟩), v8, v9, HBx.out.store 1 hx hl hfn, hg0, hg1, hg2, hg3, hx0, hx1, hx2, hx3, hf0, rfl, hf2, hf3, hl0, hl1, hl2, hl3, hv0, hv1, hv2, hv3, hp0, hp1, hp2, hp3, rfl⟩
    · obtain rfl := Option.some.inj ho
      obtain ⟨l, hl⟩ := Option.isSome_iff_exists.1 (hg2.trans (hpre ⟨5, .data⟩ (by simp) rfl))
      obtain ⟨x, hx⟩ := Option.isSome_iff_exists.1 (hx2.trans (hpre ⟨10, .data⟩ (by simp) rfl))
      have hfn : full 2 = false := hf2.trans hbi
      have p1 := hv2 l hl
      have p2 := hp2 x hx
      subst p1 p2
      obtain ⟨A1, A2, n1, c1, n2, c2, rfl, hca, hsep⟩ := HBx.out.gotOk 2 l hl
      obtain ⟨hBx, lz, hrow, hz, -⟩ := HBx.out.boxOk 2 x hx
      have hz := hz hfn
      subst hz
      have RZ : Hid (Row u x 25 [.int .i64 0, .slice none 0 0, .slice none 0 0]) := hrow
      have z0 := RZ.out.cell 0
      have z1 := RZ.out.cell 1
      have z2 := RZ.out.cell 2
      have zl := RZ.out.lt
      simp only [List.getElem?_cons_zero, List.getElem?_cons_succ] at z0 z1 z2
      have zf0 := RZ.out.frozen 0
      have zf1 := RZ.out.frozen 1
      have zf2 := RZ.out.frozen 2
      clear hca hsep hrow
      go_simp
      exact HK.out _ _ ⟨got, box, (upd full 2 true), v31, v33, v35, v37, v32, v34, .agg #[.int .i64 _, .slice A1 n1 c1, .slice A2 n2 c2], v38, v6, v7, .pointer (some ⟨x, 0, none⟩), v9, HBx.out.store 2 hx hl hfn, hg0, hg1, hg2, hg3, hx0, hx1, hx2, hx3, hf0, hf1, rfl, hf3, hl0, hl1, hl2, hl3, hv0, hv1, hv2, hv3, hp0, hp1, hp2, hp3, rfl⟩
    · obtain rfl := Option.some.inj ho
      obtain ⟨l, hl⟩ := Option.isSome_iff_exists.1 (hg3.trans (hpre ⟨7, .data⟩ (by simp) rfl))
      obtain ⟨x, hx⟩ := Option.isSome_iff_exists.1 (hx3.trans (hpre ⟨11, .data⟩ (by simp) rfl))
      have hfn : full 3 = false := hf3.trans hbi
      have p1 := hv3 l hl
      have p2 := hp3 x hx
      subst p1 p2
      obtain ⟨A1, A2, n1, c1, n2, c2, rfl, hca, hsep⟩ := HBx.out.gotOk 3 l hl
      obtain ⟨hBx, lz, hrow, hz, -⟩ := HBx.out.boxOk 3 x hx
      have hz := hz hfn
      subst hz
      have RZ : Hid (Row u x 25 [.int .i64 0, .slice none 0 0, .slice none 0 0]) := hrow
      have z0 := RZ.out.cell 0
      have z1 := RZ.out.cell 1
      have z2 := RZ.out.cell 2
      have zl := RZ.out.lt
      simp only [List.getElem?_cons_zero, List.getElem?_cons_succ] at z0 z1 z2
      have zf0 := RZ.out.frozen 0
      have zf1 := RZ.out.frozen 1
      have zf2 := RZ.out.frozen 2
      clear hca hsep hrow
      go_simp
      exact HK.out _ _ ⟨got, box, (upd full 3 true), v31, v33, v35, v37, v32, v34, v36, .agg #[.int .i64 _, .slice A1 n1 c1, .slice A2 n2 c2], v6, v7, v8, .pointer (some ⟨x, 0, none⟩), HBx.out.store 3 hx hl hfn, hg0, hg1, hg2, hg3, hx0, hx1, hx2, hx3, hf0, hf1, hf2, rfl, hl0, hl1, hl2, hl3, hv0, hv1, hv2, hv3, hp0, hp1, hp2, hp3, rfl⟩
  case fin =>
    intro b cc u hall hI
    obtain ⟨got, box, full, v31, v33, v35, v37, v32, v34, v36, v38, v6, v7, v8, v9, HBx, hg0, hg1, hg2, hg3, hx0, hx1, hx2, hx3, hf0, hf1, hf2, hf3, hl0, hl1, hl2, hl3, hv0, hv1, hv2, hv3, hp0, hp1, hp2, hp3, rfl⟩ := hI
    obtain ⟨l0, hgl0⟩ := Option.isSome_iff_exists.1 (hg0.trans (hall 1 (by decide)))
    obtain ⟨x0, hxl0⟩ := Option.isSome_iff_exists.1 (hx0.trans (hall 8 (by decide)))
    have p0 := hl0 (hall 0 (by decide))
    have p2 := hp0 _ hxl0
    obtain ⟨A0, E0, n0, c0, m0, e0, rfl, hca, -⟩ := HBx.gotOk 0 _ hgl0
    have p1 : v32 = .agg #[.int .i64 (foldC c).inputs, .slice A0 n0 c0, .slice E0 m0 e0] := hv0 _ hgl0
    subst p0 p1 p2
    obtain ⟨-, lr, hr, -, hlr⟩ := HBx.boxOk 0 x0 hxl0
    have hlr := Option.some.inj (hgl0.symm.trans (hlr (hf0.trans (hall 12 (by decide)))))
    subst hlr
    have HA0 : Hid (CAt u (foldC c) A0 E0 n0 m0) := hca
    have RX0 : Hid (Row u x0 25 [.int .i64 (foldC c).inputs, .slice A0 n0 c0, .slice E0 m0 e0]) := hr
    clear hca hr hlr
    obtain ⟨l1, hgl1⟩ := Option.isSome_iff_exists.1 (hg1.trans (hall 3 (by decide)))
    obtain ⟨x1, hxl1⟩ := Option.isSome_iff_exists.1 (hx1.trans (hall 9 (by decide)))
    have p0 := hl1 (hall 2 (by decide))
    have p2 := hp1 _ hxl1
    obtain ⟨A1, E1, n1, c1, m1, e1, rfl, hca, -⟩ := HBx.gotOk 1 _ hgl1
    have p1 : v34 = .agg #[.int .i64 (shareC c).inputs, .slice A1 n1 c1, .slice E1 m1 e1] := hv1 _ hgl1
    subst p0 p1 p2
    obtain ⟨-, lr, hr, -, hlr⟩ := HBx.boxOk 1 x1 hxl1
    have hlr := Option.some.inj (hgl1.symm.trans (hlr (hf1.trans (hall 13 (by decide)))))
    subst hlr
    have HA1 : Hid (CAt u (shareC c) A1 E1 n1 m1) := hca
    have RX1 : Hid (Row u x1 25 [.int .i64 (shareC c).inputs, .slice A1 n1 c1, .slice E1 m1 e1]) := hr
    clear hca hr hlr
    obtain ⟨l2, hgl2⟩ := Option.isSome_iff_exists.1 (hg2.trans (hall 5 (by decide)))
    obtain ⟨x2, hxl2⟩ := Option.isSome_iff_exists.1 (hx2.trans (hall 10 (by decide)))
    have p0 := hl2 (hall 4 (by decide))
    have p2 := hp2 _ hxl2
    obtain ⟨A2, E2, n2, c2, m2, e2, rfl, hca, -⟩ := HBx.gotOk 2 _ hgl2
    have p1 : v36 = .agg #[.int .i64 (trimC c).inputs, .slice A2 n2 c2, .slice E2 m2 e2] := hv2 _ hgl2
    subst p0 p1 p2
    obtain ⟨-, lr, hr, -, hlr⟩ := HBx.boxOk 2 x2 hxl2
    have hlr := Option.some.inj (hgl2.symm.trans (hlr (hf2.trans (hall 14 (by decide)))))
    subst hlr
    have HA2 : Hid (CAt u (trimC c) A2 E2 n2 m2) := hca
    have RX2 : Hid (Row u x2 25 [.int .i64 (trimC c).inputs, .slice A2 n2 c2, .slice E2 m2 e2]) := hr
    clear hca hr hlr
    obtain ⟨l3, hgl3⟩ := Option.isSome_iff_exists.1 (hg3.trans (hall 7 (by decide)))
    obtain ⟨x3, hxl3⟩ := Option.isSome_iff_exists.1 (hx3.trans (hall 11 (by decide)))
    have p0 := hl3 (hall 6 (by decide))
    have p2 := hp3 _ hxl3
    obtain ⟨A3, E3, n3, c3, m3, e3, rfl, hca, -⟩ := HBx.gotOk 3 _ hgl3
    have p1 : v38 = .agg #[.int .i64 (allC c).inputs, .slice A3 n3 c3, .slice E3 m3 e3] := hv3 _ hgl3
    subst p0 p1 p2
    obtain ⟨-, lr, hr, -, hlr⟩ := HBx.boxOk 3 x3 hxl3
    have hlr := Option.some.inj (hgl3.symm.trans (hlr (hf3.trans (hall 15 (by decide)))))
    subst hlr
    have HA3 : Hid (CAt u (allC c) A3 E3 n3 m3) := hca
    have RX3 : Hid (Row u x3 25 [.int .i64 (allC c).inputs, .slice A3 n3 c3, .slice E3 m3 e3]) := hr
    clear hca hr hlr
    have HBu : Hid (Below w4.heap.size w4 u) := HBx.below
    clear HBx hg0 hg1 hg2 hg3 hx0 hx1 hx2 hx3 hf0 hf1 hf2 hf3 hl0 hl1 hl2 hl3 hv0 hv1 hv2 hv3 hp0 hp1 hp2 hp3 hall hgl0 hxl0 hgl1 hxl1 hgl2 hxl2 hgl3 hxl3
    have hb := HBu.out
    have B_w : Hid (Below w.heap.size w u) := below_on2 B_w.out hb
    have B_wa : Hid (Below wa.heap.size wa u) := below_on2 B_wa.out hb
    have B_w1 : Hid (Below w1.heap.size w1 u) := below_on2 B_w1.out hb
    have B_w2 : Hid (Below w2.heap.size w2 u) := below_on2 B_w2.out hb
    have B_w4 : Hid (Below w4.heap.size w4 u) := hb
    clear hb
    obtain rfl : gn = n0 := by have := HA0.out.gl; have := (HFL.out ()).1; omega
    obtain rfl : gn = n1 := by have := HA1.out.gl; have := (HFL.out ()).2.1; omega
    have hle : n2 ≤ gn := by have := HA2.out.gl; have := (HFL.out ()).2.2.1; omega
    have hle3 : n3 ≤ n2 := by have := HA2.out.gl; have := HA3.out.gl; have := (HFL.out ()).2.2.2; omega
    have q1 : decide ((n2 : Int) ≤ (gn : Int)) = true := decide_eq_true (by omega)
    have q2 : decide ((n3 : Int) ≤ (n2 : Int)) = true := decide_eq_true (by omega)
    have q3 : decide (n2 ≤ gn) = true := decide_eq_true hle
    have q4 : decide (n3 ≤ n2) = true := decide_eq_true hle3
    clear HFL hle hle3
    have pR : Hid (Row u (x0) 25 [.int .i64 (foldC c).inputs, .slice A0 gn c0, .slice E0 m0 e0]) := RX0.out
    have p0 := pR.out.cell 0
    have p1 := pR.out.cell 1
    have p2 := pR.out.cell 2
    have pl := pR.out.lt
    simp only [List.getElem?_cons_zero, List.getElem?_cons_succ] at p0 p1 p2
    clear pR
    have kR : Hid (Row u (w.heap.size) 25 [.int .i64 c.inputs, .slice GA gn gc, .slice OA on oc]) := (rowCells RC.out B_wa.out)
    have k0 := kR.out.cell 0
    have k1 := kR.out.cell 1
    have k2 := kR.out.cell 2
    have kl := kR.out.lt
    simp only [List.getElem?_cons_zero, List.getElem?_cons_succ] at k0 k1 k2
    clear kR
    go_wp2_with fail
    refine (sameE_any (foldC c) c A0 E0 GA OA (some ⟨w2.heap.size, 0, none⟩) gn c0 m0 e0 gn gc on oc N N inL u HA0.out (HC0.out.up B_w.out) (Row.rd (rowCells RI4.out B_w4.out) (by rw [bools, List.length_map, HINL.out ()]; omega)) (fold_right HR.out) HR.out (by rw [foldC_in HR.out, HN.out ()]) (HN.out ()).symm (fold_sem HR.out (by rw [HINL.out (), HN.out ()]))).mono ?_
    rintro e v0 ⟨rfl, hb⟩
    have B_w : Hid (Below w.heap.size w v0) := below_on2 B_w.out hb
    have B_wa : Hid (Below wa.heap.size wa v0) := below_on2 B_wa.out hb
    have B_w1 : Hid (Below w1.heap.size w1 v0) := below_on2 B_w1.out hb
    have B_w2 : Hid (Below w2.heap.size w2 v0) := below_on2 B_w2.out hb
    have B_w4 : Hid (Below w4.heap.size w4 v0) := below_on2 B_w4.out hb
    have B_u : Hid (Below u.heap.size u v0) := hb
    clear p0 p1 p2 pl k0 k1 k2 kl
    clear hb
    have pR : Hid (Row v0 (x1) 25 [.int .i64 (shareC c).inputs, .slice A1 gn c1, .slice E1 m1 e1]) := (rowCells RX1.out B_u.out)
    have p0 := pR.out.cell 0
    have p1 := pR.out.cell 1
    have p2 := pR.out.cell 2
    have pl := pR.out.lt
    simp only [List.getElem?_cons_zero, List.getElem?_cons_succ] at p0 p1 p2
    clear pR
    have kR : Hid (Row v0 (w.heap.size) 25 [.int .i64 c.inputs, .slice GA gn gc, .slice OA on oc]) := (rowCells RC.out B_wa.out)
    have k0 := kR.out.cell 0
    have k1 := kR.out.cell 1
    have k2 := kR.out.cell 2
    have kl := kR.out.lt
    simp only [List.getElem?_cons_zero, List.getElem?_cons_succ] at k0 k1 k2
    clear kR
    go_wp2_with fail
    refine (sameE_any (shareC c) c A1 E1 GA OA (some ⟨w2.heap.size, 0, none⟩) gn c1 m1 e1 gn gc on oc N N inL v0 (HA1.out.up B_u.out) (HC0.out.up B_w.out) (Row.rd (rowCells RI4.out B_w4.out) (by rw [bools, List.length_map, HINL.out ()]; omega)) (share_right HR.out) HR.out (by rw [shareC_in HR.out, HN.out ()]) (HN.out ()).symm (share_sem HR.out (by rw [HINL.out (), HN.out ()]))).mono ?_
    rintro e v1 ⟨rfl, hb⟩
    have B_w : Hid (Below w.heap.size w v1) := below_on2 B_w.out hb
    have B_wa : Hid (Below wa.heap.size wa v1) := below_on2 B_wa.out hb
    have B_w1 : Hid (Below w1.heap.size w1 v1) := below_on2 B_w1.out hb
    have B_w2 : Hid (Below w2.heap.size w2 v1) := below_on2 B_w2.out hb
    have B_w4 : Hid (Below w4.heap.size w4 v1) := below_on2 B_w4.out hb
    have B_u : Hid (Below u.heap.size u v1) := below_on2 B_u.out hb
    have B_v0 : Hid (Below v0.heap.size v0 v1) := hb
    clear p0 p1 p2 pl k0 k1 k2 kl
    clear hb
    have pR : Hid (Row v1 (x2) 25 [.int .i64 (trimC c).inputs, .slice A2 n2 c2, .slice E2 m2 e2]) := (rowCells RX2.out B_u.out)
    have p0 := pR.out.cell 0
    have p1 := pR.out.cell 1
    have p2 := pR.out.cell 2
    have pl := pR.out.lt
    simp only [List.getElem?_cons_zero, List.getElem?_cons_succ] at p0 p1 p2
    clear pR
    have kR : Hid (Row v1 (w.heap.size) 25 [.int .i64 c.inputs, .slice GA gn gc, .slice OA on oc]) := (rowCells RC.out B_wa.out)
    have k0 := kR.out.cell 0
    have k1 := kR.out.cell 1
    have k2 := kR.out.cell 2
    have kl := kR.out.lt
    simp only [List.getElem?_cons_zero, List.getElem?_cons_succ] at k0 k1 k2
    clear kR
    go_wp2_with fail
    refine (sameE_any (trimC c) c A2 E2 GA OA (some ⟨w2.heap.size, 0, none⟩) n2 c2 m2 e2 gn gc on oc N N inL v1 (HA2.out.up B_u.out) (HC0.out.up B_w.out) (Row.rd (rowCells RI4.out B_w4.out) (by rw [bools, List.length_map, HINL.out ()]; omega)) (trim_right HR.out) HR.out (by rw [trimC_in HR.out, HN.out ()]) (HN.out ()).symm (trim_sem HR.out (by rw [HINL.out (), HN.out ()]))).mono ?_
    rintro e v2 ⟨rfl, hb⟩
    have B_w : Hid (Below w.heap.size w v2) := below_on2 B_w.out hb
    have B_wa : Hid (Below wa.heap.size wa v2) := below_on2 B_wa.out hb
    have B_w1 : Hid (Below w1.heap.size w1 v2) := below_on2 B_w1.out hb
    have B_w2 : Hid (Below w2.heap.size w2 v2) := below_on2 B_w2.out hb
    have B_w4 : Hid (Below w4.heap.size w4 v2) := below_on2 B_w4.out hb
    have B_u : Hid (Below u.heap.size u v2) := below_on2 B_u.out hb
    have B_v0 : Hid (Below v0.heap.size v0 v2) := below_on2 B_v0.out hb
    have B_v1 : Hid (Below v1.heap.size v1 v2) := hb
    clear p0 p1 p2 pl k0 k1 k2 kl
    clear hb
    have pR : Hid (Row v2 (x3) 25 [.int .i64 (allC c).inputs, .slice A3 n3 c3, .slice E3 m3 e3]) := (rowCells RX3.out B_u.out)
    have p0 := pR.out.cell 0
    have p1 := pR.out.cell 1
    have p2 := pR.out.cell 2
    have pl := pR.out.lt
    simp only [List.getElem?_cons_zero, List.getElem?_cons_succ] at p0 p1 p2
    clear pR
    have kR : Hid (Row v2 (w.heap.size) 25 [.int .i64 c.inputs, .slice GA gn gc, .slice OA on oc]) := (rowCells RC.out B_wa.out)
    have k0 := kR.out.cell 0
    have k1 := kR.out.cell 1
    have k2 := kR.out.cell 2
    have kl := kR.out.lt
    simp only [List.getElem?_cons_zero, List.getElem?_cons_succ] at k0 k1 k2
    clear kR
    go_wp2_with fail
    refine (sameE_any (allC c) c A3 E3 GA OA (some ⟨w2.heap.size, 0, none⟩) n3 c3 m3 e3 gn gc on oc N N inL v2 (HA3.out.up B_u.out) (HC0.out.up B_w.out) (Row.rd (rowCells RI4.out B_w4.out) (by rw [bools, List.length_map, HINL.out ()]; omega)) (all_right HR.out) HR.out (by rw [(all_io HR.out).1, HN.out ()]) (HN.out ()).symm (all_sem HR.out (by rw [HINL.out (), HN.out ()]))).mono ?_
    rintro e v3 ⟨rfl, hb⟩
    have B_w : Hid (Below w.heap.size w v3) := below_on2 B_w.out hb
    have B_wa : Hid (Below wa.heap.size wa v3) := below_on2 B_wa.out hb
    have B_w1 : Hid (Below w1.heap.size w1 v3) := below_on2 B_w1.out hb
    have B_w2 : Hid (Below w2.heap.size w2 v3) := below_on2 B_w2.out hb
    have B_w4 : Hid (Below w4.heap.size w4 v3) := below_on2 B_w4.out hb
    have B_u : Hid (Below u.heap.size u v3) := below_on2 B_u.out hb
    have B_v0 : Hid (Below v0.heap.size v0 v3) := below_on2 B_v0.out hb
    have B_v1 : Hid (Below v1.heap.size v1 v3) := below_on2 B_v1.out hb
    have B_v2 : Hid (Below v2.heap.size v2 v3) := hb
    clear p0 p1 p2 pl k0 k1 k2 kl
    clear hb
    have kR : Hid (Row v3 (w.heap.size) 25 [.int .i64 c.inputs, .slice GA gn gc, .slice OA on oc]) := (rowCells RC.out B_wa.out)
    have k0 := kR.out.cell 0
    have k1 := kR.out.cell 1
    have k2 := kR.out.cell 2
    have kl := kR.out.lt
    simp only [List.getElem?_cons_zero, List.getElem?_cons_succ] at k0 k1 k2
    clear kR
    have pR : Hid (Row v3 (x0) 25 [.int .i64 (foldC c).inputs, .slice A0 gn c0, .slice E0 m0 e0]) := (rowCells RX0.out B_u.out)
    have p0 := pR.out.cell 0
    have p1 := pR.out.cell 1
    have p2 := pR.out.cell 2
    have pl := pR.out.lt
    simp only [List.getElem?_cons_zero, List.getElem?_cons_succ] at p0 p1 p2
    clear pR
    go_wp2_with fail
    have HC := cright_at (foldC c) A0 E0 gn c0 m0 e0 v3 (HA0.out.up B_u.out)
    rw [(fold_right HR.out)] at HC
    refine HC.mono ?_
    clear HC
    rintro e z0 ⟨rfl, hb⟩
    have B_w : Hid (Below w.heap.size w z0) := below_on2 B_w.out hb
    have B_wa : Hid (Below wa.heap.size wa z0) := below_on2 B_wa.out hb
    have B_w1 : Hid (Below w1.heap.size w1 z0) := below_on2 B_w1.out hb
    have B_w2 : Hid (Below w2.heap.size w2 z0) := below_on2 B_w2.out hb
    have B_w4 : Hid (Below w4.heap.size w4 z0) := below_on2 B_w4.out hb
    have B_u : Hid (Below u.heap.size u z0) := below_on2 B_u.out hb
    have B_v0 : Hid (Below v0.heap.size v0 z0) := below_on2 B_v0.out hb
    have B_v1 : Hid (Below v1.heap.size v1 z0) := below_on2 B_v1.out hb
    have B_v2 : Hid (Below v2.heap.size v2 z0) := below_on2 B_v2.out hb
    have B_v3 : Hid (Below v3.heap.size v3 z0) := hb
    clear k0 k1 k2 kl p0 p1 p2 pl
    clear hb
    have pR : Hid (Row z0 (x1) 25 [.int .i64 (shareC c).inputs, .slice A1 gn c1, .slice E1 m1 e1]) := (rowCells RX1.out B_u.out)
    have p0 := pR.out.cell 0
    have p1 := pR.out.cell 1
    have p2 := pR.out.cell 2
    have pl := pR.out.lt
    simp only [List.getElem?_cons_zero, List.getElem?_cons_succ] at p0 p1 p2
    clear pR
    go_wp2_with fail
    have HC := cright_at (shareC c) A1 E1 gn c1 m1 e1 z0 (HA1.out.up B_u.out)
    rw [(share_right HR.out)] at HC
    refine HC.mono ?_
    clear HC
    rintro e z1 ⟨rfl, hb⟩
    have B_w : Hid (Below w.heap.size w z1) := below_on2 B_w.out hb
    have B_wa : Hid (Below wa.heap.size wa z1) := below_on2 B_wa.out hb
    have B_w1 : Hid (Below w1.heap.size w1 z1) := below_on2 B_w1.out hb
    have B_w2 : Hid (Below w2.heap.size w2 z1) := below_on2 B_w2.out hb
    have B_w4 : Hid (Below w4.heap.size w4 z1) := below_on2 B_w4.out hb
    have B_u : Hid (Below u.heap.size u z1) := below_on2 B_u.out hb
    have B_v0 : Hid (Below v0.heap.size v0 z1) := below_on2 B_v0.out hb
    have B_v1 : Hid (Below v1.heap.size v1 z1) := below_on2 B_v1.out hb
    have B_v2 : Hid (Below v2.heap.size v2 z1) := below_on2 B_v2.out hb
    have B_v3 : Hid (Below v3.heap.size v3 z1) := below_on2 B_v3.out hb
    have B_z0 : Hid (Below z0.heap.size z0 z1) := hb
    clear p0 p1 p2 pl
    clear hb
    have pR : Hid (Row z1 (x2) 25 [.int .i64 (trimC c).inputs, .slice A2 n2 c2, .slice E2 m2 e2]) := (rowCells RX2.out B_u.out)
    have p0 := pR.out.cell 0
    have p1 := pR.out.cell 1
    have p2 := pR.out.cell 2
    have pl := pR.out.lt
    simp only [List.getElem?_cons_zero, List.getElem?_cons_succ] at p0 p1 p2
    clear pR
    go_wp2_with fail
    have HC := cright_at (trimC c) A2 E2 n2 c2 m2 e2 z1 (HA2.out.up B_u.out)
    rw [(trim_right HR.out)] at HC
    refine HC.mono ?_
    clear HC
    rintro e z2 ⟨rfl, hb⟩
    have B_w : Hid (Below w.heap.size w z2) := below_on2 B_w.out hb
    have B_wa : Hid (Below wa.heap.size wa z2) := below_on2 B_wa.out hb
    have B_w1 : Hid (Below w1.heap.size w1 z2) := below_on2 B_w1.out hb
    have B_w2 : Hid (Below w2.heap.size w2 z2) := below_on2 B_w2.out hb
    have B_w4 : Hid (Below w4.heap.size w4 z2) := below_on2 B_w4.out hb
    have B_u : Hid (Below u.heap.size u z2) := below_on2 B_u.out hb
    have B_v0 : Hid (Below v0.heap.size v0 z2) := below_on2 B_v0.out hb
    have B_v1 : Hid (Below v1.heap.size v1 z2) := below_on2 B_v1.out hb
    have B_v2 : Hid (Below v2.heap.size v2 z2) := below_on2 B_v2.out hb
    have B_v3 : Hid (Below v3.heap.size v3 z2) := below_on2 B_v3.out hb
    have B_z0 : Hid (Below z0.heap.size z0 z2) := below_on2 B_z0.out hb
    have B_z1 : Hid (Below z1.heap.size z1 z2) := hb
    clear p0 p1 p2 pl
    clear hb
    have pR : Hid (Row z2 (x3) 25 [.int .i64 (allC c).inputs, .slice A3 n3 c3, .slice E3 m3 e3]) := (rowCells RX3.out B_u.out)
    have p0 := pR.out.cell 0
    have p1 := pR.out.cell 1
    have p2 := pR.out.cell 2
    have pl := pR.out.lt
    simp only [List.getElem?_cons_zero, List.getElem?_cons_succ] at p0 p1 p2
    clear pR
    go_wp2_with fail
    have HC := cright_at (allC c) A3 E3 n3 c3 m3 e3 z2 (HA3.out.up B_u.out)
    rw [(all_right HR.out)] at HC
    refine HC.mono ?_
    clear HC
    rintro e z3 ⟨rfl, hb⟩
    have B_w : Hid (Below w.heap.size w z3) := below_on2 B_w.out hb
    have B_wa : Hid (Below wa.heap.size wa z3) := below_on2 B_wa.out hb
    have B_w1 : Hid (Below w1.heap.size w1 z3) := below_on2 B_w1.out hb
    have B_w2 : Hid (Below w2.heap.size w2 z3) := below_on2 B_w2.out hb
    have B_w4 : Hid (Below w4.heap.size w4 z3) := below_on2 B_w4.out hb
    have B_u : Hid (Below u.heap.size u z3) := below_on2 B_u.out hb
    have B_v0 : Hid (Below v0.heap.size v0 z3) := below_on2 B_v0.out hb
    have B_v1 : Hid (Below v1.heap.size v1 z3) := below_on2 B_v1.out hb
    have B_v2 : Hid (Below v2.heap.size v2 z3) := below_on2 B_v2.out hb
    have B_v3 : Hid (Below v3.heap.size v3 z3) := below_on2 B_v3.out hb
    have B_z0 : Hid (Below z0.heap.size z0 z3) := below_on2 B_z0.out hb
    have B_z1 : Hid (Below z1.heap.size z1 z3) := below_on2 B_z1.out hb
    have B_z2 : Hid (Below z2.heap.size z2 z3) := hb
    clear p0 p1 p2 pl
    clear hb
    have p0R : Hid (Row z3 (x0) 25 [.int .i64 (foldC c).inputs, .slice A0 gn c0, .slice E0 m0 e0]) := (rowCells RX0.out B_u.out)
    have p00 := p0R.out.cell 0
    have p01 := p0R.out.cell 1
    have p02 := p0R.out.cell 2
    have p0l := p0R.out.lt
    simp only [List.getElem?_cons_zero, List.getElem?_cons_succ] at p00 p01 p02
    clear p0R
    have p1R : Hid (Row z3 (x1) 25 [.int .i64 (shareC c).inputs, .slice A1 gn c1, .slice E1 m1 e1]) := (rowCells RX1.out B_u.out)
    have p10 := p1R.out.cell 0
    have p11 := p1R.out.cell 1
    have p12 := p1R.out.cell 2
    have p1l := p1R.out.lt
    simp only [List.getElem?_cons_zero, List.getElem?_cons_succ] at p10 p11 p12
    clear p1R
    have p2R : Hid (Row z3 (x2) 25 [.int .i64 (trimC c).inputs, .slice A2 n2 c2, .slice E2 m2 e2]) := (rowCells RX2.out B_u.out)
    have p20 := p2R.out.cell 0
    have p21 := p2R.out.cell 1
    have p22 := p2R.out.cell 2
    have p2l := p2R.out.lt
    simp only [List.getElem?_cons_zero, List.getElem?_cons_succ] at p20 p21 p22
    clear p2R
    have p3R : Hid (Row z3 (x3) 25 [.int .i64 (allC c).inputs, .slice A3 n3 c3, .slice E3 m3 e3]) := (rowCells RX3.out B_u.out)
    have p30 := p3R.out.cell 0
    have p31 := p3R.out.cell 1
    have p32 := p3R.out.cell 2
    have p3l := p3R.out.lt
    simp only [List.getElem?_cons_zero, List.getElem?_cons_succ] at p30 p31 p32
    clear p3R
    go_wp2_with fail
    refine (awake_any z3).mono ?_
    rintro e y1 ⟨rfl, hb⟩
    have B_w : Hid (Below w.heap.size w y1) := below_on2 B_w.out hb
    have B_wa : Hid (Below wa.heap.size wa y1) := below_on2 B_wa.out hb
    have B_w1 : Hid (Below w1.heap.size w1 y1) := below_on2 B_w1.out hb
    have B_w2 : Hid (Below w2.heap.size w2 y1) := below_on2 B_w2.out hb
    have B_w4 : Hid (Below w4.heap.size w4 y1) := below_on2 B_w4.out hb
    have B_u : Hid (Below u.heap.size u y1) := below_on2 B_u.out hb
    have B_v0 : Hid (Below v0.heap.size v0 y1) := below_on2 B_v0.out hb
    have B_v1 : Hid (Below v1.heap.size v1 y1) := below_on2 B_v1.out hb
    have B_v2 : Hid (Below v2.heap.size v2 y1) := below_on2 B_v2.out hb
    have B_v3 : Hid (Below v3.heap.size v3 y1) := below_on2 B_v3.out hb
    have B_z0 : Hid (Below z0.heap.size z0 y1) := below_on2 B_z0.out hb
    have B_z1 : Hid (Below z1.heap.size z1 y1) := below_on2 B_z1.out hb
    have B_z2 : Hid (Below z2.heap.size z2 y1) := below_on2 B_z2.out hb
    have B_z3 : Hid (Below z3.heap.size z3 y1) := hb
    clear p00 p01 p02 p0l p10 p11 p12 p1l p20 p21 p22 p2l p30 p31 p32 p3l
    clear hb
    go_wp2_with fail
    go_ret
    exact ⟨rfl, B_w.out⟩
end Go.Proofs.Ytamijjpnklbgnaa

/-
  Slices that came in as arguments: the value written out, the memory.
-/
namespace Go.Proofs.Ytamijjpnklbgnaa
open Go.RowKit Go.ChangeShapes Go.WideShapes Go.Deep Go.Joins
set_option linter.unusedSimpArgs false
set_option linter.unusedVariables false

section
variable {H : Type} {enc : TypeId × Value → H} {w : World} {base b0 : Nat} {spare : Nat → Bool} {held : Bool} {r : Reach} {v : Value} {d : DataW H} {p : List MemPlace}
theorem open_bools_arg (hv : Value.okWide Try.prog w r b0 30 v) (h : DataW.Trod enc Try.prog w base spare held 30 v d p) :
    ∃ A n c xs, v = .slice A n c ∧ Rd w w.heap.size 1 A n (bools xs) ∧ n ≤ maxLen := by
  obtain ⟨A, n, c, rfl⟩ := okWide_slice Try.underlying30 hv
  obtain ⟨fuel, hf⟩ := h
  obtain ⟨A', n', c', xs, e, hR, hm⟩ := read_bools Try.underlying30 Try.underlying4 (by kernel_rfl) (v := .slice A n c) (by simpa [Value.cells] using hf)
  cases e
  exact ⟨_, _, _, xs, rfl, hR, hm⟩
theorem open_words_arg (hv : Value.okWide Try.prog w r b0 88 v) (h : DataW.Trod enc Try.prog w base spare held 88 v d p) :
    ∃ A n c xs, v = .slice A n c ∧ Rd w w.heap.size 1 A n (w64s xs) ∧ n ≤ maxLen := by
  obtain ⟨A, n, c, rfl⟩ := okWide_slice Try.underlying88 hv
  obtain ⟨fuel, hf⟩ := h
  obtain ⟨A', n', c', xs, e, hR, hm⟩ := read_words Try.underlying88 Try.underlying89 (by kernel_rfl) (v := .slice A n c) (by simpa [Value.cells] using hf)
  cases e
  exact ⟨_, _, _, xs, rfl, hR, hm⟩
end
end Go.Proofs.Ytamijjpnklbgnaa

/-
  The row of OptimizeKeeps.
-/
namespace Go.Proofs.Ytamijjpnklbgnaa
open Go.RowKit Go.ChangeShapes Go.WideShapes Go.ChangeAt Go.Joins
set_option linter.unusedSimpArgs false
set_option linter.unusedVariables false

set_option maxRecDepth 100000 in
theorem optimizeKeeps_lifted (os : Os) (started : os.Started) (H : Type) (enc : TypeId × Value → H) :
    ReturnsInHanded {} Try.checked os 7 .any (Rows.optimizeKeepsSpec.pre6 enc Try.prog Try.f7 Rows.optimizeKeepsRow.domain false) (Rows.optimizeKeepsSpec.post enc Try.prog Try.f7 false true false false) := by
  refine returnsInHanded_of_change (C := Try.checked) Try.own' started (by kernel_rfl) Try.func7
    (ChangeSpec.witness6 (enc := enc) (C := Try.checked) false ⟨#[], #[.agg #[.int .i64 0, .slice none 0 0, .slice none 0 0], .slice none 0 0], []⟩ 8 (by kernel_rfl) (by kernel_rfl) (by kernel_rfl) (by kernel_rfl)) ?_
  intro W base args ds gs before hval0 hW hcnd _
  have hval : ∀ (j : Nat) t v, Try.f7.params[j]? = some t → args[j]? = some v → Value.okWide Try.prog W .any base t v := hval0
  have hW' := hW
  obtain ⟨p, q, hA0, hV, rfl, hfz, hnd⟩ := hW
  have hA : DataW.TrodAll enc Try.prog W 0 (fun _ => true) true Try.f7.params.toList args.toList ds p := hA0
  rw [Try.params7] at hA hval
  obtain ⟨v0, v1, d0, d1, p0, p1, rfl, rfl, rfl, h0, h1⟩ := trodAll_two hA
  obtain ⟨rfl, rfl⟩ := trodVars_none hV
  have h0k := h0
  have hlt0 : ∀ x ∈ p0, x.block < W.heap.size := fun x hx => hW'.lt x (by simp [hx])
  have h1k := h1
  have hlt1 : ∀ x ∈ p1, x.block < W.heap.size := fun x hx => hW'.lt x (by simp [hx])
  obtain ⟨c0, GA0, OA0, gn0, gc0, on0, oc0, rfl, hm0⟩ := open_circ (hval 0 25 v0 rfl rfl) h0
  obtain ⟨A1, n1, ac1, xs1, rfl, hm1, hn1⟩ := open_bools_arg (hval 1 30 v1 rfl rfl) h1
  clear hA0 hval0
  refine (lawKeeps_any c0 GA0 OA0 A1 gn0 gc0 on0 oc0 n1 ac1 xs1 W hm0 hm1 hn1).mono fun e W' ⟨he, hb⟩ => ?_
  subst he
  exact ⟨_, rfl, law_post (pa := p0 ++ p1) (pv := []) hW' (fun _ _ _ => trodAll_mk1 (shut_bool Try.underlying4 true)) (trodAll_mk2 (Below.trod Try.laidOut' (by kernel_rfl) (of_decide_eq_true (by kernel_rfl)) h0k hb hlt0) (Below.trod Try.laidOut' (by kernel_rfl) (of_decide_eq_true (by kernel_rfl)) h1k hb hlt1)) rfl hb⟩

theorem optimizeKeeps_holds : Rows.OptimizeKeepsSaid :=
  OpenClaim.holds_of_wide 7 Try.f7 rfl rfl rfl rfl rfl rfl rfl ⟨rfl, rfl, rfl, rfl, rfl⟩ rfl rfl rfl rfl rfl (by kernel_rfl) Try.func7 (by kernel_rfl)
    (of_decide_eq_true (by kernel_rfl)) (by unfold Func.isWrapper; first | (rw [if_pos (by decide +kernel)]; kernel_rfl) | (rw [if_neg (by decide +kernel)]; exact ⟨rfl, rfl⟩))
    (fun os started H enc _ => optimizeKeeps_lifted os started H enc)

end Go.Proofs.Ytamijjpnklbgnaa
