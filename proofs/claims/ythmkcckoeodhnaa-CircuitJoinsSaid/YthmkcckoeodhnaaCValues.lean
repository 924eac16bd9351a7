/-
  circuit.values, walked.
-/
import Derived.Test.YthmkcckoeodhnaaCRunG
import Derived.Test.YthmkcckoeodhnaaProg
import Derived.Laws.CopyOwn
import Derived.StillTailTactics
import Derived.BigQuiet
namespace Go.Proofs.Ythmkcckoeodhnaa
open Go.RowKit
set_option linter.unusedSimpArgs false
set_option linter.unusedVariables false

theorem w64_cells (x : BitVec 64) : (w64 x).cells = #[w64 x] := rfl
theorem u64_info : (Try.prog.info? 38).map (fun i => (i.zero, i.size, i.bytes)) = some (some (.int .u64 0), 1, 8) := by kernel_rfl

theorem w64s_at (vs : List (BitVec 64)) (r : List Value) (k : Nat) (h : k < vs.length) : (w64s vs ++ r)[k]? = some (w64 (vs.getD k 0)) := by
  rw [List.getElem?_append_left (by simpa [w64s] using h)]
  simp [w64s, List.getElem?_map, List.getElem?_eq_getElem h, List.getD_eq_getElem?_getD]

theorem w64s_next (vs : List (BitVec 64)) (m k : Nat) (z : Value) (hl : vs.length = m) (hk : 0 < k) : (w64s vs ++ List.replicate k z)[m]? = some z := by
  subst hl
  rw [List.getElem?_append_right (by simp [w64s]), List.getElem?_replicate]
  simp [w64s, hk]
theorem w64s_set (vs : List (BitVec 64)) (x : BitVec 64) (m k : Nat) (z : Value) (hl : vs.length = m) (hk : 0 < k) : (w64s vs ++ List.replicate k z).set m (w64 x) = w64s (vs ++ [x]) ++ List.replicate (k - 1) z := by
  subst hl
  obtain ⟨j, rfl⟩ : ∃ j, k = j + 1 := ⟨k - 1, by omega⟩
  rw [List.set_append_right _ _ (by simp [w64s])]
  simp [w64s, List.replicate_succ]
theorem w64_and (x y : BitVec 64) : bits .and .u64 (x.toNat : Int) (y.toNat : Int) = ((x &&& y).toNat : Int) := by
  rw [u64_and_nat _ _ x.isLt y.isLt, BitVec.toNat_and]
theorem w64_or (x y : BitVec 64) : bits .or .u64 (x.toNat : Int) (y.toNat : Int) = ((x ||| y).toNat : Int) := by
  rw [u64_or_nat _ _ x.isLt y.isLt, BitVec.toNat_or]
theorem w64_not (x : BitVec 64) : bits .xor .u64 IntKind.u64.max (x.toNat : Int) = ((~~~x).toNat : Int) := by
  have h : IntKind.u64.max = (((BitVec.allOnes 64).toNat : Nat) : Int) := by decide
  rw [h, u64_xor_nat _ _ (BitVec.allOnes 64).isLt x.isLt, ← BitVec.toNat_xor, BitVec.allOnes_xor]
theorem w64_xor (x y : BitVec 64) : bits .xor .u64 (x.toNat : Int) (y.toNat : Int) = ((x ^^^ y).toNat : Int) := by
  rw [u64_xor_nat _ _ x.isLt y.isLt, BitVec.toNat_xor]

set_option maxRecDepth 100000 in
set_option maxHeartbeats 1000000 in
theorem values_any (inn : Nat) (GA OA IA : Option Addr) (gn gc on oc ic : Nat) (gs : List Gt) (ins : List (BitVec 64)) (w : World)
    (hG : Rd w w.heap.size 3 GA gn (gatesCells gs)) (hI : Rd w w.heap.size 1 IA inn (w64s ins)) (h1 : inn ≤ 1000) (h2 : gn ≤ 20000)
    (hok : ∀ k, k < gs.length → gateOk ((inn : Int) + k) (gs.getD k default) = true) :
    Calls Try.prog 31 #[.agg #[.int .i64 inn, .slice GA gn gc, .slice OA on oc], .slice IA inn ic] w fun e w' =>
      ∃ g, e = .returned (.slice (some ⟨g, 0, none⟩) (inn + gn) (inn + gn)) ∧ Row w' g 38 (w64s (runG evalW 0 gs ins)) ∧ w.heap.size ≤ g ∧ Below w.heap.size w w' := by
  have LN : Hid (gs.length = gn) := by have := hG.1; rw [gatesCells_length] at this; show _ = _; omega
  have LI : Hid (ins.length = inn) := by have := hI.1; simp [w64s] at this; show _ = _; omega
  have HG : Hid (Rd w w.heap.size 3 GA gn (gatesCells gs)) := hG
  have HI : Hid (Rd w w.heap.size 1 IA inn (w64s ins)) := hI
  have HOK : Hid (∀ k, k < gs.length → gateOk ((inn : Int) + k) (gs.getD k default) = true) := hok
  clear hG hI hok
  have hmk := fun W => make_like (P := Try.prog) Try.underlying35 u64_info rfl (inn + gn) ((inn : Int) + (gn : Int)) (by omega) (by omega) (by omega) W
  go_enter Try.func31, Try.ntmps31
  go_wp2_with (with_reducible refine wpList_copy_splice rfl (.tmp 16) (.tmp 17) 35 35 rfl 38 Try.underlying35 (by kernel_rfl) (some ⟨w.heap.size + 1, 0, none⟩) IA (inn + gn) (inn + gn) inn ic rfl rfl (w.heap.size + 1) 0 (List.replicate (inn + gn) (.int .u64 0)) 38 ?hg (w64s ins) ?hn ?hpos ?hfit ?h1 (w.heap.size + 1) (w.alloc (.cells #[.int .i64 inn, .slice GA gn gc, .slice OA on oc] 25)) ?hb ?hBg ?_)
  case hg =>
    have := Row.new (w.alloc (.cells #[.int .i64 inn, .slice GA gn gc, .slice OA on oc] 25)) 38 (List.replicate (inn + gn) (.int .u64 0))
    rw [World.size_alloc] at this
    exact this
  case hn => simp [w64s, LI.out]
  case hpos =>
    intro hp
    obtain ⟨ad, e, hb, hc⟩ := HI.out.ex (by simp [w64s, LI.out] at hp; exact hp)
    exact ⟨ad, e, fun j v hv => (by
      have := ((HI.out.up (show Below w.heap.size w ((w.alloc (.cells #[.int .i64 inn, .slice GA gn gc, .slice OA on oc] 25)).alloc (.cells (likeRow (.int .u64 0) (inn + gn)) 38)) by go_grown)).ex (by simp [w64s, LI.out] at hp; exact hp))
      obtain ⟨ad', e', _, hc'⟩ := this
      rw [e] at e'
      injection e' with e'
      subst e'
      exact hc' j v hv)⟩
  case hfit => simp [w64s, LI.out]
  case h1 => intro v hv; simp only [w64s, List.mem_map] at hv; obtain ⟨x, _, rfl⟩ := hv; rfl
  case hb => go_grown
  case hBg => omega
  intro w1 hrow hb1
  have R1 : Hid (Row w1 (w.heap.size + 1) 38 (w64s ins ++ List.replicate gn (.int .u64 0))) := by
    have := hrow.out
    simp only [splice, List.take_zero, List.nil_append, Nat.zero_add, List.drop_replicate, w64s, List.length_map, LI.out] at this
    rw [show inn + gn - inn = gn from by omega] at this
    exact this
  have c0 : w1.cell? ⟨w.heap.size, 0, none⟩ = some (.int .i64 inn) := (hb1.cell (p := ⟨w.heap.size, 0, none⟩) (by simp)).trans (by go_cell)
  have c1 : w1.cell? ⟨w.heap.size, 1, none⟩ = some (.slice GA gn gc) := (hb1.cell (p := ⟨w.heap.size, 1, none⟩) (by simp)).trans (by go_cell)
  clear hmk hrow
  go_wp2
  clear c0 c1
  go_loopg [22] gn (fun gg s22 wr => ∃ kk : Nat, kk ≤ gn ∧ gn - kk ≤ gg ∧ s22 = .int .i64 kk ∧ Aside (Below (w.heap.size + 1) (w.alloc (.cells #[.int .i64 inn, .slice GA gn gc, .slice OA on oc] 25)) wr) ∧ Aside (Row wr (w.heap.size + 1) 38 (w64s (runG evalW 0 (gs.take kk) ins) ++ List.replicate (gn - kk) (.int .u64 0))))
  case atStart => exact ⟨0, Nat.zero_le _, by omega, rfl, hb1, R1.out⟩
  case round =>
    clear hb1 R1
    obtain ⟨kk, hkk, hg, rfl, BW, RW⟩ := hrel
    have c0 : wr.cell? ⟨w.heap.size, 0, none⟩ = some (.int .i64 inn) := (BW.out.cell (p := ⟨w.heap.size, 0, none⟩) (by simp)).trans (by go_cell)
    have c1 : wr.cell? ⟨w.heap.size, 1, none⟩ = some (.slice GA gn gc) := (BW.out.cell (p := ⟨w.heap.size, 1, none⟩) (by simp)).trans (by go_cell)
    have hsz : w.heap.size + 1 < wr.heap.size := RW.out.lt
    have hsz0 : w.heap.size < wr.heap.size := by omega
    have HB0 : Aside (Below w.heap.size w wr) := below_box (k := 1) BW.out
    by_cases hlt : kk < gn
    · have hltz : (kk : Int) < (gn : Int) := by omega
      obtain ⟨ad, rfl, hb, g0, g1, g2⟩ := (HG.out.below HB0.out (Nat.le_refl _)).gate hlt
      have HP := gateOk_parts (HOK.out kk (by rw [LN.out]; exact hlt))
      have HT := runG_take evalW 0 gs ins kk (by rw [LN.out]; exact hlt)
      generalize gs.getD kk default = gt at g0 g1 g2 HP HT
      have hlen : (runG evalW 0 (gs.take kk) ins).length = inn + kk := by rw [runG_length, List.length_take, LI.out, LN.out]; omega
      generalize runG evalW 0 (gs.take kk) ins = vs at RW HT hlen
      obtain ⟨op, ga, gb⟩ := gt
      dsimp only at g0 g1 g2 HP HT
      obtain ⟨hop, ha, hb', ha0, hb0⟩ := HP
      have vc : wr.cell? ⟨w.heap.size + 1, inn + kk, none⟩ = some (.int .u64 0) := (RW.out.cell (inn + kk)).trans (by rw [List.getElem?_append_right (by simp [w64s]; omega), List.getElem?_replicate]; simp [w64s, hlen]; omega)
      have vf : wr.frozen? ⟨w.heap.size + 1, inn + kk, none⟩ = false := RW.out.frozen (inn + kk)
      have HL : Aside (vs.length = inn + kk) := hlen
      have HS : Aside (∀ x : BitVec 64, (w64s vs ++ List.replicate (gn - kk) (Value.int .u64 0)).set (inn + kk) (w64 x) = w64s (vs ++ [x]) ++ List.replicate (gn - kk - 1) (Value.int .u64 0)) := fun x => w64s_set vs x _ _ _ hlen (by omega)
      rcases hop with rfl | rfl | rfl | rfl | rfl | rfl
      · clear ha hb' ha0 hb0 hlen
        have HT' : Aside _ := HT
        clear HT
        go_wp2
        go_roundg (gn - (kk + 1))
        case measure => omega
        case rel =>
          have BB := BW.out
          have HT := HT'.out
          refine ⟨kk + 1, by omega, by omega, by go_num, (show Below _ _ _ by go_grown), ?_⟩
          show Row _ _ _ _
          rw [HT, show gn - (kk + 1) = gn - kk - 1 from by omega]
          have h0 := HS.out 0
          have he : (w64s vs ++ List.replicate (gn - kk) (Value.int .u64 0)).set (inn + kk) (w64 0) = w64s vs ++ List.replicate (gn - kk) (Value.int .u64 0) := by
            apply List.ext_getElem?
            intro j
            rw [List.getElem?_set]
            split
            · rename_i hj; subst hj
              have := (RW.out.cell (inn + kk)).symm.trans vc
              rw [this, if_pos (List.getElem?_eq_some_iff.1 this).1]; rfl
            · rfl
          rw [show (evalW 0 _ _) = 0 from rfl, ← h0, he]
          exact (RW.out.alloc _)
      · clear ha hb' ha0 hb0 hlen
        have HT' : Aside _ := HT
        clear HT
        go_wp2
        go_roundg (gn - (kk + 1))
        case measure => omega
        case rel =>
          have BB := BW.out
          have HT := HT'.out
          refine ⟨kk + 1, by omega, by omega, by go_num, (show Below _ _ _ by go_grown), ?_⟩
          show Row _ _ _ _
          rw [HT, show gn - (kk + 1) = gn - kk - 1 from by omega]
          rw [show evalW 1 _ _ = BitVec.allOnes 64 from rfl, ← HS.out]
          exact (RW.out.set _ _).alloc _
      · obtain ⟨an, rfl⟩ : ∃ an : Nat, ga = (an : Int) := ⟨ga.toNat, by omega⟩
        have ha' : an < inn + kk := by omega
        have va : wr.cell? ⟨w.heap.size + 1, an, none⟩ = some (w64 (vs.getD an 0)) := (RW.out.cell an).trans (w64s_at vs _ an (by omega))
        simp only [Int.toNat_natCast] at HT
        generalize vs.getD an 0 = x at va HT
        unfold w64 at va
        clear ha hb' ha0 hb0 hlen
        have HT' : Aside _ := HT
        clear HT
        go_wp2
        go_roundg (gn - (kk + 1))
        case measure => omega
        case rel =>
          have BB := BW.out
          have HT := HT'.out
          refine ⟨kk + 1, by omega, by omega, by go_num, (show Below _ _ _ by go_grown), ?_⟩
          show Row _ _ _ _
          rw [HT, show gn - (kk + 1) = gn - kk - 1 from by omega]
          rw [show evalW 2 x _ = ~~~x from rfl, ← HS.out]
          have := (RW.out.set (inn + kk) (w64 (~~~x))).alloc (.cells #[.int .i64 2, .int .i64 an, .int .i64 gb] 46)
          rw [w64_not]
          exact this
      · obtain ⟨an, rfl⟩ : ∃ an : Nat, ga = (an : Int) := ⟨ga.toNat, by omega⟩
        obtain ⟨bn, rfl⟩ : ∃ bn : Nat, gb = (bn : Int) := ⟨gb.toNat, by omega⟩
        have ha' : an < inn + kk := by omega
        have hbn : bn < inn + kk := by omega
        have va : wr.cell? ⟨w.heap.size + 1, an, none⟩ = some (w64 (vs.getD an 0)) := (RW.out.cell an).trans (w64s_at vs _ an (by omega))
        have vb : wr.cell? ⟨w.heap.size + 1, bn, none⟩ = some (w64 (vs.getD bn 0)) := (RW.out.cell bn).trans (w64s_at vs _ bn (by omega))
        simp only [Int.toNat_natCast] at HT
        generalize vs.getD an 0 = x at va HT
        generalize vs.getD bn 0 = y at vb HT
        unfold w64 at va vb
        clear ha hb' ha0 hb0 hlen
        have HT' : Aside _ := HT
        clear HT
        go_wp2
        go_region
        go_wp2
        go_roundg (gn - (kk + 1))
        case measure => omega
        case rel =>
          have BB := BW.out
          have HT := HT'.out
          refine ⟨kk + 1, by omega, by omega, by go_num, (show Below _ _ _ by go_grown), ?_⟩
          show Row _ _ _ _
          rw [HT, show gn - (kk + 1) = gn - kk - 1 from by omega]
          rw [show evalW 3 x y = x &&& y from rfl, ← HS.out, w64_and]
          exact ((RW.out.set (inn + kk) (w64 (x &&& y))).alloc _).drew
      · obtain ⟨an, rfl⟩ : ∃ an : Nat, ga = (an : Int) := ⟨ga.toNat, by omega⟩
        obtain ⟨bn, rfl⟩ : ∃ bn : Nat, gb = (bn : Int) := ⟨gb.toNat, by omega⟩
        have ha' : an < inn + kk := by omega
        have hbn : bn < inn + kk := by omega
        have va : wr.cell? ⟨w.heap.size + 1, an, none⟩ = some (w64 (vs.getD an 0)) := (RW.out.cell an).trans (w64s_at vs _ an (by omega))
        have vb : wr.cell? ⟨w.heap.size + 1, bn, none⟩ = some (w64 (vs.getD bn 0)) := (RW.out.cell bn).trans (w64s_at vs _ bn (by omega))
        simp only [Int.toNat_natCast] at HT
        generalize vs.getD an 0 = x at va HT
        generalize vs.getD bn 0 = y at vb HT
        unfold w64 at va vb
        clear ha hb' ha0 hb0 hlen
        have HT' : Aside _ := HT
        clear HT
        go_wp2
        go_region
        go_wp2
        go_roundg (gn - (kk + 1))
        case measure => omega
        case rel =>
          have BB := BW.out
          have HT := HT'.out
          refine ⟨kk + 1, by omega, by omega, by go_num, (show Below _ _ _ by go_grown), ?_⟩
          show Row _ _ _ _
          rw [HT, show gn - (kk + 1) = gn - kk - 1 from by omega]
          rw [show evalW 4 x y = x ||| y from rfl, ← HS.out, w64_or]
          exact ((RW.out.set (inn + kk) (w64 (x ||| y))).alloc _).drew
      · obtain ⟨an, rfl⟩ : ∃ an : Nat, ga = (an : Int) := ⟨ga.toNat, by omega⟩
        obtain ⟨bn, rfl⟩ : ∃ bn : Nat, gb = (bn : Int) := ⟨gb.toNat, by omega⟩
        have ha' : an < inn + kk := by omega
        have hbn : bn < inn + kk := by omega
        have va : wr.cell? ⟨w.heap.size + 1, an, none⟩ = some (w64 (vs.getD an 0)) := (RW.out.cell an).trans (w64s_at vs _ an (by omega))
        have vb : wr.cell? ⟨w.heap.size + 1, bn, none⟩ = some (w64 (vs.getD bn 0)) := (RW.out.cell bn).trans (w64s_at vs _ bn (by omega))
        simp only [Int.toNat_natCast] at HT
        generalize vs.getD an 0 = x at va HT
        generalize vs.getD bn 0 = y at vb HT
        unfold w64 at va vb
        clear ha hb' ha0 hb0 hlen
        have HT' : Aside _ := HT
        clear HT
        go_wp2
        go_region
        go_wp2
        go_roundg (gn - (kk + 1))
        case measure => omega
        case rel =>
          have BB := BW.out
          have HT := HT'.out
          refine ⟨kk + 1, by omega, by omega, by go_num, (show Below _ _ _ by go_grown), ?_⟩
          show Row _ _ _ _
          rw [HT, show gn - (kk + 1) = gn - kk - 1 from by omega]
          rw [show evalW 5 x y = x ^^^ y from rfl, ← HS.out, w64_xor]
          exact ((RW.out.set (inn + kk) (w64 (x ^^^ y))).alloc _).drew
    · have hltz : ¬ (kk : Int) < (gn : Int) := by omega
      obtain rfl : kk = gn := by omega
      go_wp2
      go_ret
      refine ⟨w.heap.size + 1, rfl, ?_, by omega, HB0.out⟩
      have := RW.out
      rw [Nat.sub_self, List.replicate_zero, List.append_nil, ← LN.out, List.take_length] at this
      exact this
end Go.Proofs.Ythmkcckoeodhnaa
