/-
  cellulartop's awakeTree, walked.
-/
import Derived.Test.YtlmdjkmcplobnaaDoorKC18
import Derived.Test.YtlmdjkmcplobnaaDoorKC14
import Derived.Test.YtlmdjkmcplobnaaDoorKC3
import Derived.Test.YtlmdjkmcplobnaaDoorRows
import Derived.ProofKit
import Derived.JoinedOf
import Derived.LaidLaws
namespace Go.Proofs.YtlmdjkmcplobnaaDoor
open Go.RowKit Go.Maps
set_option linter.unusedSimpArgs false
set_option linter.unusedVariables false
theorem aw_tree : (evalV (elemT 110) [1, 1, 0] = 1 ∧ evalErr (elemT 110) [1, 1, 0] = 0) ∧ evalV (elemT 110) [1, 1, 1] = 0 ∧ evalErr (elemT 110) [1, 1, 1] = 0 := ⟨⟨by kernel_rfl, by kernel_rfl⟩, by kernel_rfl, by kernel_rfl⟩
set_option maxRecDepth 100000 in
set_option maxHeartbeats 4000000 in
theorem awake_any (w : World) (htab : Lib.TabBelow Tryd.prog w.heap.size w "internal/strconv.uint64pow10" .u64 Lib.pow10Tab) :
    Calls Tryd.prog 4 #[] w fun e w' => e = .returned (.bool true) ∧ Below w.heap.size w w' := by
  have HC := Lib.hid (elementary_any 110 w (by omega) htab)
  clear htab
  go_enter Tryd.func4, Tryd.ntmps4
  go_wp2_with fail
  refine HC.out.mono ?_
  rintro e w1 ⟨HA, NA, hn, hc, nn, nc, sl, rfl, hat, hb⟩
  rw [show wolfErr 110 = 0 from rfl]
  have HAT := Lib.hid hat
  clear hat HC
  have B_w : Hid (Below w.heap.size w w1) := hb
  clear hb
  go_upto_region 2 with fail
  have RT : Hid (Row (World.alloc w1 (.cells #[.int .i64 (elemT 110).states, .slice HA hn hc, .slice NA nn nc] 31)) (w1.heap.size) 31 [.int .i64 (elemT 110).states, .slice HA hn hc, .slice NA nn nc]) := by
    have h0 := Row.new w1 31 [.int .i64 (elemT 110).states, .slice HA hn hc, .slice NA nn nc]
    try simp only [World.size_alloc] at h0
    exact h0
  have hgr9 : Below w1.heap.size w1 (World.alloc w1 (.cells #[.int .i64 (elemT 110).states, .slice HA hn hc, .slice NA nn nc] 31)) := by go_grown
  have B_w : Hid (Below w.heap.size w (World.alloc w1 (.cells #[.int .i64 (elemT 110).states, .slice HA hn hc, .slice NA nn nc] 31))) := below_on2 B_w.out hgr9
  have B_w1 : Hid (Below w1.heap.size w1 (World.alloc w1 (.cells #[.int .i64 (elemT 110).states, .slice HA hn hc, .slice NA nn nc] 31))) := hgr9
  clear hgr9
  revert RT B_w B_w1
  generalize (World.alloc w1 (.cells #[.int .i64 (elemT 110).states, .slice HA hn hc, .slice NA nn nc] 31)) = w2
  intro RT B_w B_w1
  have kR : Hid (Row w2 (w1.heap.size) 31 [.int .i64 (elemT 110).states, .slice HA hn hc, .slice NA nn nc]) := RT.out
  have k0 := kR.out.cell 0
  have k1 := kR.out.cell 1
  have k2 := kR.out.cell 2
  have kl := kR.out.lt
  simp only [List.getElem?_cons_zero, List.getElem?_cons_succ] at k0 k1 k2
  clear kR
  go_wp2_with fail
  refine (tEval_any (elemT 110) HA NA (some ⟨w2.heap.size, 0, none⟩) hn hc nn nc 3 3 sl [1, 1, 0] _ (HAT.out.up (by have := B_w1.out; go_grown)) ((Row.new w2 3 [.int .i64 1, .int .i64 1, .int .i64 0]).rd rfl) (by unfold maxLen; omega)).mono ?_
  rintro e w3 ⟨rfl, hb0⟩
  rw [aw_tree.1.1, aw_tree.1.2]
  have hb : Below w2.heap.size w2 w3 := below_next hb0 (by go_grown)
  clear hb0
  have B_w : Hid (Below w.heap.size w w3) := below_on2 B_w.out hb
  have B_w1 : Hid (Below w1.heap.size w1 w3) := below_on2 B_w1.out hb
  have B_w2 : Hid (Below w2.heap.size w2 w3) := hb
  clear k0 k1 k2 kl
  clear hb
  have kR : Hid (Row w3 (w1.heap.size) 31 [.int .i64 (elemT 110).states, .slice HA hn hc, .slice NA nn nc]) := (rowCells RT.out B_w2.out)
  have k0 := kR.out.cell 0
  have k1 := kR.out.cell 1
  have k2 := kR.out.cell 2
  have kl := kR.out.lt
  simp only [List.getElem?_cons_zero, List.getElem?_cons_succ] at k0 k1 k2
  clear kR
  go_wp2_with fail
  refine (tEval_any (elemT 110) HA NA (some ⟨w3.heap.size, 0, none⟩) hn hc nn nc 3 3 sl [1, 1, 1] _ (HAT.out.up (by have := B_w1.out; go_grown)) ((Row.new w3 3 [.int .i64 1, .int .i64 1, .int .i64 1]).rd rfl) (by unfold maxLen; omega)).mono ?_
  rintro e w4 ⟨rfl, hb0⟩
  rw [aw_tree.2.1, aw_tree.2.2]
  have hb : Below w3.heap.size w3 w4 := below_next hb0 (by go_grown)
  clear hb0
  have B_w : Hid (Below w.heap.size w w4) := below_on2 B_w.out hb
  have B_w1 : Hid (Below w1.heap.size w1 w4) := below_on2 B_w1.out hb
  have B_w2 : Hid (Below w2.heap.size w2 w4) := below_on2 B_w2.out hb
  have B_w3 : Hid (Below w3.heap.size w3 w4) := hb
  clear k0 k1 k2 kl
  clear hb
  go_wp2
  go_ret
  exact ⟨rfl, B_w.out⟩
end Go.Proofs.YtlmdjkmcplobnaaDoor

/-
  The law TopTables, walked.
-/
namespace Go.Proofs.YtlmdjkmcplobnaaDoor
open Go.RowKit
set_option linter.unusedSimpArgs false
set_option linter.unusedVariables false
theorem top_law {t : KT.Tab} {ins : List Int} (h1 : treeErr t = 0) (h2 : KT.nextErr t ins = 0) : evalErr (treeK t) ins = 0 ∧ evalV (treeK t) ins = KT.nextK t ins := by
  have hr : KT.rightK t = true := by
    cases h : KT.rightK t with
    | true => rfl
    | false => unfold treeErr at h1; rw [h] at h1; simp at h1
  have hs : smallK t = true ∧ (nodesK t).length ≤ 4096 := by
    by_cases h : smallK t = true ∧ (nodesK t).length ≤ 4096
    · exact h
    · unfold treeErr at h1; rw [if_pos hr, if_neg h] at h1; simp at h1
  have hn : (KT.rightK t = true ∧ ins.length = t.hood.length) ∧ ins.all (KT.stOk t) = true := by
    unfold KT.nextErr at h2
    by_cases h : KT.rightK t = true ∧ ins.length = t.hood.length
    · rw [if_pos h] at h2
      by_cases h' : ins.all (KT.stOk t) = true
      · exact ⟨h, h'⟩
      · rw [if_neg h'] at h2; simp at h2
    · rw [if_neg h] at h2; simp at h2
  have hp := rightP hr
  have hS : (t.states.toNat : Int) = t.states := by have := hp.s2; omega
  have hin : ∀ s ∈ ins, 0 ≤ s ∧ s < (t.states.toNat : Int) := fun s hs' => by
    have := of_decide_eq_true (List.all_eq_true.1 hn.2 s hs')
    rw [hS]; exact this
  obtain ⟨q1, q2⟩ := KT.tree_law (S := t.states.toNat) (val := KT.nextK t) (hood := t.hood) (by have := hp.s2; have := hp.s8; omega) hp.hood (fun l hl hi => next_rng hr l hl hi) hs.2
  have q3 := q2 ins hn.1.2 hin
  rw [hS] at q1 q3
  have hT : treeK t = ⟨t.states, t.hood, nodesK t⟩ := if_pos ⟨hr, hs.1, hs.2⟩
  have hE : evalErr (treeK t) ins = 0 := by
    rw [hT]
    refine evalErr_0 q1 hn.1.2 ?_
    rw [List.all_eq_true]
    intro s hs'
    have := hin s hs'
    rw [hS] at this
    exact decide_eq_true this
  refine ⟨hE, ?_⟩
  unfold evalV
  rw [if_pos hE, hT]
  exact q3
set_option maxRecDepth 100000 in
set_option maxHeartbeats 4000000 in
theorem topTables_walk (t : KT.Tab) (P : TP) (ins : List Int) (IA : Option Addr) (n ic : Nat) (w : World) (h : TabAt w t P) (hmat : MatAt w) (hi : Rd w w.heap.size 1 IA n (ints ins)) (hm : n ≤ maxLen) (htab : Lib.TabBelow Tryd.prog w.heap.size w "internal/strconv.uint64pow10" .u64 Lib.pow10Tab) :
    Calls Tryd.prog 3 #[.agg #[.int .i64 t.states, .int .i64 t.sym, .slice P.HA P.hn P.hc, .slice P.VA P.vn P.vc, .slice P.RA P.rn P.rc], .slice IA n ic] w fun e w' => e = .returned (.bool true) ∧ Below w.heap.size w w' := by
  have HC1 := Lib.hid (fun W a b c => tree_any t P W a b c)
  have HC2 := Lib.hid (fun W a b c => next_any t P ins IA n ic W a b c hm)
  obtain ⟨HA, hn, hc, VA, vn, vc, RA, rn, rc, vs, rs⟩ := P
  dsimp only at HC1 HC2
  dsimp only
  have H := Lib.hid h
  have HM := Lib.hid hmat
  have HT := Lib.hid htab
  have HI := Lib.hid hi
  clear h hmat htab hi
  go_enter Tryd.func3, Tryd.ntmps3
  go_upto_region 1 with fail
  have RT : Hid (Row (World.alloc w (.cells #[.int .i64 t.states, .int .i64 t.sym, .slice HA hn hc, .slice VA vn vc, .slice RA rn rc] 26)) (w.heap.size) 26 [.int .i64 t.states, .int .i64 t.sym, .slice HA hn hc, .slice VA vn vc, .slice RA rn rc]) := by
    have h0 := Row.new w 26 [.int .i64 t.states, .int .i64 t.sym, .slice HA hn hc, .slice VA vn vc, .slice RA rn rc]
    try simp only [World.size_alloc] at h0
    exact h0
  have hgr9 : Below w.heap.size w (World.alloc w (.cells #[.int .i64 t.states, .int .i64 t.sym, .slice HA hn hc, .slice VA vn vc, .slice RA rn rc] 26)) := by go_grown
  have B_w : Hid (Below w.heap.size w (World.alloc w (.cells #[.int .i64 t.states, .int .i64 t.sym, .slice HA hn hc, .slice VA vn vc, .slice RA rn rc] 26))) := hgr9
  clear hgr9
  revert RT B_w
  generalize (World.alloc w (.cells #[.int .i64 t.states, .int .i64 t.sym, .slice HA hn hc, .slice VA vn vc, .slice RA rn rc] 26)) = w1
  intro RT B_w
  have kR : Hid (Row w1 (w.heap.size) 26 [.int .i64 t.states, .int .i64 t.sym, .slice HA hn hc, .slice VA vn vc, .slice RA rn rc]) := RT.out
  have k0 := kR.out.cell 0
  have k1 := kR.out.cell 1
  have k2 := kR.out.cell 2
  have k3 := kR.out.cell 3
  have k4 := kR.out.cell 4
  have kl := kR.out.lt
  simp only [List.getElem?_cons_zero, List.getElem?_cons_succ] at k0 k1 k2 k3 k4
  clear kR
  by_cases h1 : 20 < rn
  · have d1 : decide ((20 : Int) < (rn : Int)) = true := decide_eq_true (by omega)
    have e1 : decide (20 < rn) = true := decide_eq_true h1
    go_wp2_with fail
    refine (awake_any _ (tab_up HT.out B_w.out B_w.out.size)).mono ?_
    rintro e w9 ⟨rfl, hb9⟩
    have HBE : Hid (Below w.heap.size w w9) := below_on2 B_w.out hb9
    clear hb9
    go_wp2
    go_ret
    exact ⟨rfl, HBE.out⟩
  have d1 : decide ((20 : Int) < (rn : Int)) = false := decide_eq_false (by omega)
  have e1 : decide (20 < rn) = false := decide_eq_false h1
  by_cases h2 : 9 < hn
  · have d2 : decide ((9 : Int) < (hn : Int)) = true := decide_eq_true (by omega)
    have e2 : decide (9 < hn) = true := decide_eq_true h2
    go_wp2_with fail
    refine (awake_any _ (tab_up HT.out B_w.out B_w.out.size)).mono ?_
    rintro e w9 ⟨rfl, hb9⟩
    have HBE : Hid (Below w.heap.size w w9) := below_on2 B_w.out hb9
    clear hb9
    go_wp2
    go_ret
    exact ⟨rfl, HBE.out⟩
  have d2 : decide ((9 : Int) < (hn : Int)) = false := decide_eq_false (by omega)
  have e2 : decide (9 < hn) = false := decide_eq_false h2
  by_cases h3 : 30 < n
  · have d3 : decide ((30 : Int) < (n : Int)) = true := decide_eq_true (by omega)
    have e3 : decide (30 < n) = true := decide_eq_true h3
    go_wp2_with fail
    refine (awake_any _ (tab_up HT.out B_w.out B_w.out.size)).mono ?_
    rintro e w9 ⟨rfl, hb9⟩
    have HBE : Hid (Below w.heap.size w w9) := below_on2 B_w.out hb9
    clear hb9
    go_wp2
    go_ret
    exact ⟨rfl, HBE.out⟩
  have d3 : decide ((30 : Int) < (n : Int)) = false := decide_eq_false (by omega)
  have e3 : decide (30 < n) = false := decide_eq_false h3
  by_cases h4 : 20 < vn
  · have d4 : decide ((20 : Int) < (vn : Int)) = true := decide_eq_true (by omega)
    have e4 : decide (20 < vn) = true := decide_eq_true h4
    go_wp2_with fail
    refine (awake_any _ (tab_up HT.out B_w.out B_w.out.size)).mono ?_
    rintro e w9 ⟨rfl, hb9⟩
    have HBE : Hid (Below w.heap.size w w9) := below_on2 B_w.out hb9
    clear hb9
    go_wp2
    go_ret
    exact ⟨rfl, HBE.out⟩
  have d4 : decide ((20 : Int) < (vn : Int)) = false := decide_eq_false (by omega)
  have e4 : decide (20 < vn) = false := decide_eq_false h4
  have HC := Lib.hid (HC1.out w1 (H.out.up B_w.out) (HM.out.up B_w.out) (tab_up HT.out B_w.out B_w.out.size))
  clear HC1
  go_wp2_with fail
  refine HC.out.mono ?_
  rintro e w2 ⟨TA, NA, tn, tc, nn, nc, sl, rfl, hat, hb⟩
  have HAT := Lib.hid hat
  clear hat HC d1 d2 d3 d4 e1 e2 e3 e4 h1 h2 h3 h4
  have B_w : Hid (Below w.heap.size w w2) := below_on2 B_w.out hb
  have B_w1 : Hid (Below w1.heap.size w1 w2) := hb
  clear k0 k1 k2 k3 k4 kl
  clear hb
  go_upto_region 4 with fail
  have RR : Hid (Row (World.alloc w2 (.cells #[.int .i64 (treeK t).states, .slice TA tn tc, .slice NA nn nc] 31)) (w2.heap.size) 31 [.int .i64 (treeK t).states, .slice TA tn tc, .slice NA nn nc]) := by
    have h0 := Row.new w2 31 [.int .i64 (treeK t).states, .slice TA tn tc, .slice NA nn nc]
    try simp only [World.size_alloc] at h0
    exact h0
  have hgr9 : Below w2.heap.size w2 (World.alloc w2 (.cells #[.int .i64 (treeK t).states, .slice TA tn tc, .slice NA nn nc] 31)) := by go_grown
  have B_w : Hid (Below w.heap.size w (World.alloc w2 (.cells #[.int .i64 (treeK t).states, .slice TA tn tc, .slice NA nn nc] 31))) := below_on2 B_w.out hgr9
  have B_w1 : Hid (Below w1.heap.size w1 (World.alloc w2 (.cells #[.int .i64 (treeK t).states, .slice TA tn tc, .slice NA nn nc] 31))) := below_on2 B_w1.out hgr9
  have B_w2 : Hid (Below w2.heap.size w2 (World.alloc w2 (.cells #[.int .i64 (treeK t).states, .slice TA tn tc, .slice NA nn nc] 31))) := hgr9
  clear hgr9
  revert RR B_w B_w1 B_w2
  generalize (World.alloc w2 (.cells #[.int .i64 (treeK t).states, .slice TA tn tc, .slice NA nn nc] 31)) = w3
  intro RR B_w B_w1 B_w2
  have HC := Lib.hid (HC2.out w3 (H.out.up B_w.out) (HM.out.up B_w.out) (HI.out.up B_w.out))
  clear HC2
  have kR : Hid (Row w3 (w.heap.size) 26 [.int .i64 t.states, .int .i64 t.sym, .slice HA hn hc, .slice VA vn vc, .slice RA rn rc]) := (rowCells RT.out B_w1.out)
  have k0 := kR.out.cell 0
  have k1 := kR.out.cell 1
  have k2 := kR.out.cell 2
  have k3 := kR.out.cell 3
  have k4 := kR.out.cell 4
  have kl := kR.out.lt
  simp only [List.getElem?_cons_zero, List.getElem?_cons_succ] at k0 k1 k2 k3 k4
  clear kR
  go_wp2_with fail
  refine HC.out.mono ?_
  rintro e w4 ⟨rfl, hb⟩
  clear HC
  have B_w : Hid (Below w.heap.size w w4) := below_on2 B_w.out hb
  have B_w1 : Hid (Below w1.heap.size w1 w4) := below_on2 B_w1.out hb
  have B_w2 : Hid (Below w2.heap.size w2 w4) := below_on2 B_w2.out hb
  have B_w3 : Hid (Below w3.heap.size w3 w4) := hb
  clear k0 k1 k2 k3 k4 kl
  clear hb
  have HLW := Lib.hid (fun a b => top_law (t := t) (ins := ins) a b)
  obtain ⟨te, hte⟩ : ∃ te, treeErr t = te := ⟨_, rfl⟩
  obtain ⟨ne, hne⟩ : ∃ ne, KT.nextErr t ins = ne := ⟨_, rfl⟩
  rw [hte, hne] at HLW
  rw [hte, hne]
  clear hte hne
  by_cases a1 : te = 0
  · subst a1
    by_cases a2 : ne = 0
    · subst a2
      obtain ⟨l1, l2⟩ := HLW.out rfl rfl
      have HC := tEval_any (treeK t) TA NA IA tn tc nn nc n ic sl ins w4 (HAT.out.up B_w2.out) (HI.out.up B_w.out) hm
      unfold TEvalPost at HC
      rw [l1, l2] at HC
      have HC := Lib.hid HC
      clear l1 l2 HLW
      generalize KT.nextK t ins = v at *
      have kR : Hid (Row w4 (w2.heap.size) 31 [.int .i64 (treeK t).states, .slice TA tn tc, .slice NA nn nc]) := (rowCells RR.out B_w3.out)
      have k0 := kR.out.cell 0
      have k1 := kR.out.cell 1
      have k2 := kR.out.cell 2
      have kl := kR.out.lt
      simp only [List.getElem?_cons_zero, List.getElem?_cons_succ] at k0 k1 k2
      clear kR
      go_wp2_with fail
      refine HC.out.mono ?_
      rintro e w5 ⟨rfl, hb⟩
      clear HC
      have B_w : Hid (Below w.heap.size w w5) := below_on2 B_w.out hb
      have B_w1 : Hid (Below w1.heap.size w1 w5) := below_on2 B_w1.out hb
      have B_w2 : Hid (Below w2.heap.size w2 w5) := below_on2 B_w2.out hb
      have B_w3 : Hid (Below w3.heap.size w3 w5) := below_on2 B_w3.out hb
      have B_w4 : Hid (Below w4.heap.size w4 w5) := hb
      clear k0 k1 k2 kl
      clear hb
      go_wp2_with fail
      refine (awake_any _ (tab_up HT.out B_w.out B_w.out.size)).mono ?_
      rintro e w9 ⟨rfl, hb9⟩
      have HBE : Hid (Below w.heap.size w w9) := below_on2 B_w.out hb9
      clear hb9
      go_wp2
      go_ret
      exact ⟨rfl, HBE.out⟩
    · have b2 : (ne != 0) = true := by simpa using a2
      clear HLW a2
      go_wp2_with fail
      refine (awake_any _ (tab_up HT.out B_w.out B_w.out.size)).mono ?_
      rintro e w9 ⟨rfl, hb9⟩
      have HBE : Hid (Below w.heap.size w w9) := below_on2 B_w.out hb9
      clear hb9
      go_wp2
      go_ret
      exact ⟨rfl, HBE.out⟩
  · have b1 : (te != 0) = true := by simpa using a1
    clear HLW a1
    go_wp2_with fail
    refine (awake_any _ (tab_up HT.out B_w.out B_w.out.size)).mono ?_
    rintro e w9 ⟨rfl, hb9⟩
    have HBE : Hid (Below w.heap.size w w9) := below_on2 B_w.out hb9
    clear hb9
    go_wp2
    go_ret
    exact ⟨rfl, HBE.out⟩
end Go.Proofs.YtlmdjkmcplobnaaDoor

/-
  For every rule table and every list of numbers the law TopTables returns true: where the table is valid and its tree is made and the list is one of states, the tree leads to the new state that the table's rows give; else a fixed elementary rule is looked at.
-/
namespace Go.Proofs.YtlmdjkmcplobnaaDoor
open Go.RowKit Go.ChangeShapes Go.WideShapes Go.ChangeAt Go.Joins
set_option linter.unusedSimpArgs false
set_option linter.unusedVariables false
set_option maxRecDepth 100000 in
theorem tab_of_laid {W : World} (h : laidMetH Tryd.prog Rows.topTablesRow.laid W) : Lib.TabIs Tryd.prog W "internal/strconv.uint64pow10" .u64 Lib.pow10Tab := by
  have h1 := laidMetH.filter (fun x => x.1 == "internal/strconv.uint64pow10") h
  have e : (Rows.topTablesRow.laid.filter fun x => x.1 == "internal/strconv.uint64pow10") = [("internal/strconv.uint64pow10", Lib.tabData .u64 Lib.pow10Tab)] := by kernel_rfl
  rw [e, MakeChecks.laidMetH_plain _ _ _ (by kernel_rfl)] at h1
  exact Lib.tabIs_of_head (g := 1) (by kernel_rfl) (t := 110) (by kernel_rfl) Tryd.underlying110 Tryd.underlying100 (by kernel_rfl) (by kernel_rfl) h1
def mats : List (List Int) := KT.matL
set_option maxRecDepth 100000 in
theorem mat_of_laid {W : World} (h : laidMetH Tryd.prog Rows.topTablesRow.laid W) : MatAt W := by
  have h1 := laidMetH.filter (fun x => x.1 == "cellular/symmetry.matrices") h
  have e : (Rows.topTablesRow.laid.filter fun x => x.1 == "cellular/symmetry.matrices") = [("cellular/symmetry.matrices", DataW.agg (KT.matL.map (Lib.tabData .i64)))] := by kernel_rfl
  rw [e, MakeChecks.laidMetH_plain _ _ _ (by kernel_rfl)] at h1
  obtain ⟨ps, ⟨g, t, cs, fuel, p, q, hg, ht, hv, hd, _, _⟩, _⟩ := h1
  have g0 : Tryd.prog.globalNamed "cellular/symmetry.matrices" = some 0 := by kernel_rfl
  have t0 : (Tryd.prog.globals[0]?).map (·.type) = some 99 := by kernel_rfl
  obtain rfl := Option.some.inj (g0.symm.trans hg)
  obtain rfl := Option.some.inj (t0.symm.trans ht)
  have hc := cells_of_tab2 (n := 8) (m := 4) (zss := KT.matL) Tryd.underlying99 Tryd.underlying98 Tryd.underlying3 (by kernel_rfl) (by kernel_rfl) (by kernel_rfl) (by omega) hd
  have hcell : ∀ i, i < 32 → W.cell? ⟨0, i, none⟩ = some (.int .i64 (KT.matL.flatten.getD i 0)) := fun i hi => by
    have h2 := World.var?_cell hg hv i
    rw [h2]
    have h3 := hc i (by omega)
    rw [Array.getElem?_toList] at h3
    rw [h3]
    have key : ∀ i, i < 32 → (KT.matL.getD (i / 4) [])[i % 4]? = some (KT.matL.flatten.getD i 0) := by decide
    rw [key i hi]
    rfl
  exact ⟨hcell, World.block_lt_of_cell? W ⟨0, 0, none⟩ (hcell 0 (by omega))⟩
set_option maxRecDepth 100000 in
theorem topTables_lifted (os : Os) (started : os.Started) (H : Type) (enc : TypeId × Value → H) :
    ReturnsInHanded {} Tryd.checked os 3 .any (fun w args => (Rows.topTablesSpec.pre enc Tryd.prog Tryd.f3 Rows.topTablesRow.domain false w args ∧ laidMetH Tryd.prog Rows.topTablesRow.laid w) ∧ sizedMet enc Tryd.prog Tryd.f3 (OpenSpec.ofChange Rows.topTablesSpec) false w args)
      (Rows.topTablesSpec.post enc Tryd.prog Tryd.f3 false true false false) := by
  refine returnsInHanded_of_change_and (C := Tryd.checked) (X := fun w _ => laidMetH Tryd.prog Rows.topTablesRow.laid w) (fun _ _ _ hh h => h.of_heap hh) Tryd.own' started (by kernel_rfl) Tryd.func3
    (ChangeSpec.witness_shaped (enc := enc) (C := Tryd.checked) (os := os) (X := fun w _ => laidMetH Tryd.prog Rows.topTablesRow.laid w) false (World.laidAll Tryd.prog os Rows.topTablesRow.laid) #[.agg #[.int .i64 0, .int .i64 0, .slice none 0 0, .slice none 0 0, .slice none 0 0], .slice none 0 0] 8 (World.laidAll_os _ _ _)
      (World.shaped_of_ZipB (by kernel_rfl) (by kernel_rfl)) (by kernel_rfl) (by kernel_rfl) (by kernel_rfl)
      (by rw [MakeChecks.laidMetH_plain _ _ _ (by kernel_rfl)]; exact laidMet_laidAll _ (by kernel_rfl) (by kernel_rfl))) ?_
  intro W base args ds gs before hval0 hW _ _ hL _
  have hval : ∀ (j : Nat) t v, Tryd.f3.params[j]? = some t → args[j]? = some v → Value.okWide Tryd.prog W .any base t v := hval0
  have hW' := hW
  obtain ⟨p, q, hA0, hV, rfl, hfz, hnd⟩ := hW
  have hA : DataW.TrodAll enc Tryd.prog W 0 (fun _ => true) true Tryd.f3.params.toList args.toList ds p := hA0
  rw [Tryd.params3] at hA hval
  obtain ⟨v0, v1, d0, d1, p0, p1, rfl, rfl, rfl, h0, h1⟩ := trodAll_two hA
  obtain ⟨rfl, rfl⟩ := trodVars_none hV
  have h0k := h0
  have hlt0 : ∀ x ∈ p0, x.block < W.heap.size := fun x hx => hW'.lt x (by simp [hx])
  have h1k := h1
  have hlt1 : ∀ x ∈ p1, x.block < W.heap.size := fun x hx => hW'.lt x (by simp [hx])
  obtain ⟨t0, Q0, rfl, hm0⟩ := open_table (hval 0 26 v0 rfl rfl) h0
  obtain ⟨A1, n1, ac1, xs1, rfl, hm1, hn1⟩ := open_ints_arg (hval 1 27 v1 rfl rfl) h1
  clear hA0 hval0
  refine (topTables_walk t0 Q0 xs1 A1 n1 ac1 W hm0 (mat_of_laid hL) hm1 hn1 (Lib.tabBelow_of_tabIs (tab_of_laid hL))).mono fun e W' ⟨he, hb⟩ => ?_
  subst he
  exact ⟨_, rfl, law_post (pa := p0 ++ p1) (pv := []) hW' (fun _ _ _ => trodAll_mk1 (shut_bool Tryd.underlying4 true)) (trodAll_mk2 (Below.trod Tryd.laidOut' (by kernel_rfl) (of_decide_eq_true (by kernel_rfl)) h0k hb hlt0) (Below.trod Tryd.laidOut' (by kernel_rfl) (of_decide_eq_true (by kernel_rfl)) h1k hb hlt1)) rfl hb⟩

theorem topTables_row : Rows.TopTablesSaid :=
  OpenClaim.holds_of_wide 3 Tryd.f3 rfl rfl rfl rfl rfl rfl rfl ⟨rfl, rfl, rfl, rfl, rfl⟩ rfl rfl rfl rfl rfl (by kernel_rfl) Tryd.func3 (by kernel_rfl)
    (of_decide_eq_true (by kernel_rfl)) (by unfold Func.isWrapper; first | (rw [if_pos (by decide +kernel)]; kernel_rfl) | (rw [if_neg (by decide +kernel)]; exact ⟨rfl, rfl⟩))
    (fun os started H enc _ => topTables_lifted os started H enc)
end Go.Proofs.YtlmdjkmcplobnaaDoor
