/-
  The reference of package optimize: replaced, outputs, copied, walked.
-/
import Derived.Test.YtamijjpnklbgnaaZRIs
namespace Go.Proofs.Ytamijjpnklbgnaa
open Go.RowKit
set_option linter.unusedSimpArgs false
set_option linter.unusedVariables false
set_option maxRecDepth 100000 in
set_option maxHeartbeats 4000000 in
theorem rRepl_any (g : Gt) (to : List Int) (TA : Option Addr) (tn tc : Nat) (w : World) (hT : Rd w w.heap.size 1 TA tn (ints to)) (ht : tn ≤ 30000)
    (ha : 1 ≤ operandsO g.op → 0 ≤ g.a ∧ g.a < (tn : Int)) (hb : operandsO g.op = 2 → 0 ≤ g.b ∧ g.b < (tn : Int)) :
    Calls Try.prog 42 #[.agg #[.int .i64 g.op, .int .i64 g.a, .int .i64 g.b], .slice TA tn tc] w fun e w' => e = .returned (.agg #[.int .i64 (moveG to g).op, .int .i64 (moveG to g).a, .int .i64 (moveG to g).b]) ∧ Below w.heap.size w w' := by
  have HTL : Hid (∀ _ : Unit, to.length = tn) := fun _ => by have := hT.1; simp at this; omega
  have HT : Hid (Rd w w.heap.size 1 TA tn (ints to)) := hT
  clear hT
  have hk3 : operandsO g.op = 0 ∨ operandsO g.op = 1 ∨ operandsO g.op = 2 := by have := operandsO_bd g.op; omega
  rcases hk3 with hk | hk | hk
  · have HV : Hid (∀ _ : Unit, moveG to g = g) := fun _ => by unfold moveG; rw [if_neg (by omega), if_neg (by omega)]
    have HOP : Hid (∀ _ : Unit, operandsO g.op = 0) := fun _ => hk
    clear ha hb hk
    go_enter Try.func42, Try.ntmps42
    go_upto_region 1 with fail
    have RB : Hid (Row (World.alloc (World.alloc w (.cells #[.int .i64 g.op, .int .i64 g.a, .int .i64 g.b] 32)) (.cells #[.int .i64 0, .int .i64 0, .int .i64 0] 32)) (w.heap.size) 32 [.int .i64 g.op, .int .i64 g.a, .int .i64 g.b]) := by
      have h0 := Row.new w 32 [.int .i64 g.op, .int .i64 g.a, .int .i64 g.b]
      try simp only [World.size_alloc] at h0
      exact (h0.alloc _)
    have RZ : Hid (Row (World.alloc (World.alloc w (.cells #[.int .i64 g.op, .int .i64 g.a, .int .i64 g.b] 32)) (.cells #[.int .i64 0, .int .i64 0, .int .i64 0] 32)) (w.heap.size + 1) 32 [.int .i64 0, .int .i64 0, .int .i64 0]) := by
      have h0 := Row.new (World.alloc w (.cells #[.int .i64 g.op, .int .i64 g.a, .int .i64 g.b] 32)) 32 [.int .i64 0, .int .i64 0, .int .i64 0]
      try simp only [World.size_alloc] at h0
      exact h0
    have hgr9 : Below w.heap.size w (World.alloc (World.alloc w (.cells #[.int .i64 g.op, .int .i64 g.a, .int .i64 g.b] 32)) (.cells #[.int .i64 0, .int .i64 0, .int .i64 0] 32)) := by go_grown
    have B_w : Hid (Below w.heap.size w (World.alloc (World.alloc w (.cells #[.int .i64 g.op, .int .i64 g.a, .int .i64 g.b] 32)) (.cells #[.int .i64 0, .int .i64 0, .int .i64 0] 32))) := hgr9
    clear hgr9
    revert RB RZ B_w
    generalize (World.alloc (World.alloc w (.cells #[.int .i64 g.op, .int .i64 g.a, .int .i64 g.b] 32)) (.cells #[.int .i64 0, .int .i64 0, .int .i64 0] 32)) = wa
    intro RB RZ B_w
    have BW : Hid (Below w.heap.size w wa) := B_w
    clear B_w
    have q0 := RB.out.cell 0
    have q1 := RB.out.cell 1
    have q2 := RB.out.cell 2
    have ql := RB.out.lt
    simp only [List.getElem?_cons_zero, List.getElem?_cons_succ] at q0 q1 q2
    have qf0 := RB.out.frozen 1
    have qf2 := RB.out.frozen 2
    go_wp2_with fail
    have HC := rOps_any g.op wa
    rw [HOP.out ()] at HC
    refine HC.mono ?_
    clear HC
    rintro e w1 ⟨rfl, rfl⟩
    go_wp2_with fail
    have HC := rOps_any g.op wa
    rw [HOP.out ()] at HC
    refine HC.mono ?_
    clear HC
    rintro e w1 ⟨rfl, rfl⟩
    have q0 := RB.out.cell 0
    have q1 := RB.out.cell 1
    have q2 := RB.out.cell 2
    have ql := RB.out.lt
    simp only [List.getElem?_cons_zero, List.getElem?_cons_succ] at q0 q1 q2
    have z0 := RZ.out.cell 0
    have z1 := RZ.out.cell 1
    have z2 := RZ.out.cell 2
    have zl := RZ.out.lt
    simp only [List.getElem?_cons_zero, List.getElem?_cons_succ] at z0 z1 z2
    have zf0 := RZ.out.frozen 0
    have zf1 := RZ.out.frozen 1
    have zf2 := RZ.out.frozen 2
    go_wp2
    have Z9 : Row (World.setCell (World.setCell (World.setCell wa ⟨(w.heap.size + 1), 0, none⟩ (.int .i64 g.op)) ⟨(w.heap.size + 1), 1, none⟩ (.int .i64 g.a)) ⟨(w.heap.size + 1), 2, none⟩ (.int .i64 g.b)) (w.heap.size + 1) 32 [.int .i64 g.op, .int .i64 g.a, .int .i64 g.b] := (Row.set (Row.set (Row.set RZ.out 0 (.int .i64 g.op)) 1 (.int .i64 g.a)) 2 (.int .i64 g.b))
    have B9 : Below w.heap.size w (World.setCell (World.setCell (World.setCell wa ⟨(w.heap.size + 1), 0, none⟩ (.int .i64 g.op)) ⟨(w.heap.size + 1), 1, none⟩ (.int .i64 g.a)) ⟨(w.heap.size + 1), 2, none⟩ (.int .i64 g.b)) := (Below.setCell (Below.setCell (Below.setCell BW.out (p := ⟨(w.heap.size + 1), 0, none⟩) (by show _ ≤ (w.heap.size + 1); omega) (.int .i64 g.op)) (p := ⟨(w.heap.size + 1), 1, none⟩) (by show _ ≤ (w.heap.size + 1); omega) (.int .i64 g.a)) (p := ⟨(w.heap.size + 1), 2, none⟩) (by show _ ≤ (w.heap.size + 1); omega) (.int .i64 g.b))
    have d0 := Z9.cell 0
    have d1 := Z9.cell 1
    have d2 := Z9.cell 2
    simp only [List.getElem?_cons_zero, List.getElem?_cons_succ] at d0 d1 d2
    clear Z9
    refine bodyPost_ret (v := .agg #[.int .i64 g.op, .int .i64 g.a, .int .i64 g.b]) (by simp [results, Try.results42, go_sem, d0, d1, d2]) rfl ?_
    exact ⟨by rw [HV.out ()], B9⟩
  · obtain ⟨a0, a1⟩ := ha (by omega)
    obtain ⟨ja, hja⟩ : ∃ j : Nat, g.a = (j : Int) := ⟨g.a.toNat, by omega⟩
    have hj : ja < tn := by omega
    obtain ⟨ad, rfl, hab, hcs⟩ := HT.out.int hj
    obtain ⟨va, hva⟩ : ∃ v, to.getD ja 0 = v := ⟨_, rfl⟩
    rw [hva] at hcs
    have HCA : Hid (∀ W9, Below w.heap.size w W9 → W9.cell? (ad.add ja) = some (.int .i64 va)) := fun W9 h9 => (h9.cell (by rw [add_block]; exact hab)).trans hcs
    have HV : Hid (∀ _ : Unit, moveG to g = ⟨g.op, va, g.b⟩) := fun _ => by unfold moveG toAt; rw [if_pos (by omega), if_neg (by omega), hja, Int.toNat_natCast, hva]
    have HOP : Hid (∀ _ : Unit, operandsO g.op = 1) := fun _ => hk
    have hi1 : (ja : Int) < (tn : Int) := by omega
    rw [hja]
    clear ha hb hk a0 a1 hja hva hcs
    go_enter Try.func42, Try.ntmps42
    go_upto_region 1 with fail
    have RB : Hid (Row (World.alloc (World.alloc w (.cells #[.int .i64 g.op, .int .i64 (ja : Int), .int .i64 g.b] 32)) (.cells #[.int .i64 0, .int .i64 0, .int .i64 0] 32)) (w.heap.size) 32 [.int .i64 g.op, .int .i64 (ja : Int), .int .i64 g.b]) := by
      have h0 := Row.new w 32 [.int .i64 g.op, .int .i64 (ja : Int), .int .i64 g.b]
      try simp only [World.size_alloc] at h0
      exact (h0.alloc _)
    have RZ : Hid (Row (World.alloc (World.alloc w (.cells #[.int .i64 g.op, .int .i64 (ja : Int), .int .i64 g.b] 32)) (.cells #[.int .i64 0, .int .i64 0, .int .i64 0] 32)) (w.heap.size + 1) 32 [.int .i64 0, .int .i64 0, .int .i64 0]) := by
      have h0 := Row.new (World.alloc w (.cells #[.int .i64 g.op, .int .i64 (ja : Int), .int .i64 g.b] 32)) 32 [.int .i64 0, .int .i64 0, .int .i64 0]
      try simp only [World.size_alloc] at h0
      exact h0
    have hgr9 : Below w.heap.size w (World.alloc (World.alloc w (.cells #[.int .i64 g.op, .int .i64 (ja : Int), .int .i64 g.b] 32)) (.cells #[.int .i64 0, .int .i64 0, .int .i64 0] 32)) := by go_grown
    have B_w : Hid (Below w.heap.size w (World.alloc (World.alloc w (.cells #[.int .i64 g.op, .int .i64 (ja : Int), .int .i64 g.b] 32)) (.cells #[.int .i64 0, .int .i64 0, .int .i64 0] 32))) := hgr9
    clear hgr9
    revert RB RZ B_w
    generalize (World.alloc (World.alloc w (.cells #[.int .i64 g.op, .int .i64 (ja : Int), .int .i64 g.b] 32)) (.cells #[.int .i64 0, .int .i64 0, .int .i64 0] 32)) = wa
    intro RB RZ B_w
    have BW : Hid (Below w.heap.size w wa) := B_w
    clear B_w
    have q0 := RB.out.cell 0
    have q1 := RB.out.cell 1
    have q2 := RB.out.cell 2
    have ql := RB.out.lt
    simp only [List.getElem?_cons_zero, List.getElem?_cons_succ] at q0 q1 q2
    have qf0 := RB.out.frozen 1
    have qf2 := RB.out.frozen 2
    go_wp2_with fail
    have HC := rOps_any g.op wa
    rw [HOP.out ()] at HC
    refine HC.mono ?_
    clear HC
    rintro e w1 ⟨rfl, rfl⟩
    have cx := HCA.out _ BW.out
    go_upto_region 3 with fail
    have RB9 : Hid (Row (World.setCell wa ⟨w.heap.size, 1, none⟩ (.int .i64 va)) w.heap.size 32 [.int .i64 g.op, .int .i64 va, .int .i64 g.b]) := RB.out.set 1 _
    have RZ9 : Hid (Row (World.setCell wa ⟨w.heap.size, 1, none⟩ (.int .i64 va)) (w.heap.size + 1) 32 [.int .i64 0, .int .i64 0, .int .i64 0]) := RZ.out.far (p := ⟨w.heap.size, 1, none⟩) (by show (w.heap.size + 1) ≠ w.heap.size; omega) _
    have BW9 : Hid (Below w.heap.size w (World.setCell wa ⟨w.heap.size, 1, none⟩ (.int .i64 va))) := BW.out.setCell (p := ⟨w.heap.size, 1, none⟩) (Nat.le_refl _) _
    clear RB RZ BW q0 q1 q2 ql qf0 qf2
    revert RB9 RZ9 BW9
    generalize (World.setCell wa ⟨w.heap.size, 1, none⟩ (.int .i64 va)) = wb
    intro RB RZ BW
    have q0 := RB.out.cell 0
    have q1 := RB.out.cell 1
    have q2 := RB.out.cell 2
    have ql := RB.out.lt
    simp only [List.getElem?_cons_zero, List.getElem?_cons_succ] at q0 q1 q2
    go_wp2_with fail
    have HC := rOps_any g.op wb
    rw [HOP.out ()] at HC
    refine HC.mono ?_
    clear HC
    rintro e w1 ⟨rfl, rfl⟩
    clear q0 q1 q2 ql cx
    have q0 := RB.out.cell 0
    have q1 := RB.out.cell 1
    have q2 := RB.out.cell 2
    have ql := RB.out.lt
    simp only [List.getElem?_cons_zero, List.getElem?_cons_succ] at q0 q1 q2
    have z0 := RZ.out.cell 0
    have z1 := RZ.out.cell 1
    have z2 := RZ.out.cell 2
    have zl := RZ.out.lt
    simp only [List.getElem?_cons_zero, List.getElem?_cons_succ] at z0 z1 z2
    have zf0 := RZ.out.frozen 0
    have zf1 := RZ.out.frozen 1
    have zf2 := RZ.out.frozen 2
    go_wp2
    have Z9 : Row (World.setCell (World.setCell (World.setCell wb ⟨(w.heap.size + 1), 0, none⟩ (.int .i64 g.op)) ⟨(w.heap.size + 1), 1, none⟩ (.int .i64 va)) ⟨(w.heap.size + 1), 2, none⟩ (.int .i64 g.b)) (w.heap.size + 1) 32 [.int .i64 g.op, .int .i64 va, .int .i64 g.b] := (Row.set (Row.set (Row.set RZ.out 0 (.int .i64 g.op)) 1 (.int .i64 va)) 2 (.int .i64 g.b))
    have B9 : Below w.heap.size w (World.setCell (World.setCell (World.setCell wb ⟨(w.heap.size + 1), 0, none⟩ (.int .i64 g.op)) ⟨(w.heap.size + 1), 1, none⟩ (.int .i64 va)) ⟨(w.heap.size + 1), 2, none⟩ (.int .i64 g.b)) := (Below.setCell (Below.setCell (Below.setCell BW.out (p := ⟨(w.heap.size + 1), 0, none⟩) (by show _ ≤ (w.heap.size + 1); omega) (.int .i64 g.op)) (p := ⟨(w.heap.size + 1), 1, none⟩) (by show _ ≤ (w.heap.size + 1); omega) (.int .i64 va)) (p := ⟨(w.heap.size + 1), 2, none⟩) (by show _ ≤ (w.heap.size + 1); omega) (.int .i64 g.b))
    have d0 := Z9.cell 0
    have d1 := Z9.cell 1
    have d2 := Z9.cell 2
    simp only [List.getElem?_cons_zero, List.getElem?_cons_succ] at d0 d1 d2
    clear Z9
    refine bodyPost_ret (v := .agg #[.int .i64 g.op, .int .i64 va, .int .i64 g.b]) (by simp [results, Try.results42, go_sem, d0, d1, d2]) rfl ?_
    exact ⟨by rw [HV.out ()], B9⟩
  · obtain ⟨a0, a1⟩ := ha (by omega)
    obtain ⟨b0, b1⟩ := hb hk
    obtain ⟨ja, hja⟩ : ∃ j : Nat, g.a = (j : Int) := ⟨g.a.toNat, by omega⟩
    obtain ⟨jb, hjb⟩ : ∃ j : Nat, g.b = (j : Int) := ⟨g.b.toNat, by omega⟩
    have hj : ja < tn := by omega
    have hj2 : jb < tn := by omega
    obtain ⟨ad, rfl, hab, hcs⟩ := HT.out.int hj
    obtain ⟨ad', e', hab', hcs2⟩ := HT.out.int hj2
    cases e'
    obtain ⟨va, hva⟩ : ∃ v, to.getD ja 0 = v := ⟨_, rfl⟩
    obtain ⟨vb, hvb⟩ : ∃ v, to.getD jb 0 = v := ⟨_, rfl⟩
    rw [hva] at hcs
    rw [hvb] at hcs2
    have HCA : Hid (∀ W9, Below w.heap.size w W9 → W9.cell? (ad.add ja) = some (.int .i64 va)) := fun W9 h9 => (h9.cell (by rw [add_block]; exact hab)).trans hcs
    have HCB : Hid (∀ W9, Below w.heap.size w W9 → W9.cell? (ad.add jb) = some (.int .i64 vb)) := fun W9 h9 => (h9.cell (by rw [add_block]; exact hab)).trans hcs2
    have HV : Hid (∀ _ : Unit, moveG to g = ⟨g.op, va, vb⟩) := fun _ => by unfold moveG toAt; rw [if_pos (by omega), if_pos hk, hja, hjb, Int.toNat_natCast, Int.toNat_natCast, hva, hvb]
    have HOP : Hid (∀ _ : Unit, operandsO g.op = 2) := fun _ => hk
    have hi1 : (ja : Int) < (tn : Int) := by omega
    have hi2 : (jb : Int) < (tn : Int) := by omega
    rw [hja, hjb]
    clear ha hb hk a0 a1 b0 b1 hja hva hjb hvb hcs hcs2
    go_enter Try.func42, Try.ntmps42
    go_upto_region 1 with fail
    have RB : Hid (Row (World.alloc (World.alloc w (.cells #[.int .i64 g.op, .int .i64 (ja : Int), .int .i64 (jb : Int)] 32)) (.cells #[.int .i64 0, .int .i64 0, .int .i64 0] 32)) (w.heap.size) 32 [.int .i64 g.op, .int .i64 (ja : Int), .int .i64 (jb : Int)]) := by
      have h0 := Row.new w 32 [.int .i64 g.op, .int .i64 (ja : Int), .int .i64 (jb : Int)]
      try simp only [World.size_alloc] at h0
      exact (h0.alloc _)
    have RZ : Hid (Row (World.alloc (World.alloc w (.cells #[.int .i64 g.op, .int .i64 (ja : Int), .int .i64 (jb : Int)] 32)) (.cells #[.int .i64 0, .int .i64 0, .int .i64 0] 32)) (w.heap.size + 1) 32 [.int .i64 0, .int .i64 0, .int .i64 0]) := by
      have h0 := Row.new (World.alloc w (.cells #[.int .i64 g.op, .int .i64 (ja : Int), .int .i64 (jb : Int)] 32)) 32 [.int .i64 0, .int .i64 0, .int .i64 0]
      try simp only [World.size_alloc] at h0
      exact h0
    have hgr9 : Below w.heap.size w (World.alloc (World.alloc w (.cells #[.int .i64 g.op, .int .i64 (ja : Int), .int .i64 (jb : Int)] 32)) (.cells #[.int .i64 0, .int .i64 0, .int .i64 0] 32)) := by go_grown
    have B_w : Hid (Below w.heap.size w (World.alloc (World.alloc w (.cells #[.int .i64 g.op, .int .i64 (ja : Int), .int .i64 (jb : Int)] 32)) (.cells #[.int .i64 0, .int .i64 0, .int .i64 0] 32))) := hgr9
    clear hgr9
    revert RB RZ B_w
    generalize (World.alloc (World.alloc w (.cells #[.int .i64 g.op, .int .i64 (ja : Int), .int .i64 (jb : Int)] 32)) (.cells #[.int .i64 0, .int .i64 0, .int .i64 0] 32)) = wa
    intro RB RZ B_w
    have BW : Hid (Below w.heap.size w wa) := B_w
    clear B_w
    have q0 := RB.out.cell 0
    have q1 := RB.out.cell 1
    have q2 := RB.out.cell 2
    have ql := RB.out.lt
    simp only [List.getElem?_cons_zero, List.getElem?_cons_succ] at q0 q1 q2
    have qf0 := RB.out.frozen 1
    have qf2 := RB.out.frozen 2
    go_wp2_with fail
    have HC := rOps_any g.op wa
    rw [HOP.out ()] at HC
    refine HC.mono ?_
    clear HC
    rintro e w1 ⟨rfl, rfl⟩
    have cx := HCA.out _ BW.out
    go_upto_region 3 with fail
    have RB9 : Hid (Row (World.setCell wa ⟨w.heap.size, 1, none⟩ (.int .i64 va)) w.heap.size 32 [.int .i64 g.op, .int .i64 va, .int .i64 (jb : Int)]) := RB.out.set 1 _
    have RZ9 : Hid (Row (World.setCell wa ⟨w.heap.size, 1, none⟩ (.int .i64 va)) (w.heap.size + 1) 32 [.int .i64 0, .int .i64 0, .int .i64 0]) := RZ.out.far (p := ⟨w.heap.size, 1, none⟩) (by show (w.heap.size + 1) ≠ w.heap.size; omega) _
    have BW9 : Hid (Below w.heap.size w (World.setCell wa ⟨w.heap.size, 1, none⟩ (.int .i64 va))) := BW.out.setCell (p := ⟨w.heap.size, 1, none⟩) (Nat.le_refl _) _
    clear RB RZ BW q0 q1 q2 ql qf0 qf2
    revert RB9 RZ9 BW9
    generalize (World.setCell wa ⟨w.heap.size, 1, none⟩ (.int .i64 va)) = wb
    intro RB RZ BW
    have q0 := RB.out.cell 0
    have q1 := RB.out.cell 1
    have q2 := RB.out.cell 2
    have ql := RB.out.lt
    simp only [List.getElem?_cons_zero, List.getElem?_cons_succ] at q0 q1 q2
    have qf0 := RB.out.frozen 1
    have qf2 := RB.out.frozen 2
    go_wp2_with fail
    have HC := rOps_any g.op wb
    rw [HOP.out ()] at HC
    refine HC.mono ?_
    clear HC
    rintro e w1 ⟨rfl, rfl⟩
    clear cx
    have cx := HCB.out _ BW.out
    go_upto_region 5 with fail
    have RB9 : Hid (Row (World.setCell wb ⟨w.heap.size, 2, none⟩ (.int .i64 vb)) w.heap.size 32 [.int .i64 g.op, .int .i64 va, .int .i64 vb]) := RB.out.set 2 _
    have RZ9 : Hid (Row (World.setCell wb ⟨w.heap.size, 2, none⟩ (.int .i64 vb)) (w.heap.size + 1) 32 [.int .i64 0, .int .i64 0, .int .i64 0]) := RZ.out.far (p := ⟨w.heap.size, 2, none⟩) (by show (w.heap.size + 1) ≠ w.heap.size; omega) _
    have BW9 : Hid (Below w.heap.size w (World.setCell wb ⟨w.heap.size, 2, none⟩ (.int .i64 vb))) := BW.out.setCell (p := ⟨w.heap.size, 2, none⟩) (Nat.le_refl _) _
    clear RB RZ BW q0 q1 q2 ql qf0 qf2
    revert RB9 RZ9 BW9
    generalize (World.setCell wb ⟨w.heap.size, 2, none⟩ (.int .i64 vb)) = wc
    intro RB RZ BW
    clear cx
    have q0 := RB.out.cell 0
    have q1 := RB.out.cell 1
    have q2 := RB.out.cell 2
    have ql := RB.out.lt
    simp only [List.getElem?_cons_zero, List.getElem?_cons_succ] at q0 q1 q2
    have z0 := RZ.out.cell 0
    have z1 := RZ.out.cell 1
    have z2 := RZ.out.cell 2
    have zl := RZ.out.lt
    simp only [List.getElem?_cons_zero, List.getElem?_cons_succ] at z0 z1 z2
    have zf0 := RZ.out.frozen 0
    have zf1 := RZ.out.frozen 1
    have zf2 := RZ.out.frozen 2
    go_wp2
    have Z9 : Row (World.setCell (World.setCell (World.setCell wc ⟨(w.heap.size + 1), 0, none⟩ (.int .i64 g.op)) ⟨(w.heap.size + 1), 1, none⟩ (.int .i64 va)) ⟨(w.heap.size + 1), 2, none⟩ (.int .i64 vb)) (w.heap.size + 1) 32 [.int .i64 g.op, .int .i64 va, .int .i64 vb] := (Row.set (Row.set (Row.set RZ.out 0 (.int .i64 g.op)) 1 (.int .i64 va)) 2 (.int .i64 vb))
    have B9 : Below w.heap.size w (World.setCell (World.setCell (World.setCell wc ⟨(w.heap.size + 1), 0, none⟩ (.int .i64 g.op)) ⟨(w.heap.size + 1), 1, none⟩ (.int .i64 va)) ⟨(w.heap.size + 1), 2, none⟩ (.int .i64 vb)) := (Below.setCell (Below.setCell (Below.setCell BW.out (p := ⟨(w.heap.size + 1), 0, none⟩) (by show _ ≤ (w.heap.size + 1); omega) (.int .i64 g.op)) (p := ⟨(w.heap.size + 1), 1, none⟩) (by show _ ≤ (w.heap.size + 1); omega) (.int .i64 va)) (p := ⟨(w.heap.size + 1), 2, none⟩) (by show _ ≤ (w.heap.size + 1); omega) (.int .i64 vb))
    have d0 := Z9.cell 0
    have d1 := Z9.cell 1
    have d2 := Z9.cell 2
    simp only [List.getElem?_cons_zero, List.getElem?_cons_succ] at d0 d1 d2
    clear Z9
    refine bodyPost_ret (v := .agg #[.int .i64 g.op, .int .i64 va, .int .i64 vb]) (by simp [results, Try.results42, go_sem, d0, d1, d2]) rfl ?_
    exact ⟨by rw [HV.out ()], B9⟩
set_option maxRecDepth 100000 in
set_option maxHeartbeats 4000000 in
theorem rOuts_any (l to : List Int) (LA TA : Option Addr) (ln lc tn tc : Nat) (w : World) (hL : Rd w w.heap.size 1 LA ln (ints l)) (hT : Rd w w.heap.size 1 TA tn (ints to)) (hl : ln ≤ 20000) (ht : tn ≤ 30000)
    (hout : ∀ k, k < l.length → 0 ≤ l.getD k 0 ∧ l.getD k 0 < (tn : Int)) :
    Calls Try.prog 43 #[.slice LA ln lc, .slice TA tn tc] w fun e w' => ∃ OB oc, e = .returned (.slice OB ln oc) ∧ Rd w' w'.heap.size 1 OB ln (ints (l.map (toAt to))) ∧ CFrom OB ln w.heap.size ∧ Below w.heap.size w w' := by
  have HLL : Hid (∀ _ : Unit, l.length = ln) := fun _ => by have := hL.1; simp at this; omega
  have HL : Hid (Rd w w.heap.size 1 LA ln (ints l)) := hL
  have HT : Hid (Rd w w.heap.size 1 TA tn (ints to)) := hT
  have HOUT : Hid (∀ k, k < ln → 0 ≤ l.getD k 0 ∧ l.getD k 0 < (tn : Int)) := fun k hk => hout k (by rw [HLL.out ()]; exact hk)
  clear hL hT hout
  go_enter Try.func43, Try.ntmps43
  go_wp2_with fail
  go_loopg [5, 6] ln (fun gg s5 s6 wr => ∃ k : Nat, k ≤ ln ∧ ln - k ≤ gg ∧ s6 = .int .i64 k ∧ Aside (Below w.heap.size w wr) ∧ Aside (World.ownsRow wr w.heap.size 3 1 (s5) (k) (ints ((l.take (k)).map (toAt to)))))
  case atStart => exact ⟨0, Nat.zero_le _, by omega, rfl, Below.refl _ _, World.ownsRow_nil _ _ _ _⟩
  case round =>
    obtain ⟨k, hk, hgg, rfl, BW, OW⟩ := hrel
    obtain ⟨OB, oc2, rfl, _⟩ := Rd.own OW.out
    have hsz := BW.out.size
    by_cases hlt : k < ln
    · have hlz : (k : Int) < (ln : Int) := by omega
      obtain ⟨oad, rfl, hob, ho0⟩ := (HL.out.up BW.out).int hlt
      obtain ⟨o0, o1⟩ := HOUT.out k hlt
      obtain ⟨j, hj⟩ : ∃ j : Nat, l.getD k 0 = (j : Int) := ⟨(l.getD k 0).toNat, by omega⟩
      rw [hj] at ho0
      have hjt : j < tn := by omega
      obtain ⟨tad, rfl, htb, hcell⟩ := (HT.out.up BW.out).int hjt
      have HVS : Hid (∀ _ : Unit, ints ((l.take (k + 1)).map (toAt to)) = ints ((l.take k).map (toAt to)) ++ [.int .i64 (to.getD j 0)]) := fun _ => by
        rw [outs_snoc to l k (by rw [HLL.out ()]; exact hlt), hj]; rfl
      generalize to.getD j 0 = z at hcell HVS
      have hi1 : (j : Int) < (tn : Int) := by omega
      clear hj o0 o1
      go_wp2_with (at_builtin; refine wpList_app rfl (.tmp 13) (.tmp 21) 23 rfl w.heap.size 3 (.int .i64 0) 1 8 Try.underlying23 int_infoZ rfl (by decide) (by decide) (.slice OB k oc2) k (ints ((l.take k).map (toAt to))) rfl ?own (wr.heap.size + 1) (some ⟨wr.heap.size, 0, none⟩) 1 1 [.int .i64 z] rfl ?rd ?one ?hb ?hbase ?_)
      case own => exact OW.out.alloc _
      case rd => exact Rd.lit wr #[.int .i64 z] 3 (sz := 1) (m := 1) rfl
      case one => first | (intro u hu; simp at hu; subst hu; rfl) | rfl
      case hb => omega
      case hbase => first | (simp; omega) | omega
      intro v' w5 hown' hgrow' hat'
      have OW5 : Hid (World.ownsRow w5 w.heap.size 3 1 (v') (k + 1) (ints ((l.take (k + 1)).map (toAt to)))) := (by show World.ownsRow _ _ _ _ _ _ _; rw [HVS.out ()]; first | exact hown' | (rw [List.map_take]; exact hown'))
      have BW5 : Hid (Below w.heap.size w w5) := (BW.out.alloc BW.out.size _).grown hgrow' (by have := BW.out.size; simp; omega) (fun q hq => (OW.out.lt q hq).1)
      clear hown' hgrow' hat' OW BW ho0 hcell hob htb
      go_wp2_with fail
      go_roundg (ln - (k + 1))
      case measure => omega
      case rel => exact ⟨k + 1, by omega, by omega, by go_num, BW5.out, OW5.out⟩
    · have hlz : ¬ (k : Int) < (ln : Int) := by omega
      obtain rfl : ln = k := by omega
      go_wp2_with fail
      go_ret
      have e1 : l.map (toAt to) = (l.take ln).map (toAt to) := by rw [List.take_of_length_le (by rw [HLL.out ()]; exact Nat.le_refl _)]
      exact ⟨OB, ⟨oc2, rfl⟩, by rw [e1]; exact Rd.of_own OW.out, own_from OW.out, BW.out⟩
/-- The wires from a on, each standing for itself. -/
def idW (m : Nat) : List Int := (List.range m).map Int.ofNat
set_option maxRecDepth 100000 in
set_option maxHeartbeats 4000000 in
theorem rCop_any (n : Int) (GA OA : Option Addr) (gn gc on oc : Nat) (w : World) (hn : 0 ≤ n ∧ n ≤ 1000) (hg : gn ≤ 20000) (M : Nat) (hM : n + (gn : Int) = (M : Int)) :
    Calls Try.prog 40 #[.agg #[.int .i64 n, .slice GA gn gc, .slice OA on oc]] w fun e w' => ∃ TA tc, e = .returned (.tuple #[.agg #[.int .i64 n, .slice none 0 0, .slice none 0 0], .slice TA M tc]) ∧ w'.ownsRow w.heap.size 3 1 (.slice TA M tc) M (ints (idW M)) ∧ Below w.heap.size w w' := by
  have HM : Hid (∀ _ : Unit, n + (gn : Int) = (M : Int)) := fun _ => hM
  have hMb : M ≤ 21000 := by omega
  clear hM
  go_enter Try.func40, Try.ntmps40
  go_upto_region 1 with fail
  have RC : Hid (Row (World.alloc (World.alloc w (.cells #[.int .i64 n, .slice GA gn gc, .slice OA on oc] 25)) (.cells #[.int .i64 0, .slice none 0 0, .slice none 0 0] 25)) (w.heap.size) 25 [.int .i64 n, .slice GA gn gc, .slice OA on oc]) := by
    have h0 := Row.new w 25 [.int .i64 n, .slice GA gn gc, .slice OA on oc]
    try simp only [World.size_alloc] at h0
    exact (h0.alloc _)
  have RR : Hid (Row (World.alloc (World.alloc w (.cells #[.int .i64 n, .slice GA gn gc, .slice OA on oc] 25)) (.cells #[.int .i64 0, .slice none 0 0, .slice none 0 0] 25)) (w.heap.size + 1) 25 [.int .i64 0, .slice none 0 0, .slice none 0 0]) := by
    have h0 := Row.new (World.alloc w (.cells #[.int .i64 n, .slice GA gn gc, .slice OA on oc] 25)) 25 [.int .i64 0, .slice none 0 0, .slice none 0 0]
    try simp only [World.size_alloc] at h0
    exact h0
  have hgr9 : Below w.heap.size w (World.alloc (World.alloc w (.cells #[.int .i64 n, .slice GA gn gc, .slice OA on oc] 25)) (.cells #[.int .i64 0, .slice none 0 0, .slice none 0 0] 25)) := by go_grown
  have B_w : Hid (Below w.heap.size w (World.alloc (World.alloc w (.cells #[.int .i64 n, .slice GA gn gc, .slice OA on oc] 25)) (.cells #[.int .i64 0, .slice none 0 0, .slice none 0 0] 25))) := hgr9
  clear hgr9
  revert RC RR B_w
  generalize (World.alloc (World.alloc w (.cells #[.int .i64 n, .slice GA gn gc, .slice OA on oc] 25)) (.cells #[.int .i64 0, .slice none 0 0, .slice none 0 0] 25)) = wa
  intro RC RR B_w
  have kR : Hid (Row wa (w.heap.size) 25 [.int .i64 n, .slice GA gn gc, .slice OA on oc]) := RC.out
  have k0 := kR.out.cell 0
  have k1 := kR.out.cell 1
  have k2 := kR.out.cell 2
  have kl := kR.out.lt
  simp only [List.getElem?_cons_zero, List.getElem?_cons_succ] at k0 k1 k2
  clear kR
  go_upto_region 2 with fail
  clear k0 k1 k2 kl
  have hwa : w.heap.size + 1 < wa.heap.size := RR.out.lt
  have RC1 : Hid (Row (World.alloc wa (.cells #[.int .i64 n, .slice none 0 0, .slice none 0 0] 25)) w.heap.size 25 [.int .i64 n, .slice GA gn gc, .slice OA on oc]) := RC.out.alloc _
  have RR1 : Hid (Row (World.alloc wa (.cells #[.int .i64 n, .slice none 0 0, .slice none 0 0] 25)) (w.heap.size + 1) 25 [.int .i64 0, .slice none 0 0, .slice none 0 0]) := RR.out.alloc _
  have RO1 : Hid (Row (World.alloc wa (.cells #[.int .i64 n, .slice none 0 0, .slice none 0 0] 25)) wa.heap.size 25 [.int .i64 n, .slice none 0 0, .slice none 0 0]) := Row.new wa 25 [.int .i64 n, .slice none 0 0, .slice none 0 0]
  have BW1 : Hid (Below w.heap.size w (World.alloc wa (.cells #[.int .i64 n, .slice none 0 0, .slice none 0 0] 25))) := B_w.out.alloc B_w.out.size _
  clear RC RR B_w
  revert RC1 RR1 RO1 BW1
  generalize (World.alloc wa (.cells #[.int .i64 n, .slice none 0 0, .slice none 0 0] 25)) = w1
  intro RC1 RR1 RO1 BW1
  go_wp2_with fail
  go_loopg [5, 6] M (fun gg s5 s6 wr => ∃ k : Nat, k ≤ M ∧ M - k ≤ gg ∧ s6 = .int .i64 k ∧ Aside (Below w.heap.size w wr) ∧ Aside (Row wr w.heap.size 25 [.int .i64 n, .slice GA gn gc, .slice OA on oc]) ∧ Aside (Row wr (w.heap.size + 1) 25 [.int .i64 0, .slice none 0 0, .slice none 0 0]) ∧ Aside (Row wr wa.heap.size 25 [.int .i64 n, .slice none 0 0, .slice none 0 0]) ∧ Aside (World.ownsRow wr w.heap.size 3 1 (s5) (k) (ints (idW (k)))))
  case atStart => exact ⟨0, Nat.zero_le _, by omega, rfl, BW1.out, RC1.out, RR1.out, RO1.out, World.ownsRow_nil _ _ _ _⟩
  case round =>
    clear RC1 RR1 RO1 BW1
    obtain ⟨k, hk, hgg, rfl, BW, RC, RR, RO, OW⟩ := hrel
    obtain ⟨TA, tc, rfl, _⟩ := Rd.own OW.out
    have hsz := BW.out.size
    have hw1 : IntKind.i64.wrap (n + (gn : Int)) = (M : Int) := by rw [HM.out ()]; exact IntWalk.i64_in _ (by omega)
    have hw2 : n + (gn : Int) = (M : Int) := HM.out ()
    by_cases hlt : k < M
    · have hlz : (k : Int) < (M : Int) := by omega
      have k0 := RC.out.cell 0
      have k1 := RC.out.cell 1
      have k2 := RC.out.cell 2
      have kl := RC.out.lt
      simp only [List.getElem?_cons_zero, List.getElem?_cons_succ] at k0 k1 k2
      go_wp2_with (at_builtin; refine wpList_app rfl (.tmp 20) (.tmp 22) 23 rfl w.heap.size 3 (.int .i64 0) 1 8 Try.underlying23 int_infoZ rfl (by decide) (by decide) (.slice TA k tc) k (ints (idW k)) rfl ?own (wr.heap.size + 1) (some ⟨wr.heap.size, 0, none⟩) 1 1 [.int .i64 (k : Int)] rfl ?rd ?one ?hb ?hbase ?_)
      case own => exact OW.out.alloc _
      case rd => exact Rd.lit wr #[.int .i64 (k : Int)] 3 (sz := 1) (m := 1) rfl
      case one => first | (intro u hu; simp at hu; subst hu; rfl) | rfl
      case hb => omega
      case hbase => first | (simp; omega) | omega
      intro v' w5 hown' hgrow' hat'
      have OW5 : Hid (World.ownsRow w5 w.heap.size 3 1 (v') (k + 1) (ints (idW (k + 1)))) := (by show World.ownsRow _ _ _ _ _ _ _; rw [show ints (idW (k + 1)) = _ from range_snoc k]; exact hown')
      have BW5 : Hid (Below w.heap.size w w5) := (BW.out.alloc BW.out.size _).grown hgrow' (by have := BW.out.size; simp; omega) (fun q hq => (OW.out.lt q hq).1)
      have RC5 : Hid (Row w5 w.heap.size 25 [.int .i64 n, .slice GA gn gc, .slice OA on oc]) := (RC.out.alloc _).grown hgrow' (fun e => own_ne_row OW.out RC.out (by decide) e.symm)
      have RR5 : Hid (Row w5 (w.heap.size + 1) 25 [.int .i64 0, .slice none 0 0, .slice none 0 0]) := (RR.out.alloc _).grown hgrow' (fun e => own_ne_row OW.out RR.out (by decide) e.symm)
      have RO5 : Hid (Row w5 wa.heap.size 25 [.int .i64 n, .slice none 0 0, .slice none 0 0]) := (RO.out.alloc _).grown hgrow' (fun e => own_ne_row OW.out RO.out (by decide) e.symm)
      clear hown' hgrow' hat' OW BW RC RR RO k0 k1 k2 kl hw2
      go_wp2_with fail
      go_roundg (M - (k + 1))
      case measure => omega
      case rel => exact ⟨k + 1, by omega, by omega, by go_num, BW5.out, RC5.out, RR5.out, RO5.out, OW5.out⟩
    · have hlz : ¬ (k : Int) < (M : Int) := by omega
      obtain rfl : M = k := by omega
      have k0 := RC.out.cell 0
      have k1 := RC.out.cell 1
      have k2 := RC.out.cell 2
      have kl := RC.out.lt
      simp only [List.getElem?_cons_zero, List.getElem?_cons_succ] at k0 k1 k2
      have q0 := RO.out.cell 0
      have q1 := RO.out.cell 1
      have q2 := RO.out.cell 2
      have ql := RO.out.lt
      simp only [List.getElem?_cons_zero, List.getElem?_cons_succ] at q0 q1 q2
      have z0 := RR.out.cell 0
      have z1 := RR.out.cell 1
      have z2 := RR.out.cell 2
      have zl := RR.out.lt
      simp only [List.getElem?_cons_zero, List.getElem?_cons_succ] at z0 z1 z2
      have zf0 := RR.out.frozen 0
      have zf1 := RR.out.frozen 1
      have zf2 := RR.out.frozen 2
      go_wp2
      have Z9 : Row (World.setCell (World.setCell (World.setCell wr ⟨(w.heap.size + 1), 0, none⟩ (.int .i64 n)) ⟨(w.heap.size + 1), 1, none⟩ (.slice none 0 0)) ⟨(w.heap.size + 1), 2, none⟩ (.slice none 0 0)) (w.heap.size + 1) 25 [.int .i64 n, .slice none 0 0, .slice none 0 0] := (Row.set (Row.set (Row.set RR.out 0 (.int .i64 n)) 1 (.slice none 0 0)) 2 (.slice none 0 0))
      have B9 : Below w.heap.size w (World.setCell (World.setCell (World.setCell wr ⟨(w.heap.size + 1), 0, none⟩ (.int .i64 n)) ⟨(w.heap.size + 1), 1, none⟩ (.slice none 0 0)) ⟨(w.heap.size + 1), 2, none⟩ (.slice none 0 0)) := (Below.setCell (Below.setCell (Below.setCell BW.out (p := ⟨(w.heap.size + 1), 0, none⟩) (by show _ ≤ (w.heap.size + 1); omega) (.int .i64 n)) (p := ⟨(w.heap.size + 1), 1, none⟩) (by show _ ≤ (w.heap.size + 1); omega) (.slice none 0 0)) (p := ⟨(w.heap.size + 1), 2, none⟩) (by show _ ≤ (w.heap.size + 1); omega) (.slice none 0 0))
      have O9 := (own_set (p := ⟨(w.heap.size + 1), 2, none⟩) (own_set (p := ⟨(w.heap.size + 1), 1, none⟩) (own_set (p := ⟨(w.heap.size + 1), 0, none⟩) OW.out RR.out (by decide) (.int .i64 n)) (Row.set RR.out 0 (.int .i64 n)) (by decide) (.slice none 0 0)) (Row.set (Row.set RR.out 0 (.int .i64 n)) 1 (.slice none 0 0)) (by decide) (.slice none 0 0))
      have d0 := Z9.cell 0
      have d1 := Z9.cell 1
      have d2 := Z9.cell 2
      simp only [List.getElem?_cons_zero, List.getElem?_cons_succ] at d0 d1 d2
      clear Z9
      refine bodyPost_ret (v := .tuple #[.agg #[.int .i64 n, .slice none 0 0, .slice none 0 0], .slice TA M tc]) (by simp [results, Try.results40, go_sem, d0, d1, d2]) rfl ?_
      exact ⟨TA, tc, rfl, O9, B9⟩
end Go.Proofs.Ytamijjpnklbgnaa
