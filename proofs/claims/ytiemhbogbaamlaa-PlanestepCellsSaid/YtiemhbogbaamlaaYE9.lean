/-
 A part.
-/
import Derived.Test.YtiemhbogbaamlaaYE8
import Derived.Deep.Cut
namespace Go.Proofs.Ytiemhbogbaamlaa
open Go.RowKit
set_option linter.unusedSimpArgs false
set_option linter.unusedVariables false
set_option maxRecDepth 100000 in
set_option maxHeartbeats 8000000 in
theorem either_any (B b : Nat) (n : Int) (s : Wk) (g : Gt) (ab ne : Int) (w : World) (h : WkAt w B b n s) (hB : B ≤ w.heap.size) (hn : 0 ≤ n ∧ n ≤ 1000) (hg : s.gates.length ≤ 20000) (ht : s.to.length ≤ 30000) (hga : 0 ≤ g.a ∧ g.a < n + s.gates.length) (hgb : 0 ≤ g.b ∧ g.b < n + s.gates.length) :
 Calls Try.prog 90 #[.pointer (some ⟨b, 0, none⟩), .agg #[.int .i64 g.op, .int .i64 g.a, .int .i64 g.b], .int .i64 ab, .int .i64 ne] w (fun e w' => e = .returned (.tuple #[]) ∧ WkAt w' B b n (addW n s (eitherF n s.gates g ab ne)) ∧ WFr B w w') := by
 have HW : Hid (WkAt w B b n s) := h
 clear h
 obtain ⟨qa, hqa⟩ : ∃ q, isW n s.gates (g.a) ab = q := ⟨_, rfl⟩
 have Hqa : Hid (∀ _ : Unit, isW n s.gates (g.a) ab = qa) := fun _ => hqa
 clear hqa
 obtain ⟨qb, hqb⟩ : ∃ q, isW n s.gates (g.b) ab = q := ⟨_, rfl⟩
 have Hqb : Hid (∀ _ : Unit, isW n s.gates (g.b) ab = qb) := fun _ => hqb
 clear hqb
 obtain ⟨qc, hqc⟩ : ∃ q, isW n s.gates (g.a) ne = q := ⟨_, rfl⟩
 have Hqc : Hid (∀ _ : Unit, isW n s.gates (g.a) ne = qc) := fun _ => hqc
 clear hqc
 obtain ⟨qd, hqd⟩ : ∃ q, isW n s.gates (g.b) ne = q := ⟨_, rfl⟩
 have Hqd : Hid (∀ _ : Unit, isW n s.gates (g.b) ne = qd) := fun _ => hqd
 clear hqd
 obtain ⟨qo, hqo⟩ : ∃ q, oppW n s.gates g.a g.b = q := ⟨_, rfl⟩
 have Hqo : Hid (∀ _ : Unit, oppW n s.gates g.a g.b = qo) := fun _ => hqo
 clear hqo
 go_enter Try.func90, Try.ntmps90
 go_wp2_with fail
 have RB : Hid (Row (World.alloc w (.cells #[.int .i64 g.op, .int .i64 g.a, .int .i64 g.b] 77)) (w.heap.size) 77 [.int .i64 g.op, .int .i64 g.a, .int .i64 g.b]) := by
  have h0 := Row.new w 77 [.int .i64 g.op, .int .i64 g.a, .int .i64 g.b]
  try simp only [World.size_alloc] at h0
  exact h0
 have hgr9 : Below w.heap.size w (World.alloc w (.cells #[.int .i64 g.op, .int .i64 g.a, .int .i64 g.b] 77)) := by go_grown
 have B_w : Hid (Below w.heap.size w (World.alloc w (.cells #[.int .i64 g.op, .int .i64 g.a, .int .i64 g.b] 77))) := hgr9
 clear hgr9
 revert RB B_w
 generalize (World.alloc w (.cells #[.int .i64 g.op, .int .i64 g.a, .int .i64 g.b] 77)) = wa
 intro RB B_w
 have kR : Hid (Row wa (w.heap.size) 77 [.int .i64 g.op, .int .i64 g.a, .int .i64 g.b]) := RB.out
 obtain ⟨k0, k1, k2, kl⟩ := kR.out.cells3
 clear kR
 go_wp2_with fail
 have HC := is_any B b n s (g.a) ab wa (HW.out.below B_w.out) hn hg hga.2 (by omega)
 rw [Hqa.out ()] at HC
 refine HC.mono ?_
 clear HC
 rintro e w1 ⟨rfl, hb⟩
 have B_w : Hid (Below w.heap.size w w1) := below_on2 B_w.out hb
 have B_wa : Hid (Below wa.heap.size wa w1) := hb
 clear k0 k1 k2 kl
 clear hb
 cases qa
 ·skip
  have kR : Hid (Row w1 (w.heap.size) 77 [.int .i64 g.op, .int .i64 g.a, .int .i64 g.b]) := (rowCells RB.out B_wa.out)
  obtain ⟨k0, k1, k2, kl⟩ := kR.out.cells3
  clear kR
  go_wp2_with fail
  have HC := is_any B b n s (g.b) ab w1 (HW.out.below B_w.out) hn hg hgb.2 (by omega)
  rw [Hqb.out ()] at HC
  refine HC.mono ?_
  clear HC
  rintro e w2 ⟨rfl, hb⟩
  have B_w : Hid (Below w.heap.size w w2) := below_on2 B_w.out hb
  have B_wa : Hid (Below wa.heap.size wa w2) := below_on2 B_wa.out hb
  have B_w1 : Hid (Below w1.heap.size w1 w2) := hb
  clear k0 k1 k2 kl
  clear hb
  cases qb
  ·skip
   have kR : Hid (Row w2 (w.heap.size) 77 [.int .i64 g.op, .int .i64 g.a, .int .i64 g.b]) := (rowCells RB.out B_wa.out)
   obtain ⟨k0, k1, k2, kl⟩ := kR.out.cells3
   clear kR
   go_wp2_with fail
   have HC := is_any B b n s (g.a) ne w2 (HW.out.below B_w.out) hn hg hga.2 (by omega)
   rw [Hqc.out ()] at HC
   refine HC.mono ?_
   clear HC
   rintro e w3 ⟨rfl, hb⟩
   have B_w : Hid (Below w.heap.size w w3) := below_on2 B_w.out hb
   have B_wa : Hid (Below wa.heap.size wa w3) := below_on2 B_wa.out hb
   have B_w1 : Hid (Below w1.heap.size w1 w3) := below_on2 B_w1.out hb
   have B_w2 : Hid (Below w2.heap.size w2 w3) := hb
   clear k0 k1 k2 kl
   clear hb
   cases qc
   ·skip
    have kR : Hid (Row w3 (w.heap.size) 77 [.int .i64 g.op, .int .i64 g.a, .int .i64 g.b]) := (rowCells RB.out B_wa.out)
    obtain ⟨k0, k1, k2, kl⟩ := kR.out.cells3
    clear kR
    go_wp2_with fail
    have HC := is_any B b n s (g.b) ne w3 (HW.out.below B_w.out) hn hg hgb.2 (by omega)
    rw [Hqd.out ()] at HC
    refine HC.mono ?_
    clear HC
    rintro e w4 ⟨rfl, hb⟩
    have B_w : Hid (Below w.heap.size w w4) := below_on2 B_w.out hb
    have B_wa : Hid (Below wa.heap.size wa w4) := below_on2 B_wa.out hb
    have B_w1 : Hid (Below w1.heap.size w1 w4) := below_on2 B_w1.out hb
    have B_w2 : Hid (Below w2.heap.size w2 w4) := below_on2 B_w2.out hb
    have B_w3 : Hid (Below w3.heap.size w3 w4) := hb
    clear k0 k1 k2 kl
    clear hb
    cases qd
    ·skip
     by_cases heq : g.a = g.b
     ·have Hqe : Hid (∀ _ : Unit, g.a = g.b) := fun _ => heq
      have hdq : (g.a == g.b) = true := by simp [heq]
      have hdr : decide (g.a = g.b) = true := decide_eq_true heq
      clear heq
      have kR : Hid (Row w4 (w.heap.size) 77 [.int .i64 g.op, .int .i64 g.a, .int .i64 g.b]) := (rowCells RB.out B_wa.out)
      obtain ⟨k0, k1, k2, kl⟩ := kR.out.cells3
      clear kR
      go_wp2_with fail
      refine (add_any B b n s g (g.a) w4 (HW.out.below B_w.out) (Nat.le_trans hB B_w.out.size) hn hg ht).mono ?_
      rintro e w9 ⟨rfl, hwk, hfr⟩
      have HWK : Hid (WkAt w9 B b n (addW n s (g, g.a))) := hwk
      have HFR : Hid (WFr B w w9) := (WFr.ofBelow B_w.out hB).trans hfr
      clear hwk hfr
      go_wp2_with fail
      go_end0
      exact ⟨rfl, by rw [(show eitherF n s.gates g ab ne = ((g, g.a) : Gt × Int) from by simp [eitherF, Hqa.out (), Hqb.out (), Hqc.out (), Hqd.out (), Hqe.out ()])]; exact HWK.out, HFR.out⟩
     ·have Hqe : Hid (∀ _ : Unit, ¬ g.a = g.b) := fun _ => heq
      have hdq : (g.a == g.b) = false := by simp [heq]
      have hdr : decide (g.a = g.b) = false := decide_eq_false heq
      clear heq
      have kR : Hid (Row w4 (w.heap.size) 77 [.int .i64 g.op, .int .i64 g.a, .int .i64 g.b]) := (rowCells RB.out B_wa.out)
      obtain ⟨k0, k1, k2, kl⟩ := kR.out.cells3
      clear kR
      go_wp2_with fail
      have HC := opp_any B b n s g.a g.b w4 (HW.out.below B_w.out) hn hg hga.2 (by omega) hgb.2 (by omega)
      rw [Hqo.out ()] at HC
      refine HC.mono ?_
      clear HC
      rintro e w5 ⟨rfl, hb⟩
      have B_w : Hid (Below w.heap.size w w5) := below_on2 B_w.out hb
      have B_wa : Hid (Below wa.heap.size wa w5) := below_on2 B_wa.out hb
      have B_w1 : Hid (Below w1.heap.size w1 w5) := below_on2 B_w1.out hb
      have B_w2 : Hid (Below w2.heap.size w2 w5) := below_on2 B_w2.out hb
      have B_w3 : Hid (Below w3.heap.size w3 w5) := below_on2 B_w3.out hb
      have B_w4 : Hid (Below w4.heap.size w4 w5) := hb
      clear k0 k1 k2 kl
      clear hb
      cases qo
      ·skip
       have kR : Hid (Row w5 (w.heap.size) 77 [.int .i64 g.op, .int .i64 g.a, .int .i64 g.b]) := (rowCells RB.out B_wa.out)
       obtain ⟨k0, k1, k2, kl⟩ := kR.out.cells3
       clear kR
       go_wp2_with fail
       refine (add_any B b n s g (-1) w5 (HW.out.below B_w.out) (Nat.le_trans hB B_w.out.size) hn hg ht).mono ?_
       rintro e w9 ⟨rfl, hwk, hfr⟩
       have HWK : Hid (WkAt w9 B b n (addW n s (g, -1))) := hwk
       have HFR : Hid (WFr B w w9) := (WFr.ofBelow B_w.out hB).trans hfr
       clear hwk hfr
       go_wp2_with fail
       go_end0
       exact ⟨rfl, by rw [(show eitherF n s.gates g ab ne = ((g, -1) : Gt × Int) from by simp [eitherF, Hqa.out (), Hqb.out (), Hqc.out (), Hqd.out (), Hqe.out (), Hqo.out ()])]; exact HWK.out, HFR.out⟩
      ·skip
       have kR : Hid (Row w5 (w.heap.size) 77 [.int .i64 g.op, .int .i64 g.a, .int .i64 g.b]) := (rowCells RB.out B_wa.out)
       obtain ⟨k0, k1, k2, kl⟩ := kR.out.cells3
       clear kR
       go_wp2_with fail
       refine (add_any B b n s ⟨ab, 0, 0⟩ (-1) w5 (HW.out.below B_w.out) (Nat.le_trans hB B_w.out.size) hn hg ht).mono ?_
       rintro e w9 ⟨rfl, hwk, hfr⟩
       have HWK : Hid (WkAt w9 B b n (addW n s (⟨ab, 0, 0⟩, -1))) := hwk
       have HFR : Hid (WFr B w w9) := (WFr.ofBelow B_w.out hB).trans hfr
       clear hwk hfr
       go_wp2_with fail
       go_end0
       exact ⟨rfl, by rw [(show eitherF n s.gates g ab ne = ((⟨ab, 0, 0⟩, -1) : Gt × Int) from by simp [eitherF, Hqa.out (), Hqb.out (), Hqc.out (), Hqd.out (), Hqe.out (), Hqo.out ()])]; exact HWK.out, HFR.out⟩
    ·skip
     have kR : Hid (Row w4 (w.heap.size) 77 [.int .i64 g.op, .int .i64 g.a, .int .i64 g.b]) := (rowCells RB.out B_wa.out)
     obtain ⟨k0, k1, k2, kl⟩ := kR.out.cells3
     clear kR
     go_wp2_with fail
     refine (add_any B b n s g (g.a) w4 (HW.out.below B_w.out) (Nat.le_trans hB B_w.out.size) hn hg ht).mono ?_
     rintro e w9 ⟨rfl, hwk, hfr⟩
     have HWK : Hid (WkAt w9 B b n (addW n s (g, g.a))) := hwk
     have HFR : Hid (WFr B w w9) := (WFr.ofBelow B_w.out hB).trans hfr
     clear hwk hfr
     go_wp2_with fail
     go_end0
     exact ⟨rfl, by rw [(show eitherF n s.gates g ab ne = ((g, g.a) : Gt × Int) from by simp [eitherF, Hqa.out (), Hqb.out (), Hqc.out (), Hqd.out ()])]; exact HWK.out, HFR.out⟩
   ·skip
    have kR : Hid (Row w3 (w.heap.size) 77 [.int .i64 g.op, .int .i64 g.a, .int .i64 g.b]) := (rowCells RB.out B_wa.out)
    obtain ⟨k0, k1, k2, kl⟩ := kR.out.cells3
    clear kR
    go_wp2_with fail
    refine (add_any B b n s g (g.b) w3 (HW.out.below B_w.out) (Nat.le_trans hB B_w.out.size) hn hg ht).mono ?_
    rintro e w9 ⟨rfl, hwk, hfr⟩
    have HWK : Hid (WkAt w9 B b n (addW n s (g, g.b))) := hwk
    have HFR : Hid (WFr B w w9) := (WFr.ofBelow B_w.out hB).trans hfr
    clear hwk hfr
    go_wp2_with fail
    go_end0
    exact ⟨rfl, by rw [(show eitherF n s.gates g ab ne = ((g, g.b) : Gt × Int) from by simp [eitherF, Hqa.out (), Hqb.out (), Hqc.out ()])]; exact HWK.out, HFR.out⟩
  ·skip
   have kR : Hid (Row w2 (w.heap.size) 77 [.int .i64 g.op, .int .i64 g.a, .int .i64 g.b]) := (rowCells RB.out B_wa.out)
   obtain ⟨k0, k1, k2, kl⟩ := kR.out.cells3
   clear kR
   go_wp2_with fail
   refine (add_any B b n s ⟨ab, 0, 0⟩ (-1) w2 (HW.out.below B_w.out) (Nat.le_trans hB B_w.out.size) hn hg ht).mono ?_
   rintro e w9 ⟨rfl, hwk, hfr⟩
   have HWK : Hid (WkAt w9 B b n (addW n s (⟨ab, 0, 0⟩, -1))) := hwk
   have HFR : Hid (WFr B w w9) := (WFr.ofBelow B_w.out hB).trans hfr
   clear hwk hfr
   go_wp2_with fail
   go_end0
   exact ⟨rfl, by rw [(show eitherF n s.gates g ab ne = ((⟨ab, 0, 0⟩, -1) : Gt × Int) from by simp [eitherF, Hqa.out (), Hqb.out ()])]; exact HWK.out, HFR.out⟩
 ·skip
  have kR : Hid (Row w1 (w.heap.size) 77 [.int .i64 g.op, .int .i64 g.a, .int .i64 g.b]) := (rowCells RB.out B_wa.out)
  obtain ⟨k0, k1, k2, kl⟩ := kR.out.cells3
  clear kR
  go_wp2_with fail
  refine (add_any B b n s ⟨ab, 0, 0⟩ (-1) w1 (HW.out.below B_w.out) (Nat.le_trans hB B_w.out.size) hn hg ht).mono ?_
  rintro e w9 ⟨rfl, hwk, hfr⟩
  have HWK : Hid (WkAt w9 B b n (addW n s (⟨ab, 0, 0⟩, -1))) := hwk
  have HFR : Hid (WFr B w w9) := (WFr.ofBelow B_w.out hB).trans hfr
  clear hwk hfr
  go_wp2_with fail
  go_end0
  exact ⟨rfl, by rw [(show eitherF n s.gates g ab ne = ((⟨ab, 0, 0⟩, -1) : Gt × Int) from by simp [eitherF, Hqa.out ()])]; exact HWK.out, HFR.out⟩
set_option maxRecDepth 100000 in
set_option maxHeartbeats 8000000 in
theorem xor_any (B b : Nat) (n : Int) (s : Wk) (g : Gt) (w : World) (h : WkAt w B b n s) (hB : B ≤ w.heap.size) (hn : 0 ≤ n ∧ n ≤ 1000) (hg : s.gates.length ≤ 20000) (ht : s.to.length ≤ 30000) (hga : 0 ≤ g.a ∧ g.a < n + s.gates.length) (hgb : 0 ≤ g.b ∧ g.b < n + s.gates.length) :
 Calls Try.prog 91 #[.pointer (some ⟨b, 0, none⟩), .agg #[.int .i64 g.op, .int .i64 g.a, .int .i64 g.b]] w (fun e w' => e = .returned (.tuple #[]) ∧ WkAt w' B b n (addW n s (xorF n s.gates g)) ∧ WFr B w w') := by
 have HW : Hid (WkAt w B b n s) := h
 clear h
 obtain ⟨qa, hqa⟩ : ∃ q, isW n s.gates (g.a) 0 = q := ⟨_, rfl⟩
 have Hqa : Hid (∀ _ : Unit, isW n s.gates (g.a) 0 = qa) := fun _ => hqa
 clear hqa
 obtain ⟨qb, hqb⟩ : ∃ q, isW n s.gates (g.b) 0 = q := ⟨_, rfl⟩
 have Hqb : Hid (∀ _ : Unit, isW n s.gates (g.b) 0 = qb) := fun _ => hqb
 clear hqb
 obtain ⟨qc, hqc⟩ : ∃ q, isW n s.gates (g.a) 1 = q := ⟨_, rfl⟩
 have Hqc : Hid (∀ _ : Unit, isW n s.gates (g.a) 1 = qc) := fun _ => hqc
 clear hqc
 obtain ⟨qd, hqd⟩ : ∃ q, isW n s.gates (g.b) 1 = q := ⟨_, rfl⟩
 have Hqd : Hid (∀ _ : Unit, isW n s.gates (g.b) 1 = qd) := fun _ => hqd
 clear hqd
 obtain ⟨qo, hqo⟩ : ∃ q, oppW n s.gates g.a g.b = q := ⟨_, rfl⟩
 have Hqo : Hid (∀ _ : Unit, oppW n s.gates g.a g.b = qo) := fun _ => hqo
 clear hqo
 go_enter Try.func91, Try.ntmps91
 go_wp2_with fail
 have RB : Hid (Row (World.alloc w (.cells #[.int .i64 g.op, .int .i64 g.a, .int .i64 g.b] 77)) (w.heap.size) 77 [.int .i64 g.op, .int .i64 g.a, .int .i64 g.b]) := by
  have h0 := Row.new w 77 [.int .i64 g.op, .int .i64 g.a, .int .i64 g.b]
  try simp only [World.size_alloc] at h0
  exact h0
 have hgr9 : Below w.heap.size w (World.alloc w (.cells #[.int .i64 g.op, .int .i64 g.a, .int .i64 g.b] 77)) := by go_grown
 have B_w : Hid (Below w.heap.size w (World.alloc w (.cells #[.int .i64 g.op, .int .i64 g.a, .int .i64 g.b] 77))) := hgr9
 clear hgr9
 revert RB B_w
 generalize (World.alloc w (.cells #[.int .i64 g.op, .int .i64 g.a, .int .i64 g.b] 77)) = wa
 intro RB B_w
 have kR : Hid (Row wa (w.heap.size) 77 [.int .i64 g.op, .int .i64 g.a, .int .i64 g.b]) := RB.out
 obtain ⟨k0, k1, k2, kl⟩ := kR.out.cells3
 clear kR
 go_wp2_with fail
 have HC := is_any B b n s (g.a) 0 wa (HW.out.below B_w.out) hn hg hga.2 (by omega)
 rw [Hqa.out ()] at HC
 refine HC.mono ?_
 clear HC
 rintro e w6 ⟨rfl, hb⟩
 have B_w : Hid (Below w.heap.size w w6) := below_on2 B_w.out hb
 have B_wa : Hid (Below wa.heap.size wa w6) := hb
 clear k0 k1 k2 kl
 clear hb
 cases qa
 ·skip
  have kR : Hid (Row w6 (w.heap.size) 77 [.int .i64 g.op, .int .i64 g.a, .int .i64 g.b]) := (rowCells RB.out B_wa.out)
  obtain ⟨k0, k1, k2, kl⟩ := kR.out.cells3
  clear kR
  go_wp2_with fail
  have HC := is_any B b n s (g.b) 0 w6 (HW.out.below B_w.out) hn hg hgb.2 (by omega)
  rw [Hqb.out ()] at HC
  refine HC.mono ?_
  clear HC
  rintro e w7 ⟨rfl, hb⟩
  have B_w : Hid (Below w.heap.size w w7) := below_on2 B_w.out hb
  have B_wa : Hid (Below wa.heap.size wa w7) := below_on2 B_wa.out hb
  have B_w6 : Hid (Below w6.heap.size w6 w7) := hb
  clear k0 k1 k2 kl
  clear hb
  cases qb
  ·skip
   by_cases heq : g.a = g.b
   ·have Hqe : Hid (∀ _ : Unit, g.a = g.b) := fun _ => heq
    have hdq : (g.a == g.b) = true := by simp [heq]
    have hdr : decide (g.a = g.b) = true := decide_eq_true heq
    clear heq
    have kR : Hid (Row w7 (w.heap.size) 77 [.int .i64 g.op, .int .i64 g.a, .int .i64 g.b]) := (rowCells RB.out B_wa.out)
    obtain ⟨k0, k1, k2, kl⟩ := kR.out.cells3
    clear kR
    go_wp2_with fail
    refine (add_any B b n s ⟨0, 0, 0⟩ (-1) w7 (HW.out.below B_w.out) (Nat.le_trans hB B_w.out.size) hn hg ht).mono ?_
    rintro e w9 ⟨rfl, hwk, hfr⟩
    have HWK : Hid (WkAt w9 B b n (addW n s (⟨0, 0, 0⟩, -1))) := hwk
    have HFR : Hid (WFr B w w9) := (WFr.ofBelow B_w.out hB).trans hfr
    clear hwk hfr
    go_wp2_with fail
    go_end0
    exact ⟨rfl, by rw [(show xorF n s.gates g = ((⟨0, 0, 0⟩, -1) : Gt × Int) from by simp [xorF, Hqa.out (), Hqb.out (), Hqe.out ()])]; exact HWK.out, HFR.out⟩
   ·have Hqe : Hid (∀ _ : Unit, ¬ g.a = g.b) := fun _ => heq
    have hdq : (g.a == g.b) = false := by simp [heq]
    have hdr : decide (g.a = g.b) = false := decide_eq_false heq
    clear heq
    have kR : Hid (Row w7 (w.heap.size) 77 [.int .i64 g.op, .int .i64 g.a, .int .i64 g.b]) := (rowCells RB.out B_wa.out)
    obtain ⟨k0, k1, k2, kl⟩ := kR.out.cells3
    clear kR
    go_wp2_with fail
    have HC := opp_any B b n s g.a g.b w7 (HW.out.below B_w.out) hn hg hga.2 (by omega) hgb.2 (by omega)
    rw [Hqo.out ()] at HC
    refine HC.mono ?_
    clear HC
    rintro e w8 ⟨rfl, hb⟩
    have B_w : Hid (Below w.heap.size w w8) := below_on2 B_w.out hb
    have B_wa : Hid (Below wa.heap.size wa w8) := below_on2 B_wa.out hb
    have B_w6 : Hid (Below w6.heap.size w6 w8) := below_on2 B_w6.out hb
    have B_w7 : Hid (Below w7.heap.size w7 w8) := hb
    clear k0 k1 k2 kl
    clear hb
    cases qo
    ·skip
     have kR : Hid (Row w8 (w.heap.size) 77 [.int .i64 g.op, .int .i64 g.a, .int .i64 g.b]) := (rowCells RB.out B_wa.out)
     obtain ⟨k0, k1, k2, kl⟩ := kR.out.cells3
     clear kR
     go_wp2_with fail
     have HC := is_any B b n s (g.a) 1 w8 (HW.out.below B_w.out) hn hg hga.2 (by omega)
     rw [Hqc.out ()] at HC
     refine HC.mono ?_
     clear HC
     rintro e w9 ⟨rfl, hb⟩
     have B_w : Hid (Below w.heap.size w w9) := below_on2 B_w.out hb
     have B_wa : Hid (Below wa.heap.size wa w9) := below_on2 B_wa.out hb
     have B_w6 : Hid (Below w6.heap.size w6 w9) := below_on2 B_w6.out hb
     have B_w7 : Hid (Below w7.heap.size w7 w9) := below_on2 B_w7.out hb
     have B_w8 : Hid (Below w8.heap.size w8 w9) := hb
     clear k0 k1 k2 kl
     clear hb
     cases qc
     ·skip
      have kR : Hid (Row w9 (w.heap.size) 77 [.int .i64 g.op, .int .i64 g.a, .int .i64 g.b]) := (rowCells RB.out B_wa.out)
      obtain ⟨k0, k1, k2, kl⟩ := kR.out.cells3
      clear kR
      go_wp2_with fail
      have HC := is_any B b n s (g.b) 1 w9 (HW.out.below B_w.out) hn hg hgb.2 (by omega)
      rw [Hqd.out ()] at HC
      refine HC.mono ?_
      clear HC
      rintro e w10 ⟨rfl, hb⟩
      have B_w : Hid (Below w.heap.size w w10) := below_on2 B_w.out hb
      have B_wa : Hid (Below wa.heap.size wa w10) := below_on2 B_wa.out hb
      have B_w6 : Hid (Below w6.heap.size w6 w10) := below_on2 B_w6.out hb
      have B_w7 : Hid (Below w7.heap.size w7 w10) := below_on2 B_w7.out hb
      have B_w8 : Hid (Below w8.heap.size w8 w10) := below_on2 B_w8.out hb
      have B_w9 : Hid (Below w9.heap.size w9 w10) := hb
      clear k0 k1 k2 kl
      clear hb
      cases qd
      ·skip
       have kR : Hid (Row w10 (w.heap.size) 77 [.int .i64 g.op, .int .i64 g.a, .int .i64 g.b]) := (rowCells RB.out B_wa.out)
       obtain ⟨k0, k1, k2, kl⟩ := kR.out.cells3
       clear kR
       go_wp2_with fail
       refine (add_any B b n s g (-1) w10 (HW.out.below B_w.out) (Nat.le_trans hB B_w.out.size) hn hg ht).mono ?_
       rintro e w9 ⟨rfl, hwk, hfr⟩
       have HWK : Hid (WkAt w9 B b n (addW n s (g, -1))) := hwk
       have HFR : Hid (WFr B w w9) := (WFr.ofBelow B_w.out hB).trans hfr
       clear hwk hfr
       go_wp2_with fail
       go_end0
       exact ⟨rfl, by rw [(show xorF n s.gates g = ((g, -1) : Gt × Int) from by simp [xorF, Hqa.out (), Hqb.out (), Hqe.out (), Hqo.out (), Hqc.out (), Hqd.out ()])]; exact HWK.out, HFR.out⟩
      ·skip
       have kR : Hid (Row w10 (w.heap.size) 77 [.int .i64 g.op, .int .i64 g.a, .int .i64 g.b]) := (rowCells RB.out B_wa.out)
       obtain ⟨k0, k1, k2, kl⟩ := kR.out.cells3
       clear kR
       go_wp2_with fail
       refine (notO_any B b n s g.a w10 (HW.out.below B_w.out) (Nat.le_trans hB B_w.out.size) hn hg ht hga).mono ?_
       rintro e w9 ⟨rfl, hwk, hfr⟩
       have HWK : Hid (WkAt w9 B b n (addW n s (notF n s.gates g.a))) := hwk
       have HFR : Hid (WFr B w w9) := (WFr.ofBelow B_w.out hB).trans hfr
       clear hwk hfr
       go_wp2_with fail
       go_end0
       exact ⟨rfl, by rw [(show xorF n s.gates g = notF n s.gates g.a from by simp [xorF, Hqa.out (), Hqb.out (), Hqe.out (), Hqo.out (), Hqc.out (), Hqd.out ()])]; exact HWK.out, HFR.out⟩
     ·skip
      have kR : Hid (Row w9 (w.heap.size) 77 [.int .i64 g.op, .int .i64 g.a, .int .i64 g.b]) := (rowCells RB.out B_wa.out)
      obtain ⟨k0, k1, k2, kl⟩ := kR.out.cells3
      clear kR
      go_wp2_with fail
      refine (notO_any B b n s g.b w9 (HW.out.below B_w.out) (Nat.le_trans hB B_w.out.size) hn hg ht hgb).mono ?_
      rintro e w9 ⟨rfl, hwk, hfr⟩
      have HWK : Hid (WkAt w9 B b n (addW n s (notF n s.gates g.b))) := hwk
      have HFR : Hid (WFr B w w9) := (WFr.ofBelow B_w.out hB).trans hfr
      clear hwk hfr
      go_wp2_with fail
      go_end0
      exact ⟨rfl, by rw [(show xorF n s.gates g = notF n s.gates g.b from by simp [xorF, Hqa.out (), Hqb.out (), Hqe.out (), Hqo.out (), Hqc.out ()])]; exact HWK.out, HFR.out⟩
    ·skip
     have kR : Hid (Row w8 (w.heap.size) 77 [.int .i64 g.op, .int .i64 g.a, .int .i64 g.b]) := (rowCells RB.out B_wa.out)
     obtain ⟨k0, k1, k2, kl⟩ := kR.out.cells3
     clear kR
     go_wp2_with fail
     refine (add_any B b n s ⟨1, 0, 0⟩ (-1) w8 (HW.out.below B_w.out) (Nat.le_trans hB B_w.out.size) hn hg ht).mono ?_
     rintro e w9 ⟨rfl, hwk, hfr⟩
     have HWK : Hid (WkAt w9 B b n (addW n s (⟨1, 0, 0⟩, -1))) := hwk
     have HFR : Hid (WFr B w w9) := (WFr.ofBelow B_w.out hB).trans hfr
     clear hwk hfr
     go_wp2_with fail
     go_end0
     exact ⟨rfl, by rw [(show xorF n s.gates g = ((⟨1, 0, 0⟩, -1) : Gt × Int) from by simp [xorF, Hqa.out (), Hqb.out (), Hqe.out (), Hqo.out ()])]; exact HWK.out, HFR.out⟩
  ·skip
   have kR : Hid (Row w7 (w.heap.size) 77 [.int .i64 g.op, .int .i64 g.a, .int .i64 g.b]) := (rowCells RB.out B_wa.out)
   obtain ⟨k0, k1, k2, kl⟩ := kR.out.cells3
   clear kR
   go_wp2_with fail
   refine (add_any B b n s g (g.a) w7 (HW.out.below B_w.out) (Nat.le_trans hB B_w.out.size) hn hg ht).mono ?_
   rintro e w9 ⟨rfl, hwk, hfr⟩
   have HWK : Hid (WkAt w9 B b n (addW n s (g, g.a))) := hwk
   have HFR : Hid (WFr B w w9) := (WFr.ofBelow B_w.out hB).trans hfr
   clear hwk hfr
   go_wp2_with fail
   go_end0
   exact ⟨rfl, by rw [(show xorF n s.gates g = ((g, g.a) : Gt × Int) from by simp [xorF, Hqa.out (), Hqb.out ()])]; exact HWK.out, HFR.out⟩
 ·skip
  have kR : Hid (Row w6 (w.heap.size) 77 [.int .i64 g.op, .int .i64 g.a, .int .i64 g.b]) := (rowCells RB.out B_wa.out)
  obtain ⟨k0, k1, k2, kl⟩ := kR.out.cells3
  clear kR
  go_wp2_with fail
  refine (add_any B b n s g (g.b) w6 (HW.out.below B_w.out) (Nat.le_trans hB B_w.out.size) hn hg ht).mono ?_
  rintro e w9 ⟨rfl, hwk, hfr⟩
  have HWK : Hid (WkAt w9 B b n (addW n s (g, g.b))) := hwk
  have HFR : Hid (WFr B w w9) := (WFr.ofBelow B_w.out hB).trans hfr
  clear hwk hfr
  go_wp2_with fail
  go_end0
  exact ⟨rfl, by rw [(show xorF n s.gates g = ((g, g.b) : Gt × Int) from by simp [xorF, Hqa.out ()])]; exact HWK.out, HFR.out⟩
end Go.Proofs.Ytiemhbogbaamlaa

