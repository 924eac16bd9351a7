/-
 A part.
-/
import Derived.Test.YtiemhbogbaamlaaYC40
import Derived.Test.YtiemhbogbaamlaaYC39
import Derived.Test.YtiemhbogbaamlaaYC24
import Derived.Test.YtiemhbogbaamlaaYC41
namespace Go.Proofs.Ytiemhbogbaamlaa
open Go.RowKit
set_option linter.unusedSimpArgs false
set_option linter.unusedVariables false
set_option maxRecDepth 100000 in
set_option maxHeartbeats 8000000 in
theorem nil_law (p : Pln) (A : Option Addr) (n c : Nat) (sl : List Sl) (z : Int) (w : World) (h : PAt w p A n sl) :
 Calls Try.prog 6 #[.agg #[.int .i64 p.w, .int .i64 p.h, .int .i64 p.edge, .slice A n c], .int .i64 z] w fun e w' => e = .returned (.bool true) ∧ Below w.heap.size w w' := by
 have HP : Hid (PAt w p A n sl) := h
 clear h
 go_enter Try.func6, Try.ntmps6
 go_upto_region 1 with fail
 have RP : Hid (Row (World.alloc w (.cells #[.int .i64 p.w, .int .i64 p.h, .int .i64 p.edge, .slice A n c] 42)) (w.heap.size) 42 [.int .i64 p.w, .int .i64 p.h, .int .i64 p.edge, .slice A n c]) := by
  have h0 := Row.new w 42 [.int .i64 p.w, .int .i64 p.h, .int .i64 p.edge, .slice A n c]
  try simp only [World.size_alloc] at h0
  exact h0
 have hgr9 : Below w.heap.size w (World.alloc w (.cells #[.int .i64 p.w, .int .i64 p.h, .int .i64 p.edge, .slice A n c] 42)) := by go_grown
 have B_w : Hid (Below w.heap.size w (World.alloc w (.cells #[.int .i64 p.w, .int .i64 p.h, .int .i64 p.edge, .slice A n c] 42))) := hgr9
 clear hgr9
 revert RP B_w
 generalize (World.alloc w (.cells #[.int .i64 p.w, .int .i64 p.h, .int .i64 p.edge, .slice A n c] 42)) = wa
 intro RP B_w
 have kR : Hid (Row wa (w.heap.size) 42 [.int .i64 p.w, .int .i64 p.h, .int .i64 p.edge, .slice A n c]) := RP.out
 obtain ⟨k0, k1, k2, k3, kl⟩ := kR.out.cells4
 clear kR
 go_wp2_with fail
 refine (few_any p A n c sl wa (HP.out.up B_w.out)).mono ?_
 rintro e w1 ⟨q, rfl, -, hb⟩
 have B_w : Hid (Below w.heap.size w w1) := below_on2 B_w.out hb
 have B_wa : Hid (Below wa.heap.size wa w1) := hb
 clear k0 k1 k2 k3 kl
 clear hb
 cases q
 ·skip
  go_wp2_with fail
  refine (alive_any w1).mono ?_
  rintro e wl ⟨rfl, hb⟩
  go_wp2
  go_ret
  exact ⟨rfl, below_on2 B_w.out hb⟩
 have kR : Hid (Row w1 (w.heap.size) 42 [.int .i64 p.w, .int .i64 p.h, .int .i64 p.edge, .slice A n c]) := (rowCells RP.out B_wa.out)
 obtain ⟨k0, k1, k2, k3, kl⟩ := kR.out.cells4
 clear kR
 go_wp2_with fail
 have HC := step_nil p A n c w1
 unfold PlPostA at HC
 refine HC.mono ?_
 clear HC
 rintro e w2 ⟨QA, Qn, Qc, Qs, he, -, hat, hb⟩
 have he2 : e = .returned (.tuple #[.agg #[.int .i64 0, .int .i64 0, .int .i64 0, .slice QA Qn Qc], .int .i64 1]) := he
 subst he2
 have HQ : Hid (PAt w2 noPln QA Qn Qs) := hat
 clear he hat
 have B_w : Hid (Below w.heap.size w w2) := below_on2 B_w.out hb
 have B_wa : Hid (Below wa.heap.size wa w2) := below_on2 B_wa.out hb
 have B_w1 : Hid (Below w1.heap.size w1 w2) := hb
 clear k0 k1 k2 k3 kl
 clear hb
 go_upto_region 5 with fail
 have RQ : Hid (Row (World.alloc w2 (.cells #[.int .i64 0, .int .i64 0, .int .i64 0, .slice QA Qn Qc] 42)) (w2.heap.size) 42 [.int .i64 0, .int .i64 0, .int .i64 0, .slice QA Qn Qc]) := by
  have h0 := Row.new w2 42 [.int .i64 0, .int .i64 0, .int .i64 0, .slice QA Qn Qc]
  try simp only [World.size_alloc] at h0
  exact h0
 have hgr9 : Below w2.heap.size w2 (World.alloc w2 (.cells #[.int .i64 0, .int .i64 0, .int .i64 0, .slice QA Qn Qc] 42)) := by go_grown
 have B_w : Hid (Below w.heap.size w (World.alloc w2 (.cells #[.int .i64 0, .int .i64 0, .int .i64 0, .slice QA Qn Qc] 42))) := below_on2 B_w.out hgr9
 have B_wa : Hid (Below wa.heap.size wa (World.alloc w2 (.cells #[.int .i64 0, .int .i64 0, .int .i64 0, .slice QA Qn Qc] 42))) := below_on2 B_wa.out hgr9
 have B_w1 : Hid (Below w1.heap.size w1 (World.alloc w2 (.cells #[.int .i64 0, .int .i64 0, .int .i64 0, .slice QA Qn Qc] 42))) := below_on2 B_w1.out hgr9
 have B_w2 : Hid (Below w2.heap.size w2 (World.alloc w2 (.cells #[.int .i64 0, .int .i64 0, .int .i64 0, .slice QA Qn Qc] 42))) := hgr9
 clear hgr9
 revert RQ B_w B_wa B_w1 B_w2
 generalize (World.alloc w2 (.cells #[.int .i64 0, .int .i64 0, .int .i64 0, .slice QA Qn Qc] 42)) = w3
 intro RQ B_w B_wa B_w1 B_w2
 have kR : Hid (Row w3 (w.heap.size) 42 [.int .i64 p.w, .int .i64 p.h, .int .i64 p.edge, .slice A n c]) := (rowCells RP.out B_wa.out)
 obtain ⟨k0, k1, k2, k3, kl⟩ := kR.out.cells4
 clear kR
 go_wp2_with fail
 have HC := run_nil p A n c z w3
 unfold PlPostA at HC
 refine HC.mono ?_
 clear HC
 rintro e w4 ⟨RA, Rn, Rc, Rs, he, -, hat, hb⟩
 have he2 : e = .returned (.tuple #[.agg #[.int .i64 0, .int .i64 0, .int .i64 0, .slice RA Rn Rc], .int .i64 1]) := he
 subst he2
 have HR : Hid (PAt w4 noPln RA Rn Rs) := hat
 clear he hat
 have B_w : Hid (Below w.heap.size w w4) := below_on2 B_w.out hb
 have B_wa : Hid (Below wa.heap.size wa w4) := below_on2 B_wa.out hb
 have B_w1 : Hid (Below w1.heap.size w1 w4) := below_on2 B_w1.out hb
 have B_w2 : Hid (Below w2.heap.size w2 w4) := below_on2 B_w2.out hb
 have B_w3 : Hid (Below w3.heap.size w3 w4) := hb
 clear k0 k1 k2 k3 kl
 clear hb
 go_upto_region 6 with fail
 have RR : Hid (Row (World.alloc w4 (.cells #[.int .i64 0, .int .i64 0, .int .i64 0, .slice RA Rn Rc] 42)) (w4.heap.size) 42 [.int .i64 0, .int .i64 0, .int .i64 0, .slice RA Rn Rc]) := by
  have h0 := Row.new w4 42 [.int .i64 0, .int .i64 0, .int .i64 0, .slice RA Rn Rc]
  try simp only [World.size_alloc] at h0
  exact h0
 have hgr9 : Below w4.heap.size w4 (World.alloc w4 (.cells #[.int .i64 0, .int .i64 0, .int .i64 0, .slice RA Rn Rc] 42)) := by go_grown
 have B_w : Hid (Below w.heap.size w (World.alloc w4 (.cells #[.int .i64 0, .int .i64 0, .int .i64 0, .slice RA Rn Rc] 42))) := below_on2 B_w.out hgr9
 have B_wa : Hid (Below wa.heap.size wa (World.alloc w4 (.cells #[.int .i64 0, .int .i64 0, .int .i64 0, .slice RA Rn Rc] 42))) := below_on2 B_wa.out hgr9
 have B_w1 : Hid (Below w1.heap.size w1 (World.alloc w4 (.cells #[.int .i64 0, .int .i64 0, .int .i64 0, .slice RA Rn Rc] 42))) := below_on2 B_w1.out hgr9
 have B_w2 : Hid (Below w2.heap.size w2 (World.alloc w4 (.cells #[.int .i64 0, .int .i64 0, .int .i64 0, .slice RA Rn Rc] 42))) := below_on2 B_w2.out hgr9
 have B_w3 : Hid (Below w3.heap.size w3 (World.alloc w4 (.cells #[.int .i64 0, .int .i64 0, .int .i64 0, .slice RA Rn Rc] 42))) := below_on2 B_w3.out hgr9
 have B_w4 : Hid (Below w4.heap.size w4 (World.alloc w4 (.cells #[.int .i64 0, .int .i64 0, .int .i64 0, .slice RA Rn Rc] 42))) := hgr9
 clear hgr9
 revert RR B_w B_wa B_w1 B_w2 B_w3 B_w4
 generalize (World.alloc w4 (.cells #[.int .i64 0, .int .i64 0, .int .i64 0, .slice RA Rn Rc] 42)) = w5
 intro RR B_w B_wa B_w1 B_w2 B_w3 B_w4
 have kR : Hid (Row w5 (w2.heap.size) 42 [.int .i64 0, .int .i64 0, .int .i64 0, .slice QA Qn Qc]) := (rowCells RQ.out B_w3.out)
 obtain ⟨k0, k1, k2, k3, kl⟩ := kR.out.cells4
 clear kR
 go_wp2_with fail
 have HC := rPlSame_any noPln noPln QA none Qn Qc 0 0 Qs [] w5 (HQ.out.up B_w2.out) (noPln_at _)
 rw [samePl_self] at HC
 refine HC.mono ?_
 clear HC
 rintro e w6 ⟨rfl, hb⟩
 have B_w : Hid (Below w.heap.size w w6) := below_on2 B_w.out hb
 have B_wa : Hid (Below wa.heap.size wa w6) := below_on2 B_wa.out hb
 have B_w1 : Hid (Below w1.heap.size w1 w6) := below_on2 B_w1.out hb
 have B_w2 : Hid (Below w2.heap.size w2 w6) := below_on2 B_w2.out hb
 have B_w3 : Hid (Below w3.heap.size w3 w6) := below_on2 B_w3.out hb
 have B_w4 : Hid (Below w4.heap.size w4 w6) := below_on2 B_w4.out hb
 have B_w5 : Hid (Below w5.heap.size w5 w6) := hb
 clear k0 k1 k2 k3 kl
 clear hb
 have kR : Hid (Row w6 (w4.heap.size) 42 [.int .i64 0, .int .i64 0, .int .i64 0, .slice RA Rn Rc]) := (rowCells RR.out B_w5.out)
 obtain ⟨k0, k1, k2, k3, kl⟩ := kR.out.cells4
 clear kR
 go_wp2_with fail
 have HC := rPlSame_any noPln noPln RA none Rn Rc 0 0 Rs [] w6 (HR.out.up B_w4.out) (noPln_at _)
 rw [samePl_self] at HC
 refine HC.mono ?_
 clear HC
 rintro e w7 ⟨rfl, hb⟩
 have B_w : Hid (Below w.heap.size w w7) := below_on2 B_w.out hb
 have B_wa : Hid (Below wa.heap.size wa w7) := below_on2 B_wa.out hb
 have B_w1 : Hid (Below w1.heap.size w1 w7) := below_on2 B_w1.out hb
 have B_w2 : Hid (Below w2.heap.size w2 w7) := below_on2 B_w2.out hb
 have B_w3 : Hid (Below w3.heap.size w3 w7) := below_on2 B_w3.out hb
 have B_w4 : Hid (Below w4.heap.size w4 w7) := below_on2 B_w4.out hb
 have B_w5 : Hid (Below w5.heap.size w5 w7) := below_on2 B_w5.out hb
 have B_w6 : Hid (Below w6.heap.size w6 w7) := hb
 clear k0 k1 k2 k3 kl
 clear hb
 go_wp2_with fail
 refine (circuit_nil w7).mono ?_
 rintro e w8 ⟨rfl, hb⟩
 have B_w : Hid (Below w.heap.size w w8) := below_on2 B_w.out hb
 have B_wa : Hid (Below wa.heap.size wa w8) := below_on2 B_wa.out hb
 have B_w1 : Hid (Below w1.heap.size w1 w8) := below_on2 B_w1.out hb
 have B_w2 : Hid (Below w2.heap.size w2 w8) := below_on2 B_w2.out hb
 have B_w3 : Hid (Below w3.heap.size w3 w8) := below_on2 B_w3.out hb
 have B_w4 : Hid (Below w4.heap.size w4 w8) := below_on2 B_w4.out hb
 have B_w5 : Hid (Below w5.heap.size w5 w8) := below_on2 B_w5.out hb
 have B_w6 : Hid (Below w6.heap.size w6 w8) := below_on2 B_w6.out hb
 have B_w7 : Hid (Below w7.heap.size w7 w8) := hb
 clear hb
 go_wp2_with fail
 have HC := rSameZ_at noCirc noCirc none none none none 0 0 0 0 0 0 0 0 w8 (noCirc_at _) (noCirc_at _)
 rw [show sameC noCirc noCirc = true by kernel_rfl] at HC
 refine HC.mono ?_
 clear HC
 rintro e w9 ⟨rfl, hb⟩
 have B_w : Hid (Below w.heap.size w w9) := below_on2 B_w.out hb
 have B_wa : Hid (Below wa.heap.size wa w9) := below_on2 B_wa.out hb
 have B_w1 : Hid (Below w1.heap.size w1 w9) := below_on2 B_w1.out hb
 have B_w2 : Hid (Below w2.heap.size w2 w9) := below_on2 B_w2.out hb
 have B_w3 : Hid (Below w3.heap.size w3 w9) := below_on2 B_w3.out hb
 have B_w4 : Hid (Below w4.heap.size w4 w9) := below_on2 B_w4.out hb
 have B_w5 : Hid (Below w5.heap.size w5 w9) := below_on2 B_w5.out hb
 have B_w6 : Hid (Below w6.heap.size w6 w9) := below_on2 B_w6.out hb
 have B_w7 : Hid (Below w7.heap.size w7 w9) := below_on2 B_w7.out hb
 have B_w8 : Hid (Below w8.heap.size w8 w9) := hb
 clear hb
 go_wp2_with fail
 refine (alive_any w9).mono ?_
 rintro e wl ⟨rfl, hb⟩
 go_wp2
 go_ret
 exact ⟨rfl, below_on2 B_w.out hb⟩
end Go.Proofs.Ytiemhbogbaamlaa

/-
 A part.
-/
namespace Go.Proofs.Ytiemhbogbaamlaa
open Go.RowKit Go.ChangeShapes Go.WideShapes Go.ChangeAt Go.Joins
set_option linter.unusedSimpArgs false
set_option linter.unusedVariables false
set_option maxRecDepth 100000 in
theorem planestepNil_lifted (os : Os) (started : os.Started) (H : Type) (enc : TypeId × Value → H) :
 ReturnsInHanded {} Try.checked os 6 .any (Rows.planestepNilSpec.pre6 enc Try.prog Try.f6 Rows.planestepNilRow.domain false) (Rows.planestepNilSpec.post enc Try.prog Try.f6 false true false false) := by
 refine returnsInHanded_of_change (C := Try.checked) Try.own' started (by kernel_rfl) Try.func6
  (ChangeSpec.witness6 (enc := enc) (C := Try.checked) false ⟨#[], #[.agg #[.int .i64 0, .int .i64 0, .int .i64 0, .slice none 0 0], .int .i64 0], []⟩ 8 (by kernel_rfl) (by kernel_rfl) (by kernel_rfl) (by kernel_rfl)) ?_
 intro W base args ds gs before hval0 hW hcnd _
 have hval : ∀ (j : Nat) t v, Try.f6.params[j]? = some t → args[j]? = some v → Value.okWide Try.prog W .any base t v := hval0
 have hW' := hW
 obtain ⟨p, q, hA0, hV, rfl, hfz, hnd⟩ := hW
 have hA : DataW.TrodAll enc Try.prog W 0 (fun _ => true) true Try.f6.params.toList args.toList ds p := hA0
 rw [Try.params6] at hA hval
 obtain ⟨v0, v1, d0, d1, p0, p1, rfl, rfl, rfl, h0, h1⟩ := trodAll_two hA
 obtain ⟨rfl, rfl⟩ := trodVars_none hV
 have h0k := h0
 have hlt0 : ∀ x ∈ p0, x.block < W.heap.size := fun x hx => hW'.lt x (by simp [hx])
 have h1k := h1
 have hlt1 : ∀ x ∈ p1, x.block < W.heap.size := fun x hx => hW'.lt x (by simp [hx])
 obtain ⟨q0, A0, n0, ac0, sl0, rfl, hm0⟩ := open_planes (hval 0 42 v0 rfl rfl) h0
 obtain ⟨z1, rfl, zl1, zh1⟩ := open_int_arg (hval 1 3 v1 rfl rfl) h1
 clear hA0 hval0
 refine (nil_law q0 A0 n0 ac0 sl0 z1 W hm0).mono fun e W' ⟨he, hb⟩ => ?_
 subst he
 exact ⟨_, rfl, law_post (pa := p0 ++ p1) (pv := []) hW' (fun _ _ _ => trodAll_mk1 (shut_bool Try.underlying4 true)) (trodAll_mk2 (Below.trod Try.laidOut' (by kernel_rfl) (of_decide_eq_true (by kernel_rfl)) h0k hb hlt0) (Below.trod Try.laidOut' (by kernel_rfl) (of_decide_eq_true (by kernel_rfl)) h1k hb hlt1)) rfl hb⟩
theorem planestepNil_holds : Rows.PlanestepNilSaid :=
 OpenClaim.holds_of_wide 6 Try.f6 rfl rfl rfl rfl rfl rfl rfl ⟨rfl, rfl, rfl, rfl, rfl⟩ rfl rfl rfl rfl rfl (by kernel_rfl) Try.func6 (by kernel_rfl)
  (of_decide_eq_true (by kernel_rfl)) (by unfold Func.isWrapper; first | (rw [if_pos (by decide +kernel)]; kernel_rfl) | (rw [if_neg (by decide +kernel)]; exact ⟨rfl, rfl⟩))
  (fun os started H enc _ => planestepNil_lifted os started H enc)
end Go.Proofs.Ytiemhbogbaamlaa
