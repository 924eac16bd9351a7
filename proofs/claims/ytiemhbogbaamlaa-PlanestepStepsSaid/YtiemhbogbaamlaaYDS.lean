/-
 A part.
-/
import Derived.Test.YtiemhbogbaamlaaYC40
import Derived.Test.YtiemhbogbaamlaaYC39
import Derived.Test.YtiemhbogbaamlaaYC24
import Derived.Test.YtiemhbogbaamlaaYC41
namespace Go.Proofs.Ytiemhbogbaamlaa
open Go.RowKit
set_option linter.unusedSimpArgs false
set_option linter.unusedVariables false
theorem run_one (t : Tre) (p : Pln) : runErr t p 1 = checkPl t p ∧ runPl t p 1 = stepPl t p := by
 unfold runPl runErr stepPl
 by_cases h : checkPl t p = 0
 ·simp [h]; rfl
 ·simp [h]
set_option maxRecDepth 100000 in
set_option maxHeartbeats 8000000 in
theorem steps_law (t : Tre) (p : Pln) (HA NA A : Option Addr) (hn hc nn nc n c : Nat) (sl sm : List Sl) (w : World) (ht : TAt w t HA NA hn nn sl) (hp : PAt w p A n sm) :
 Calls Try.prog 4 #[.agg #[.int .i64 t.states, .slice HA hn hc, .slice NA nn nc], .agg #[.int .i64 p.w, .int .i64 p.h, .int .i64 p.edge, .slice A n c]] w fun e w' => e = .returned (.bool true) ∧ Below w.heap.size w w' := by
 have HT : Hid (TAt w t HA NA hn nn sl) := ht
 have HLN : Hid (t.nodes.length = nn) := ht.nl
 have HP : Hid (PAt w p A n sm) := hp
 clear ht hp
 go_enter Try.func4, Try.ntmps4
 go_upto_region 1 with fail
 have RT : Hid (Row (World.alloc (World.alloc w (.cells #[.int .i64 t.states, .slice HA hn hc, .slice NA nn nc] 25)) (.cells #[.int .i64 p.w, .int .i64 p.h, .int .i64 p.edge, .slice A n c] 42)) (w.heap.size) 25 [.int .i64 t.states, .slice HA hn hc, .slice NA nn nc]) := by
  have h0 := Row.new w 25 [.int .i64 t.states, .slice HA hn hc, .slice NA nn nc]
  try simp only [World.size_alloc] at h0
  exact (h0.alloc _)
 have RP : Hid (Row (World.alloc (World.alloc w (.cells #[.int .i64 t.states, .slice HA hn hc, .slice NA nn nc] 25)) (.cells #[.int .i64 p.w, .int .i64 p.h, .int .i64 p.edge, .slice A n c] 42)) (w.heap.size + 1) 42 [.int .i64 p.w, .int .i64 p.h, .int .i64 p.edge, .slice A n c]) := by
  have h0 := Row.new (World.alloc w (.cells #[.int .i64 t.states, .slice HA hn hc, .slice NA nn nc] 25)) 42 [.int .i64 p.w, .int .i64 p.h, .int .i64 p.edge, .slice A n c]
  try simp only [World.size_alloc] at h0
  exact h0
 have hgr9 : Below w.heap.size w (World.alloc (World.alloc w (.cells #[.int .i64 t.states, .slice HA hn hc, .slice NA nn nc] 25)) (.cells #[.int .i64 p.w, .int .i64 p.h, .int .i64 p.edge, .slice A n c] 42)) := by go_grown
 have B_w : Hid (Below w.heap.size w (World.alloc (World.alloc w (.cells #[.int .i64 t.states, .slice HA hn hc, .slice NA nn nc] 25)) (.cells #[.int .i64 p.w, .int .i64 p.h, .int .i64 p.edge, .slice A n c] 42))) := hgr9
 clear hgr9
 revert RT RP B_w
 generalize (World.alloc (World.alloc w (.cells #[.int .i64 t.states, .slice HA hn hc, .slice NA nn nc] 25)) (.cells #[.int .i64 p.w, .int .i64 p.h, .int .i64 p.edge, .slice A n c] 42)) = wa
 intro RT RP B_w
 have tR : Hid (Row wa (w.heap.size) 25 [.int .i64 t.states, .slice HA hn hc, .slice NA nn nc]) := RT.out
 obtain ⟨t0, t1, t2, tl⟩ := tR.out.cells3
 clear tR
 have kR : Hid (Row wa (w.heap.size + 1) 42 [.int .i64 p.w, .int .i64 p.h, .int .i64 p.edge, .slice A n c]) := RP.out
 obtain ⟨k0, k1, k2, k3, kl⟩ := kR.out.cells4
 clear kR
 go_wp2_with fail
 refine (small_any t p HA NA A hn hc nn nc n c sl sm wa (HT.out.up B_w.out) (HP.out.up B_w.out)).mono ?_
 rintro e w1 ⟨q, rfl, hq, hb⟩
 have B_w : Hid (Below w.heap.size w w1) := below_on2 B_w.out hb
 have B_wa : Hid (Below wa.heap.size wa w1) := hb
 clear t0 t1 t2 tl k0 k1 k2 k3 kl
 clear hb
 cases q
 ·skip
  go_wp2_with fail
  refine (alive_any w1).mono ?_
  rintro e wl ⟨rfl, hb⟩
  go_wp2
  go_ret
  exact ⟨rfl, below_on2 B_w.out hb⟩
 have H4 : Hid (t.nodes.length ≤ 400) := (fewT_parts (hq rfl)).2
 clear hq
 have tR : Hid (Row w1 (w.heap.size) 25 [.int .i64 t.states, .slice HA hn hc, .slice NA nn nc]) := (rowCells RT.out B_wa.out)
 obtain ⟨t0, t1, t2, tl⟩ := tR.out.cells3
 clear tR
 go_wp2_with fail
 have HC := new_any t HA NA hn hc nn nc sl w1 (HT.out.up B_w.out) (by rw [← HLN.out]; exact H4.out)
 unfold EngPost at HC
 refine HC.mono ?_
 clear HC
 rintro e w2 (⟨hrt, b, GA, OA, PA, gn, gc, on, oc, pn, pc, rfl, heng, hb⟩ | ⟨hrt, rfl, hb⟩)
 rotate_left 1
 ·skip
  have B_w : Hid (Below w.heap.size w w2) := below_on2 B_w.out hb
  have B_wa : Hid (Below wa.heap.size wa w2) := below_on2 B_wa.out hb
  have B_w1 : Hid (Below w1.heap.size w1 w2) := hb
  clear t0 t1 t2 tl
  clear hb
  go_wp2_with fail
  refine (alive_any w2).mono ?_
  rintro e wl ⟨rfl, hb⟩
  go_wp2
  go_ret
  exact ⟨rfl, below_on2 B_w.out hb⟩
 have HRT : Hid (rightT t = true) := hrt
 have HE : Hid (EngAt w2 b t GA OA PA gn gc on oc pn pc) := heng
 clear hrt heng
 have B_w : Hid (Below w.heap.size w w2) := below_on2 B_w.out hb
 have B_wa : Hid (Below wa.heap.size wa w2) := below_on2 B_wa.out hb
 have B_w1 : Hid (Below w1.heap.size w1 w2) := hb
 clear t0 t1 t2 tl
 clear hb
 have kR : Hid (Row w2 (w.heap.size + 1) 42 [.int .i64 p.w, .int .i64 p.h, .int .i64 p.edge, .slice A n c]) := (rowCells RP.out B_wa.out)
 obtain ⟨k0, k1, k2, k3, kl⟩ := kR.out.cells4
 clear kR
 go_wp2_with fail
 obtain ⟨r, hr⟩ : ∃ r, stepPl t p = r := ⟨_, rfl⟩
 obtain ⟨ck, hck⟩ : ∃ ck, checkPl t p = ck := ⟨_, rfl⟩
 have HR : Hid (∀ _ : Unit, stepPl t p = r ∧ checkPl t p = ck) := fun _ => ⟨hr, hck⟩
 have HC := step_any b t GA OA PA gn gc on oc pn pc p A n c sm w2 HE.out (HP.out.up B_w.out)
 rw [(run_one t p).1, (run_one t p).2, hr, hck] at HC
 clear hr hck
 unfold PlPostA at HC
 refine HC.mono ?_
 clear HC
 rintro e w3 ⟨QA, Qn, Qc, Qs, rfl, -, hat, hb⟩
 have HQ : Hid (PAt w3 r QA Qn Qs) := hat
 clear hat
 have B_w : Hid (Below w.heap.size w w3) := below_on2 B_w.out hb
 have B_wa : Hid (Below wa.heap.size wa w3) := below_on2 B_wa.out hb
 have B_w1 : Hid (Below w1.heap.size w1 w3) := below_on2 B_w1.out hb
 have B_w2 : Hid (Below w2.heap.size w2 w3) := hb
 clear k0 k1 k2 k3 kl
 clear hb
 go_upto_region 7 with fail
 have RQ : Hid (Row (World.alloc w3 (.cells #[.int .i64 r.w, .int .i64 r.h, .int .i64 r.edge, .slice QA Qn Qc] 42)) (w3.heap.size) 42 [.int .i64 r.w, .int .i64 r.h, .int .i64 r.edge, .slice QA Qn Qc]) := by
  have h0 := Row.new w3 42 [.int .i64 r.w, .int .i64 r.h, .int .i64 r.edge, .slice QA Qn Qc]
  try simp only [World.size_alloc] at h0
  exact h0
 have hgr9 : Below w3.heap.size w3 (World.alloc w3 (.cells #[.int .i64 r.w, .int .i64 r.h, .int .i64 r.edge, .slice QA Qn Qc] 42)) := by go_grown
 have B_w : Hid (Below w.heap.size w (World.alloc w3 (.cells #[.int .i64 r.w, .int .i64 r.h, .int .i64 r.edge, .slice QA Qn Qc] 42))) := below_on2 B_w.out hgr9
 have B_wa : Hid (Below wa.heap.size wa (World.alloc w3 (.cells #[.int .i64 r.w, .int .i64 r.h, .int .i64 r.edge, .slice QA Qn Qc] 42))) := below_on2 B_wa.out hgr9
 have B_w1 : Hid (Below w1.heap.size w1 (World.alloc w3 (.cells #[.int .i64 r.w, .int .i64 r.h, .int .i64 r.edge, .slice QA Qn Qc] 42))) := below_on2 B_w1.out hgr9
 have B_w2 : Hid (Below w2.heap.size w2 (World.alloc w3 (.cells #[.int .i64 r.w, .int .i64 r.h, .int .i64 r.edge, .slice QA Qn Qc] 42))) := below_on2 B_w2.out hgr9
 have B_w3 : Hid (Below w3.heap.size w3 (World.alloc w3 (.cells #[.int .i64 r.w, .int .i64 r.h, .int .i64 r.edge, .slice QA Qn Qc] 42))) := hgr9
 clear hgr9
 revert RQ B_w B_wa B_w1 B_w2 B_w3
 generalize (World.alloc w3 (.cells #[.int .i64 r.w, .int .i64 r.h, .int .i64 r.edge, .slice QA Qn Qc] 42)) = w4
 intro RQ B_w B_wa B_w1 B_w2 B_w3
 have tR : Hid (Row w4 (w.heap.size) 25 [.int .i64 t.states, .slice HA hn hc, .slice NA nn nc]) := (rowCells RT.out B_wa.out)
 obtain ⟨t0, t1, t2, tl⟩ := tR.out.cells3
 clear tR
 have kR : Hid (Row w4 (w.heap.size + 1) 42 [.int .i64 p.w, .int .i64 p.h, .int .i64 p.edge, .slice A n c]) := (rowCells RP.out B_wa.out)
 obtain ⟨k0, k1, k2, k3, kl⟩ := kR.out.cells4
 clear kR
 go_wp2_with fail
 have HC := rStep_any t p HA NA A hn hc nn nc n c sl sm w4 (HT.out.up B_w.out) (HP.out.up B_w.out) HRT.out H4.out
 rw [(HR.out ()).1, (HR.out ()).2] at HC
 unfold PlPostA at HC
 refine HC.mono ?_
 clear HC
 rintro e w5 ⟨SA, Sn, Sc, Ss, rfl, -, hat, hb⟩
 have HS : Hid (PAt w5 r SA Sn Ss) := hat
 clear hat
 have B_w : Hid (Below w.heap.size w w5) := below_on2 B_w.out hb
 have B_wa : Hid (Below wa.heap.size wa w5) := below_on2 B_wa.out hb
 have B_w1 : Hid (Below w1.heap.size w1 w5) := below_on2 B_w1.out hb
 have B_w2 : Hid (Below w2.heap.size w2 w5) := below_on2 B_w2.out hb
 have B_w3 : Hid (Below w3.heap.size w3 w5) := below_on2 B_w3.out hb
 have B_w4 : Hid (Below w4.heap.size w4 w5) := hb
 clear t0 t1 t2 tl k0 k1 k2 k3 kl
 clear hb
 go_upto_region 8 with fail
 have RS : Hid (Row (World.alloc w5 (.cells #[.int .i64 r.w, .int .i64 r.h, .int .i64 r.edge, .slice SA Sn Sc] 42)) (w5.heap.size) 42 [.int .i64 r.w, .int .i64 r.h, .int .i64 r.edge, .slice SA Sn Sc]) := by
  have h0 := Row.new w5 42 [.int .i64 r.w, .int .i64 r.h, .int .i64 r.edge, .slice SA Sn Sc]
  try simp only [World.size_alloc] at h0
  exact h0
 have hgr9 : Below w5.heap.size w5 (World.alloc w5 (.cells #[.int .i64 r.w, .int .i64 r.h, .int .i64 r.edge, .slice SA Sn Sc] 42)) := by go_grown
 have B_w : Hid (Below w.heap.size w (World.alloc w5 (.cells #[.int .i64 r.w, .int .i64 r.h, .int .i64 r.edge, .slice SA Sn Sc] 42))) := below_on2 B_w.out hgr9
 have B_wa : Hid (Below wa.heap.size wa (World.alloc w5 (.cells #[.int .i64 r.w, .int .i64 r.h, .int .i64 r.edge, .slice SA Sn Sc] 42))) := below_on2 B_wa.out hgr9
 have B_w1 : Hid (Below w1.heap.size w1 (World.alloc w5 (.cells #[.int .i64 r.w, .int .i64 r.h, .int .i64 r.edge, .slice SA Sn Sc] 42))) := below_on2 B_w1.out hgr9
 have B_w2 : Hid (Below w2.heap.size w2 (World.alloc w5 (.cells #[.int .i64 r.w, .int .i64 r.h, .int .i64 r.edge, .slice SA Sn Sc] 42))) := below_on2 B_w2.out hgr9
 have B_w3 : Hid (Below w3.heap.size w3 (World.alloc w5 (.cells #[.int .i64 r.w, .int .i64 r.h, .int .i64 r.edge, .slice SA Sn Sc] 42))) := below_on2 B_w3.out hgr9
 have B_w4 : Hid (Below w4.heap.size w4 (World.alloc w5 (.cells #[.int .i64 r.w, .int .i64 r.h, .int .i64 r.edge, .slice SA Sn Sc] 42))) := below_on2 B_w4.out hgr9
 have B_w5 : Hid (Below w5.heap.size w5 (World.alloc w5 (.cells #[.int .i64 r.w, .int .i64 r.h, .int .i64 r.edge, .slice SA Sn Sc] 42))) := hgr9
 clear hgr9
 revert RS B_w B_wa B_w1 B_w2 B_w3 B_w4 B_w5
 generalize (World.alloc w5 (.cells #[.int .i64 r.w, .int .i64 r.h, .int .i64 r.edge, .slice SA Sn Sc] 42)) = w6
 intro RS B_w B_wa B_w1 B_w2 B_w3 B_w4 B_w5
 have kR : Hid (Row w6 (w3.heap.size) 42 [.int .i64 r.w, .int .i64 r.h, .int .i64 r.edge, .slice QA Qn Qc]) := (rowCells RQ.out B_w4.out)
 obtain ⟨k0, k1, k2, k3, kl⟩ := kR.out.cells4
 clear kR
 have jR : Hid (Row w6 (w5.heap.size) 42 [.int .i64 r.w, .int .i64 r.h, .int .i64 r.edge, .slice SA Sn Sc]) := RS.out
 obtain ⟨j0, j1, j2, j3, jl⟩ := jR.out.cells4
 clear jR
 go_wp2_with fail
 have HC := rPlSame_any r r QA SA Qn Qc Sn Sc Qs Ss w6 (HQ.out.up B_w3.out) (HS.out.up B_w5.out)
 rw [samePl_self] at HC
 refine HC.mono ?_
 clear HC
 rintro e w7 ⟨rfl, hb⟩
 have B_w : Hid (Below w.heap.size w w7) := below_on2 B_w.out hb
 have B_wa : Hid (Below wa.heap.size wa w7) := below_on2 B_wa.out hb
 have B_w1 : Hid (Below w1.heap.size w1 w7) := below_on2 B_w1.out hb
 have B_w2 : Hid (Below w2.heap.size w2 w7) := below_on2 B_w2.out hb
 have B_w3 : Hid (Below w3.heap.size w3 w7) := below_on2 B_w3.out hb
 have B_w4 : Hid (Below w4.heap.size w4 w7) := below_on2 B_w4.out hb
 have B_w5 : Hid (Below w5.heap.size w5 w7) := below_on2 B_w5.out hb
 have B_w6 : Hid (Below w6.heap.size w6 w7) := hb
 clear k0 k1 k2 k3 kl j0 j1 j2 j3 jl
 clear hb
 go_wp2_with fail
 refine (alive_any w7).mono ?_
 rintro e wl ⟨rfl, hb⟩
 go_wp2
 go_ret
 exact ⟨rfl, below_on2 B_w.out hb⟩
end Go.Proofs.Ytiemhbogbaamlaa

/-
 A part.
-/
namespace Go.Proofs.Ytiemhbogbaamlaa
open Go.RowKit Go.ChangeShapes Go.WideShapes Go.ChangeAt Go.Joins
set_option linter.unusedSimpArgs false
set_option linter.unusedVariables false
set_option maxRecDepth 100000 in
theorem planestepSteps_lifted (os : Os) (started : os.Started) (H : Type) (enc : TypeId × Value → H) :
 ReturnsInHanded {} Try.checked os 4 .any (Rows.planestepStepsSpec.pre6 enc Try.prog Try.f4 Rows.planestepStepsRow.domain false) (Rows.planestepStepsSpec.post enc Try.prog Try.f4 false true false false) := by
 refine returnsInHanded_of_change (C := Try.checked) Try.own' started (by kernel_rfl) Try.func4
  (ChangeSpec.witness6 (enc := enc) (C := Try.checked) false ⟨#[], #[.agg #[.int .i64 0, .slice none 0 0, .slice none 0 0], .agg #[.int .i64 0, .int .i64 0, .int .i64 0, .slice none 0 0]], []⟩ 8 (by kernel_rfl) (by kernel_rfl) (by kernel_rfl) (by kernel_rfl)) ?_
 intro W base args ds gs before hval0 hW hcnd _
 have hval : ∀ (j : Nat) t v, Try.f4.params[j]? = some t → args[j]? = some v → Value.okWide Try.prog W .any base t v := hval0
 have hW' := hW
 obtain ⟨p, q, hA0, hV, rfl, hfz, hnd⟩ := hW
 have hA : DataW.TrodAll enc Try.prog W 0 (fun _ => true) true Try.f4.params.toList args.toList ds p := hA0
 rw [Try.params4] at hA hval
 obtain ⟨v0, v1, d0, d1, p0, p1, rfl, rfl, rfl, h0, h1⟩ := trodAll_two hA
 obtain ⟨rfl, rfl⟩ := trodVars_none hV
 have h0k := h0
 have hlt0 : ∀ x ∈ p0, x.block < W.heap.size := fun x hx => hW'.lt x (by simp [hx])
 have h1k := h1
 have hlt1 : ∀ x ∈ p1, x.block < W.heap.size := fun x hx => hW'.lt x (by simp [hx])
 obtain ⟨t0, HA0, hn0, hc0, NA0, nn0, nc0, sl0, rfl, hm0⟩ := open_tree (hval 0 25 v0 rfl rfl) h0
 obtain ⟨q1, A1, n1, ac1, sl1, rfl, hm1⟩ := open_planes (hval 1 42 v1 rfl rfl) h1
 clear hA0 hval0
 refine (steps_law t0 q1 HA0 NA0 A1 hn0 hc0 nn0 nc0 n1 ac1 sl0 sl1 W hm0 hm1).mono fun e W' ⟨he, hb⟩ => ?_
 subst he
 exact ⟨_, rfl, law_post (pa := p0 ++ p1) (pv := []) hW' (fun _ _ _ => trodAll_mk1 (shut_bool Try.underlying4 true)) (trodAll_mk2 (Below.trod Try.laidOut' (by kernel_rfl) (of_decide_eq_true (by kernel_rfl)) h0k hb hlt0) (Below.trod Try.laidOut' (by kernel_rfl) (of_decide_eq_true (by kernel_rfl)) h1k hb hlt1)) rfl hb⟩
theorem planestepSteps_holds : Rows.PlanestepStepsSaid :=
 OpenClaim.holds_of_wide 4 Try.f4 rfl rfl rfl rfl rfl rfl rfl ⟨rfl, rfl, rfl, rfl, rfl⟩ rfl rfl rfl rfl rfl (by kernel_rfl) Try.func4 (by kernel_rfl)
  (of_decide_eq_true (by kernel_rfl)) (by unfold Func.isWrapper; first | (rw [if_pos (by decide +kernel)]; kernel_rfl) | (rw [if_neg (by decide +kernel)]; exact ⟨rfl, rfl⟩))
  (fun os started H enc _ => planestepSteps_lifted os started H enc)
end Go.Proofs.Ytiemhbogbaamlaa
