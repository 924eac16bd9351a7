/-
 A part.
-/
import Derived.Test.YtiemhbogbaamlaaYC40
import Derived.Test.YtiemhbogbaamlaaYC39
import Derived.Test.YtiemhbogbaamlaaYC24
import Derived.Test.YtiemhbogbaamlaaYC41
namespace Go.Proofs.Ytiemhbogbaamlaa
open Go.RowKit
set_option linter.unusedSimpArgs false
set_option linter.unusedVariables false
theorem run_good {t : Tre} {p : Pln} (h : OkTP t p) {k : Nat} (hk : k ≤ 10000) : runErr t p (k : Int) = 0 ∧ runPl t p (k : Int) = genPl t p k := by
 have h1 : runErr t p (k : Int) = 0 := by unfold runErr; rw [if_pos (ok_check h), if_pos (by omega)]
 exact ⟨h1, by unfold runPl; rw [if_pos h1, Int.toNat_natCast]⟩
set_option maxRecDepth 100000 in
set_option maxHeartbeats 8000000 in
theorem runs_law (t : Tre) (p : Pln) (HA NA A : Option Addr) (hn hc nn nc n c : Nat) (z : Int) (sl sm : List Sl) (w : World) (hz : -9223372036854775808 ≤ z ∧ z ≤ 9223372036854775807) (ht : TAt w t HA NA hn nn sl) (hp : PAt w p A n sm) :
 Calls Try.prog 5 #[.agg #[.int .i64 t.states, .slice HA hn hc, .slice NA nn nc], .agg #[.int .i64 p.w, .int .i64 p.h, .int .i64 p.edge, .slice A n c], .int .i64 z] w fun e w' => e = .returned (.bool true) ∧ Below w.heap.size w w' := by
 have HT : Hid (TAt w t HA NA hn nn sl) := ht
 have HLN : Hid (t.nodes.length = nn) := ht.nl
 have HP : Hid (PAt w p A n sm) := hp
 clear ht hp
 go_enter Try.func5, Try.ntmps5
 go_upto_region 1 with fail
 have RT : Hid (Row (World.alloc (World.alloc w (.cells #[.int .i64 t.states, .slice HA hn hc, .slice NA nn nc] 25)) (.cells #[.int .i64 p.w, .int .i64 p.h, .int .i64 p.edge, .slice A n c] 42)) (w.heap.size) 25 [.int .i64 t.states, .slice HA hn hc, .slice NA nn nc]) := by
  have h0 := Row.new w 25 [.int .i64 t.states, .slice HA hn hc, .slice NA nn nc]
  try simp only [World.size_alloc] at h0
  exact (h0.alloc _)
 have RP : Hid (Row (World.alloc (World.alloc w (.cells #[.int .i64 t.states, .slice HA hn hc, .slice NA nn nc] 25)) (.cells #[.int .i64 p.w, .int .i64 p.h, .int .i64 p.edge, .slice A n c] 42)) (w.heap.size + 1) 42 [.int .i64 p.w, .int .i64 p.h, .int .i64 p.edge, .slice A n c]) := by
  have h0 := Row.new (World.alloc w (.cells #[.int .i64 t.states, .slice HA hn hc, .slice NA nn nc] 25)) 42 [.int .i64 p.w, .int .i64 p.h, .int .i64 p.edge, .slice A n c]
  try simp only [World.size_alloc] at h0
  exact h0
 have hgr9 : Below w.heap.size w (World.alloc (World.alloc w (.cells #[.int .i64 t.states, .slice HA hn hc, .slice NA nn nc] 25)) (.cells #[.int .i64 p.w, .int .i64 p.h, .int .i64 p.edge, .slice A n c] 42)) := by go_grown
 have B_w : Hid (Below w.heap.size w (World.alloc (World.alloc w (.cells #[.int .i64 t.states, .slice HA hn hc, .slice NA nn nc] 25)) (.cells #[.int .i64 p.w, .int .i64 p.h, .int .i64 p.edge, .slice A n c] 42))) := hgr9
 clear hgr9
 revert RT RP B_w
 generalize (World.alloc (World.alloc w (.cells #[.int .i64 t.states, .slice HA hn hc, .slice NA nn nc] 25)) (.cells #[.int .i64 p.w, .int .i64 p.h, .int .i64 p.edge, .slice A n c] 42)) = wa
 intro RT RP B_w
 have tR : Hid (Row wa (w.heap.size) 25 [.int .i64 t.states, .slice HA hn hc, .slice NA nn nc]) := RT.out
 obtain ⟨t0, t1, t2, tl⟩ := tR.out.cells3
 clear tR
 have kR : Hid (Row wa (w.heap.size + 1) 42 [.int .i64 p.w, .int .i64 p.h, .int .i64 p.edge, .slice A n c]) := RP.out
 obtain ⟨k0, k1, k2, k3, kl⟩ := kR.out.cells4
 clear kR
 go_wp2_with fail
 refine (small_any t p HA NA A hn hc nn nc n c sl sm wa (HT.out.up B_w.out) (HP.out.up B_w.out)).mono ?_
 rintro e w1 ⟨q, rfl, hq, hb⟩
 have B_w : Hid (Below w.heap.size w w1) := below_on2 B_w.out hb
 have B_wa : Hid (Below wa.heap.size wa w1) := hb
 clear t0 t1 t2 tl k0 k1 k2 k3 kl
 clear hb
 cases q
 ·skip
  go_wp2_with fail
  refine (alive_any w1).mono ?_
  rintro e wl ⟨rfl, hb⟩
  go_wp2
  go_ret
  exact ⟨rfl, below_on2 B_w.out hb⟩
 by_cases hz1 : 20 < z
 ·have d1 : decide (20 < z) = true := decide_eq_true hz1
  by_cases hz2 : z ≤ 10000
  ·have d2 : decide (z ≤ 10000) = true := decide_eq_true hz2
   clear hq
   go_wp2_with fail
   refine (alive_any w1).mono ?_
   rintro e wl ⟨rfl, hb⟩
   go_wp2
   go_ret
   exact ⟨rfl, below_on2 B_w.out hb⟩
  have d2 : decide (z ≤ 10000) = false := decide_eq_false hz2
  have H4 : Hid (t.nodes.length ≤ 400) := (fewT_parts (hq rfl)).2
  clear hq
  have tR : Hid (Row w1 (w.heap.size) 25 [.int .i64 t.states, .slice HA hn hc, .slice NA nn nc]) := (rowCells RT.out B_wa.out)
  obtain ⟨t0, t1, t2, tl⟩ := tR.out.cells3
  clear tR
  go_wp2_with fail
  have HC := new_any t HA NA hn hc nn nc sl w1 (HT.out.up B_w.out) (by rw [← HLN.out]; exact H4.out)
  unfold EngPost at HC
  refine HC.mono ?_
  clear HC
  rintro e w2 (⟨hrt, b, GA, OA, PA, gn, gc, on, oc, pn, pc, rfl, heng, hb⟩ | ⟨hrt, rfl, hb⟩)
  rotate_left 1
  ·skip
   have B_w : Hid (Below w.heap.size w w2) := below_on2 B_w.out hb
   have B_wa : Hid (Below wa.heap.size wa w2) := below_on2 B_wa.out hb
   have B_w1 : Hid (Below w1.heap.size w1 w2) := hb
   clear t0 t1 t2 tl
   clear hb
   go_wp2_with fail
   refine (alive_any w2).mono ?_
   rintro e wl ⟨rfl, hb⟩
   go_wp2
   go_ret
   exact ⟨rfl, below_on2 B_w.out hb⟩
  have HRT : Hid (rightT t = true) := hrt
  have HE : Hid (EngAt w2 b t GA OA PA gn gc on oc pn pc) := heng
  clear hrt heng
  have B_w : Hid (Below w.heap.size w w2) := below_on2 B_w.out hb
  have B_wa : Hid (Below wa.heap.size wa w2) := below_on2 B_wa.out hb
  have B_w1 : Hid (Below w1.heap.size w1 w2) := hb
  clear t0 t1 t2 tl
  clear hb
  have kR : Hid (Row w2 (w.heap.size + 1) 42 [.int .i64 p.w, .int .i64 p.h, .int .i64 p.edge, .slice A n c]) := (rowCells RP.out B_wa.out)
  obtain ⟨k0, k1, k2, k3, kl⟩ := kR.out.cells4
  clear kR
  go_wp2_with fail
  obtain ⟨r, hr⟩ : ∃ r, runPl t p z = r := ⟨_, rfl⟩
  obtain ⟨ck, hck⟩ : ∃ ck, runErr t p z = ck := ⟨_, rfl⟩
  have HR : Hid (∀ _ : Unit, runPl t p z = r ∧ runErr t p z = ck) := fun _ => ⟨hr, hck⟩
  have HC := run_any b t GA OA PA gn gc on oc pn pc p A n c sm z w2 HE.out (HP.out.up B_w.out)
  rw [hr, hck] at HC
  clear hr hck
  unfold PlPostA at HC
  refine HC.mono ?_
  clear HC
  rintro e w3 ⟨QA, Qn, Qc, Qs, rfl, -, hat, hb⟩
  have HQ : Hid (PAt w3 r QA Qn Qs) := hat
  clear hat
  have B_w : Hid (Below w.heap.size w w3) := below_on2 B_w.out hb
  have B_wa : Hid (Below wa.heap.size wa w3) := below_on2 B_wa.out hb
  have B_w1 : Hid (Below w1.heap.size w1 w3) := below_on2 B_w1.out hb
  have B_w2 : Hid (Below w2.heap.size w2 w3) := hb
  clear k0 k1 k2 k3 kl
  clear hb
  go_upto_region 7 with fail
  have RQ : Hid (Row (World.alloc w3 (.cells #[.int .i64 r.w, .int .i64 r.h, .int .i64 r.edge, .slice QA Qn Qc] 42)) (w3.heap.size) 42 [.int .i64 r.w, .int .i64 r.h, .int .i64 r.edge, .slice QA Qn Qc]) := by
   have h0 := Row.new w3 42 [.int .i64 r.w, .int .i64 r.h, .int .i64 r.edge, .slice QA Qn Qc]
   try simp only [World.size_alloc] at h0
   exact h0
  have hgr9 : Below w3.heap.size w3 (World.alloc w3 (.cells #[.int .i64 r.w, .int .i64 r.h, .int .i64 r.edge, .slice QA Qn Qc] 42)) := by go_grown
  have B_w : Hid (Below w.heap.size w (World.alloc w3 (.cells #[.int .i64 r.w, .int .i64 r.h, .int .i64 r.edge, .slice QA Qn Qc] 42))) := below_on2 B_w.out hgr9
  have B_wa : Hid (Below wa.heap.size wa (World.alloc w3 (.cells #[.int .i64 r.w, .int .i64 r.h, .int .i64 r.edge, .slice QA Qn Qc] 42))) := below_on2 B_wa.out hgr9
  have B_w1 : Hid (Below w1.heap.size w1 (World.alloc w3 (.cells #[.int .i64 r.w, .int .i64 r.h, .int .i64 r.edge, .slice QA Qn Qc] 42))) := below_on2 B_w1.out hgr9
  have B_w2 : Hid (Below w2.heap.size w2 (World.alloc w3 (.cells #[.int .i64 r.w, .int .i64 r.h, .int .i64 r.edge, .slice QA Qn Qc] 42))) := below_on2 B_w2.out hgr9
  have B_w3 : Hid (Below w3.heap.size w3 (World.alloc w3 (.cells #[.int .i64 r.w, .int .i64 r.h, .int .i64 r.edge, .slice QA Qn Qc] 42))) := hgr9
  clear hgr9
  revert RQ B_w B_wa B_w1 B_w2 B_w3
  generalize (World.alloc w3 (.cells #[.int .i64 r.w, .int .i64 r.h, .int .i64 r.edge, .slice QA Qn Qc] 42)) = w4
  intro RQ B_w B_wa B_w1 B_w2 B_w3
  have tR : Hid (Row w4 (w.heap.size) 25 [.int .i64 t.states, .slice HA hn hc, .slice NA nn nc]) := (rowCells RT.out B_wa.out)
  obtain ⟨t0, t1, t2, tl⟩ := tR.out.cells3
  clear tR
  have kR : Hid (Row w4 (w.heap.size + 1) 42 [.int .i64 p.w, .int .i64 p.h, .int .i64 p.edge, .slice A n c]) := (rowCells RP.out B_wa.out)
  obtain ⟨k0, k1, k2, k3, kl⟩ := kR.out.cells4
  clear kR
  go_wp2_with fail
  have HC := rRun_any t p HA NA A hn hc nn nc n c z sl sm w4 (HT.out.up B_w.out) (HP.out.up B_w.out) HRT.out H4.out
  rw [(HR.out ()).1, (HR.out ()).2] at HC
  unfold PlRet at HC
  refine HC.mono ?_
  clear HC
  rintro e w5 ⟨SA, Sn, Sc, Ss, rfl, hat, hb⟩
  have HS : Hid (PAt w5 r SA Sn Ss) := hat
  clear hat
  have B_w : Hid (Below w.heap.size w w5) := below_on2 B_w.out hb
  have B_wa : Hid (Below wa.heap.size wa w5) := below_on2 B_wa.out hb
  have B_w1 : Hid (Below w1.heap.size w1 w5) := below_on2 B_w1.out hb
  have B_w2 : Hid (Below w2.heap.size w2 w5) := below_on2 B_w2.out hb
  have B_w3 : Hid (Below w3.heap.size w3 w5) := below_on2 B_w3.out hb
  have B_w4 : Hid (Below w4.heap.size w4 w5) := hb
  clear t0 t1 t2 tl k0 k1 k2 k3 kl
  clear hb
  go_upto_region 8 with fail
  have RS : Hid (Row (World.alloc w5 (.cells #[.int .i64 r.w, .int .i64 r.h, .int .i64 r.edge, .slice SA Sn Sc] 42)) (w5.heap.size) 42 [.int .i64 r.w, .int .i64 r.h, .int .i64 r.edge, .slice SA Sn Sc]) := by
   have h0 := Row.new w5 42 [.int .i64 r.w, .int .i64 r.h, .int .i64 r.edge, .slice SA Sn Sc]
   try simp only [World.size_alloc] at h0
   exact h0
  have hgr9 : Below w5.heap.size w5 (World.alloc w5 (.cells #[.int .i64 r.w, .int .i64 r.h, .int .i64 r.edge, .slice SA Sn Sc] 42)) := by go_grown
  have B_w : Hid (Below w.heap.size w (World.alloc w5 (.cells #[.int .i64 r.w, .int .i64 r.h, .int .i64 r.edge, .slice SA Sn Sc] 42))) := below_on2 B_w.out hgr9
  have B_wa : Hid (Below wa.heap.size wa (World.alloc w5 (.cells #[.int .i64 r.w, .int .i64 r.h, .int .i64 r.edge, .slice SA Sn Sc] 42))) := below_on2 B_wa.out hgr9
  have B_w1 : Hid (Below w1.heap.size w1 (World.alloc w5 (.cells #[.int .i64 r.w, .int .i64 r.h, .int .i64 r.edge, .slice SA Sn Sc] 42))) := below_on2 B_w1.out hgr9
  have B_w2 : Hid (Below w2.heap.size w2 (World.alloc w5 (.cells #[.int .i64 r.w, .int .i64 r.h, .int .i64 r.edge, .slice SA Sn Sc] 42))) := below_on2 B_w2.out hgr9
  have B_w3 : Hid (Below w3.heap.size w3 (World.alloc w5 (.cells #[.int .i64 r.w, .int .i64 r.h, .int .i64 r.edge, .slice SA Sn Sc] 42))) := below_on2 B_w3.out hgr9
  have B_w4 : Hid (Below w4.heap.size w4 (World.alloc w5 (.cells #[.int .i64 r.w, .int .i64 r.h, .int .i64 r.edge, .slice SA Sn Sc] 42))) := below_on2 B_w4.out hgr9
  have B_w5 : Hid (Below w5.heap.size w5 (World.alloc w5 (.cells #[.int .i64 r.w, .int .i64 r.h, .int .i64 r.edge, .slice SA Sn Sc] 42))) := hgr9
  clear hgr9
  revert RS B_w B_wa B_w1 B_w2 B_w3 B_w4 B_w5
  generalize (World.alloc w5 (.cells #[.int .i64 r.w, .int .i64 r.h, .int .i64 r.edge, .slice SA Sn Sc] 42)) = w6
  intro RS B_w B_wa B_w1 B_w2 B_w3 B_w4 B_w5
  have kR : Hid (Row w6 (w3.heap.size) 42 [.int .i64 r.w, .int .i64 r.h, .int .i64 r.edge, .slice QA Qn Qc]) := (rowCells RQ.out B_w4.out)
  obtain ⟨k0, k1, k2, k3, kl⟩ := kR.out.cells4
  clear kR
  have jR : Hid (Row w6 (w5.heap.size) 42 [.int .i64 r.w, .int .i64 r.h, .int .i64 r.edge, .slice SA Sn Sc]) := RS.out
  obtain ⟨j0, j1, j2, j3, jl⟩ := jR.out.cells4
  clear jR
  go_wp2_with fail
  have HC := rPlSame_any r r QA SA Qn Qc Sn Sc Qs Ss w6 (HQ.out.up B_w3.out) (HS.out.up B_w5.out)
  rw [samePl_self] at HC
  refine HC.mono ?_
  clear HC
  rintro e w7 ⟨rfl, hb⟩
  have B_w : Hid (Below w.heap.size w w7) := below_on2 B_w.out hb
  have B_wa : Hid (Below wa.heap.size wa w7) := below_on2 B_wa.out hb
  have B_w1 : Hid (Below w1.heap.size w1 w7) := below_on2 B_w1.out hb
  have B_w2 : Hid (Below w2.heap.size w2 w7) := below_on2 B_w2.out hb
  have B_w3 : Hid (Below w3.heap.size w3 w7) := below_on2 B_w3.out hb
  have B_w4 : Hid (Below w4.heap.size w4 w7) := below_on2 B_w4.out hb
  have B_w5 : Hid (Below w5.heap.size w5 w7) := below_on2 B_w5.out hb
  have B_w6 : Hid (Below w6.heap.size w6 w7) := hb
  clear k0 k1 k2 k3 kl j0 j1 j2 j3 jl
  clear hb
  by_cases hk0 : ck = 0
  rotate_left 1
  ·have hkd : decide (ck = 0) = false := decide_eq_false hk0
   have hkb : (ck == 0) = false := by simpa using hk0
   have hkn : (ck != 0) = true := by simpa using hk0
   have hkk : (ck != ck) = false := by simp
   go_wp2_with fail
   refine (alive_any w7).mono ?_
   rintro e wl ⟨rfl, hb⟩
   go_wp2
   go_ret
   exact ⟨rfl, below_on2 B_w.out hb⟩
  exact absurd hk0 (by rw [← (HR.out ()).2]; unfold runErr; split <;> (try split) <;> omega)
 have d1 : decide (20 < z) = false := decide_eq_false hz1
 have H4 : Hid (t.nodes.length ≤ 400) := (fewT_parts (hq rfl)).2
 clear hq
 have tR : Hid (Row w1 (w.heap.size) 25 [.int .i64 t.states, .slice HA hn hc, .slice NA nn nc]) := (rowCells RT.out B_wa.out)
 obtain ⟨t0, t1, t2, tl⟩ := tR.out.cells3
 clear tR
 go_wp2_with fail
 have HC := new_any t HA NA hn hc nn nc sl w1 (HT.out.up B_w.out) (by rw [← HLN.out]; exact H4.out)
 unfold EngPost at HC
 refine HC.mono ?_
 clear HC
 rintro e w2 (⟨hrt, b, GA, OA, PA, gn, gc, on, oc, pn, pc, rfl, heng, hb⟩ | ⟨hrt, rfl, hb⟩)
 rotate_left 1
 ·skip
  have B_w : Hid (Below w.heap.size w w2) := below_on2 B_w.out hb
  have B_wa : Hid (Below wa.heap.size wa w2) := below_on2 B_wa.out hb
  have B_w1 : Hid (Below w1.heap.size w1 w2) := hb
  clear t0 t1 t2 tl
  clear hb
  go_wp2_with fail
  refine (alive_any w2).mono ?_
  rintro e wl ⟨rfl, hb⟩
  go_wp2
  go_ret
  exact ⟨rfl, below_on2 B_w.out hb⟩
 have HRT : Hid (rightT t = true) := hrt
 have HE : Hid (EngAt w2 b t GA OA PA gn gc on oc pn pc) := heng
 clear hrt heng
 have B_w : Hid (Below w.heap.size w w2) := below_on2 B_w.out hb
 have B_wa : Hid (Below wa.heap.size wa w2) := below_on2 B_wa.out hb
 have B_w1 : Hid (Below w1.heap.size w1 w2) := hb
 clear t0 t1 t2 tl
 clear hb
 have kR : Hid (Row w2 (w.heap.size + 1) 42 [.int .i64 p.w, .int .i64 p.h, .int .i64 p.edge, .slice A n c]) := (rowCells RP.out B_wa.out)
 obtain ⟨k0, k1, k2, k3, kl⟩ := kR.out.cells4
 clear kR
 go_wp2_with fail
 obtain ⟨r, hr⟩ : ∃ r, runPl t p z = r := ⟨_, rfl⟩
 obtain ⟨ck, hck⟩ : ∃ ck, runErr t p z = ck := ⟨_, rfl⟩
 have HR : Hid (∀ _ : Unit, runPl t p z = r ∧ runErr t p z = ck) := fun _ => ⟨hr, hck⟩
 have HC := run_any b t GA OA PA gn gc on oc pn pc p A n c sm z w2 HE.out (HP.out.up B_w.out)
 rw [hr, hck] at HC
 clear hr hck
 unfold PlPostA at HC
 refine HC.mono ?_
 clear HC
 rintro e w3 ⟨QA, Qn, Qc, Qs, rfl, -, hat, hb⟩
 have HQ : Hid (PAt w3 r QA Qn Qs) := hat
 clear hat
 have B_w : Hid (Below w.heap.size w w3) := below_on2 B_w.out hb
 have B_wa : Hid (Below wa.heap.size wa w3) := below_on2 B_wa.out hb
 have B_w1 : Hid (Below w1.heap.size w1 w3) := below_on2 B_w1.out hb
 have B_w2 : Hid (Below w2.heap.size w2 w3) := hb
 clear k0 k1 k2 k3 kl
 clear hb
 go_upto_region 7 with fail
 have RQ : Hid (Row (World.alloc w3 (.cells #[.int .i64 r.w, .int .i64 r.h, .int .i64 r.edge, .slice QA Qn Qc] 42)) (w3.heap.size) 42 [.int .i64 r.w, .int .i64 r.h, .int .i64 r.edge, .slice QA Qn Qc]) := by
  have h0 := Row.new w3 42 [.int .i64 r.w, .int .i64 r.h, .int .i64 r.edge, .slice QA Qn Qc]
  try simp only [World.size_alloc] at h0
  exact h0
 have hgr9 : Below w3.heap.size w3 (World.alloc w3 (.cells #[.int .i64 r.w, .int .i64 r.h, .int .i64 r.edge, .slice QA Qn Qc] 42)) := by go_grown
 have B_w : Hid (Below w.heap.size w (World.alloc w3 (.cells #[.int .i64 r.w, .int .i64 r.h, .int .i64 r.edge, .slice QA Qn Qc] 42))) := below_on2 B_w.out hgr9
 have B_wa : Hid (Below wa.heap.size wa (World.alloc w3 (.cells #[.int .i64 r.w, .int .i64 r.h, .int .i64 r.edge, .slice QA Qn Qc] 42))) := below_on2 B_wa.out hgr9
 have B_w1 : Hid (Below w1.heap.size w1 (World.alloc w3 (.cells #[.int .i64 r.w, .int .i64 r.h, .int .i64 r.edge, .slice QA Qn Qc] 42))) := below_on2 B_w1.out hgr9
 have B_w2 : Hid (Below w2.heap.size w2 (World.alloc w3 (.cells #[.int .i64 r.w, .int .i64 r.h, .int .i64 r.edge, .slice QA Qn Qc] 42))) := below_on2 B_w2.out hgr9
 have B_w3 : Hid (Below w3.heap.size w3 (World.alloc w3 (.cells #[.int .i64 r.w, .int .i64 r.h, .int .i64 r.edge, .slice QA Qn Qc] 42))) := hgr9
 clear hgr9
 revert RQ B_w B_wa B_w1 B_w2 B_w3
 generalize (World.alloc w3 (.cells #[.int .i64 r.w, .int .i64 r.h, .int .i64 r.edge, .slice QA Qn Qc] 42)) = w4
 intro RQ B_w B_wa B_w1 B_w2 B_w3
 have tR : Hid (Row w4 (w.heap.size) 25 [.int .i64 t.states, .slice HA hn hc, .slice NA nn nc]) := (rowCells RT.out B_wa.out)
 obtain ⟨t0, t1, t2, tl⟩ := tR.out.cells3
 clear tR
 have kR : Hid (Row w4 (w.heap.size + 1) 42 [.int .i64 p.w, .int .i64 p.h, .int .i64 p.edge, .slice A n c]) := (rowCells RP.out B_wa.out)
 obtain ⟨k0, k1, k2, k3, kl⟩ := kR.out.cells4
 clear kR
 go_wp2_with fail
 have HC := rRun_any t p HA NA A hn hc nn nc n c z sl sm w4 (HT.out.up B_w.out) (HP.out.up B_w.out) HRT.out H4.out
 rw [(HR.out ()).1, (HR.out ()).2] at HC
 unfold PlRet at HC
 refine HC.mono ?_
 clear HC
 rintro e w5 ⟨SA, Sn, Sc, Ss, rfl, hat, hb⟩
 have HS : Hid (PAt w5 r SA Sn Ss) := hat
 clear hat
 have B_w : Hid (Below w.heap.size w w5) := below_on2 B_w.out hb
 have B_wa : Hid (Below wa.heap.size wa w5) := below_on2 B_wa.out hb
 have B_w1 : Hid (Below w1.heap.size w1 w5) := below_on2 B_w1.out hb
 have B_w2 : Hid (Below w2.heap.size w2 w5) := below_on2 B_w2.out hb
 have B_w3 : Hid (Below w3.heap.size w3 w5) := below_on2 B_w3.out hb
 have B_w4 : Hid (Below w4.heap.size w4 w5) := hb
 clear t0 t1 t2 tl k0 k1 k2 k3 kl
 clear hb
 go_upto_region 8 with fail
 have RS : Hid (Row (World.alloc w5 (.cells #[.int .i64 r.w, .int .i64 r.h, .int .i64 r.edge, .slice SA Sn Sc] 42)) (w5.heap.size) 42 [.int .i64 r.w, .int .i64 r.h, .int .i64 r.edge, .slice SA Sn Sc]) := by
  have h0 := Row.new w5 42 [.int .i64 r.w, .int .i64 r.h, .int .i64 r.edge, .slice SA Sn Sc]
  try simp only [World.size_alloc] at h0
  exact h0
 have hgr9 : Below w5.heap.size w5 (World.alloc w5 (.cells #[.int .i64 r.w, .int .i64 r.h, .int .i64 r.edge, .slice SA Sn Sc] 42)) := by go_grown
 have B_w : Hid (Below w.heap.size w (World.alloc w5 (.cells #[.int .i64 r.w, .int .i64 r.h, .int .i64 r.edge, .slice SA Sn Sc] 42))) := below_on2 B_w.out hgr9
 have B_wa : Hid (Below wa.heap.size wa (World.alloc w5 (.cells #[.int .i64 r.w, .int .i64 r.h, .int .i64 r.edge, .slice SA Sn Sc] 42))) := below_on2 B_wa.out hgr9
 have B_w1 : Hid (Below w1.heap.size w1 (World.alloc w5 (.cells #[.int .i64 r.w, .int .i64 r.h, .int .i64 r.edge, .slice SA Sn Sc] 42))) := below_on2 B_w1.out hgr9
 have B_w2 : Hid (Below w2.heap.size w2 (World.alloc w5 (.cells #[.int .i64 r.w, .int .i64 r.h, .int .i64 r.edge, .slice SA Sn Sc] 42))) := below_on2 B_w2.out hgr9
 have B_w3 : Hid (Below w3.heap.size w3 (World.alloc w5 (.cells #[.int .i64 r.w, .int .i64 r.h, .int .i64 r.edge, .slice SA Sn Sc] 42))) := below_on2 B_w3.out hgr9
 have B_w4 : Hid (Below w4.heap.size w4 (World.alloc w5 (.cells #[.int .i64 r.w, .int .i64 r.h, .int .i64 r.edge, .slice SA Sn Sc] 42))) := below_on2 B_w4.out hgr9
 have B_w5 : Hid (Below w5.heap.size w5 (World.alloc w5 (.cells #[.int .i64 r.w, .int .i64 r.h, .int .i64 r.edge, .slice SA Sn Sc] 42))) := hgr9
 clear hgr9
 revert RS B_w B_wa B_w1 B_w2 B_w3 B_w4 B_w5
 generalize (World.alloc w5 (.cells #[.int .i64 r.w, .int .i64 r.h, .int .i64 r.edge, .slice SA Sn Sc] 42)) = w6
 intro RS B_w B_wa B_w1 B_w2 B_w3 B_w4 B_w5
 have kR : Hid (Row w6 (w3.heap.size) 42 [.int .i64 r.w, .int .i64 r.h, .int .i64 r.edge, .slice QA Qn Qc]) := (rowCells RQ.out B_w4.out)
 obtain ⟨k0, k1, k2, k3, kl⟩ := kR.out.cells4
 clear kR
 have jR : Hid (Row w6 (w5.heap.size) 42 [.int .i64 r.w, .int .i64 r.h, .int .i64 r.edge, .slice SA Sn Sc]) := RS.out
 obtain ⟨j0, j1, j2, j3, jl⟩ := jR.out.cells4
 clear jR
 go_wp2_with fail
 have HC := rPlSame_any r r QA SA Qn Qc Sn Sc Qs Ss w6 (HQ.out.up B_w3.out) (HS.out.up B_w5.out)
 rw [samePl_self] at HC
 refine HC.mono ?_
 clear HC
 rintro e w7 ⟨rfl, hb⟩
 have B_w : Hid (Below w.heap.size w w7) := below_on2 B_w.out hb
 have B_wa : Hid (Below wa.heap.size wa w7) := below_on2 B_wa.out hb
 have B_w1 : Hid (Below w1.heap.size w1 w7) := below_on2 B_w1.out hb
 have B_w2 : Hid (Below w2.heap.size w2 w7) := below_on2 B_w2.out hb
 have B_w3 : Hid (Below w3.heap.size w3 w7) := below_on2 B_w3.out hb
 have B_w4 : Hid (Below w4.heap.size w4 w7) := below_on2 B_w4.out hb
 have B_w5 : Hid (Below w5.heap.size w5 w7) := below_on2 B_w5.out hb
 have B_w6 : Hid (Below w6.heap.size w6 w7) := hb
 clear k0 k1 k2 k3 kl j0 j1 j2 j3 jl
 clear hb
 by_cases hk0 : ck = 0
 rotate_left 1
 ·have hkd : decide (ck = 0) = false := decide_eq_false hk0
  have hkb : (ck == 0) = false := by simpa using hk0
  have hkn : (ck != 0) = true := by simpa using hk0
  have hkk : (ck != ck) = false := by simp
  go_wp2_with fail
  refine (alive_any w7).mono ?_
  rintro e wl ⟨rfl, hb⟩
  go_wp2
  go_ret
  exact ⟨rfl, below_on2 B_w.out hb⟩
 subst hk0
 have hkk : ((0 : Int) != 0) = false := rfl
 have HN : Hid ((checkPl t p = 0) ∧ 0 ≤ z ∧ z ≤ 10000) := by
  show _ ∧ _
  have h := (HR.out ()).2
  unfold runErr at h
  split at h
  ·split at h
   ·rename_i h1 h2; exact ⟨h1, h2⟩
   ·exact absurd h (by decide)
  ·exact absurd h ‹_›
 have hz3 := HN.out.2
 obtain ⟨N, rfl⟩ : ∃ N : Nat, z = (N : Int) := ⟨z.toNat, by omega⟩
 have HOK : Hid (OkTP t p) := check_ok HRT.out H4.out HN.out.1
 have kR : Hid (Row w7 (w.heap.size + 1) 42 [.int .i64 p.w, .int .i64 p.h, .int .i64 p.edge, .slice A n c]) := (rowCells RP.out B_wa.out)
 obtain ⟨k0, k1, k2, k3, kl⟩ := kR.out.cells4
 clear kR
 go_wp2_with fail
 have HA : Hid (runErr t p ((N / 2 : Nat) : Int) = 0 ∧ runPl t p ((N / 2 : Nat) : Int) = genPl t p (N / 2)) := run_good HOK.out (by omega)
 have HRR : Hid (∀ _ : Unit, runErr t (genPl t p (N / 2)) ((N - N / 2 : Nat) : Int) = 0 ∧ runPl t (genPl t p (N / 2)) ((N - N / 2 : Nat) : Int) = r) := fun _ => by
  have h1 := run_good (HOK.out.gen (N / 2)) (k := N - N / 2) (by omega)
  have h2 := (run_good HOK.out (k := N) (by omega)).2
  refine ⟨h1.1, ?_⟩
  rw [h1.2, genPl_add, show N / 2 + (N - N / 2) = N by omega, ← h2]
  exact (HR.out ()).1
 have HC := run_any b t GA OA PA gn gc on oc pn pc p A n c sm ((N / 2 : Nat) : Int) w7 (HE.out.up B_w2.out) (HP.out.up B_w.out)
 rw [HA.out.1, HA.out.2] at HC
 clear HA
 obtain ⟨g, hg⟩ : ∃ g, genPl t p (N / 2) = g := ⟨_, rfl⟩
 rw [hg] at HC HRR
 clear hg
 rw [← show (N : Int) / 2 = ((N / 2 : Nat) : Int) by omega] at HC
 unfold PlPostA at HC
 refine HC.mono ?_
 clear HC
 rintro e w8 ⟨FA, Fn, Fc, Fs, rfl, -, hat, hb⟩
 have HF : Hid (PAt w8 g FA Fn Fs) := hat
 clear hat
 have B_w : Hid (Below w.heap.size w w8) := below_on2 B_w.out hb
 have B_wa : Hid (Below wa.heap.size wa w8) := below_on2 B_wa.out hb
 have B_w1 : Hid (Below w1.heap.size w1 w8) := below_on2 B_w1.out hb
 have B_w2 : Hid (Below w2.heap.size w2 w8) := below_on2 B_w2.out hb
 have B_w3 : Hid (Below w3.heap.size w3 w8) := below_on2 B_w3.out hb
 have B_w4 : Hid (Below w4.heap.size w4 w8) := below_on2 B_w4.out hb
 have B_w5 : Hid (Below w5.heap.size w5 w8) := below_on2 B_w5.out hb
 have B_w6 : Hid (Below w6.heap.size w6 w8) := below_on2 B_w6.out hb
 have B_w7 : Hid (Below w7.heap.size w7 w8) := hb
 clear k0 k1 k2 k3 kl
 clear hb
 go_upto_region 13 with fail
 have RF : Hid (Row (World.alloc w8 (.cells #[.int .i64 g.w, .int .i64 g.h, .int .i64 g.edge, .slice FA Fn Fc] 42)) (w8.heap.size) 42 [.int .i64 g.w, .int .i64 g.h, .int .i64 g.edge, .slice FA Fn Fc]) := by
  have h0 := Row.new w8 42 [.int .i64 g.w, .int .i64 g.h, .int .i64 g.edge, .slice FA Fn Fc]
  try simp only [World.size_alloc] at h0
  exact h0
 have hgr9 : Below w8.heap.size w8 (World.alloc w8 (.cells #[.int .i64 g.w, .int .i64 g.h, .int .i64 g.edge, .slice FA Fn Fc] 42)) := by go_grown
 have B_w : Hid (Below w.heap.size w (World.alloc w8 (.cells #[.int .i64 g.w, .int .i64 g.h, .int .i64 g.edge, .slice FA Fn Fc] 42))) := below_on2 B_w.out hgr9
 have B_wa : Hid (Below wa.heap.size wa (World.alloc w8 (.cells #[.int .i64 g.w, .int .i64 g.h, .int .i64 g.edge, .slice FA Fn Fc] 42))) := below_on2 B_wa.out hgr9
 have B_w1 : Hid (Below w1.heap.size w1 (World.alloc w8 (.cells #[.int .i64 g.w, .int .i64 g.h, .int .i64 g.edge, .slice FA Fn Fc] 42))) := below_on2 B_w1.out hgr9
 have B_w2 : Hid (Below w2.heap.size w2 (World.alloc w8 (.cells #[.int .i64 g.w, .int .i64 g.h, .int .i64 g.edge, .slice FA Fn Fc] 42))) := below_on2 B_w2.out hgr9
 have B_w3 : Hid (Below w3.heap.size w3 (World.alloc w8 (.cells #[.int .i64 g.w, .int .i64 g.h, .int .i64 g.edge, .slice FA Fn Fc] 42))) := below_on2 B_w3.out hgr9
 have B_w4 : Hid (Below w4.heap.size w4 (World.alloc w8 (.cells #[.int .i64 g.w, .int .i64 g.h, .int .i64 g.edge, .slice FA Fn Fc] 42))) := below_on2 B_w4.out hgr9
 have B_w5 : Hid (Below w5.heap.size w5 (World.alloc w8 (.cells #[.int .i64 g.w, .int .i64 g.h, .int .i64 g.edge, .slice FA Fn Fc] 42))) := below_on2 B_w5.out hgr9
 have B_w6 : Hid (Below w6.heap.size w6 (World.alloc w8 (.cells #[.int .i64 g.w, .int .i64 g.h, .int .i64 g.edge, .slice FA Fn Fc] 42))) := below_on2 B_w6.out hgr9
 have B_w7 : Hid (Below w7.heap.size w7 (World.alloc w8 (.cells #[.int .i64 g.w, .int .i64 g.h, .int .i64 g.edge, .slice FA Fn Fc] 42))) := below_on2 B_w7.out hgr9
 have B_w8 : Hid (Below w8.heap.size w8 (World.alloc w8 (.cells #[.int .i64 g.w, .int .i64 g.h, .int .i64 g.edge, .slice FA Fn Fc] 42))) := hgr9
 clear hgr9
 revert RF B_w B_wa B_w1 B_w2 B_w3 B_w4 B_w5 B_w6 B_w7 B_w8
 generalize (World.alloc w8 (.cells #[.int .i64 g.w, .int .i64 g.h, .int .i64 g.edge, .slice FA Fn Fc] 42)) = w9
 intro RF B_w B_wa B_w1 B_w2 B_w3 B_w4 B_w5 B_w6 B_w7 B_w8
 have kR : Hid (Row w9 (w8.heap.size) 42 [.int .i64 g.w, .int .i64 g.h, .int .i64 g.edge, .slice FA Fn Fc]) := RF.out
 obtain ⟨k0, k1, k2, k3, kl⟩ := kR.out.cells4
 clear kR
 go_wp2_with fail
 have HC := run_any b t GA OA PA gn gc on oc pn pc g FA Fn Fc Fs ((N - N / 2 : Nat) : Int) w9 (HE.out.up B_w2.out) (HF.out.up B_w8.out)
 rw [(HRR.out ()).1, (HRR.out ()).2, ← show (N : Int) - (N : Int) / 2 = ((N - N / 2 : Nat) : Int) by omega] at HC
 unfold PlPostA at HC
 refine HC.mono ?_
 clear HC
 rintro e wx ⟨XA, Xn, Xc, Xs, rfl, -, hat, hb⟩
 have HX : Hid (PAt wx r XA Xn Xs) := hat
 clear hat
 have B_w : Hid (Below w.heap.size w wx) := below_on2 B_w.out hb
 have B_wa : Hid (Below wa.heap.size wa wx) := below_on2 B_wa.out hb
 have B_w1 : Hid (Below w1.heap.size w1 wx) := below_on2 B_w1.out hb
 have B_w2 : Hid (Below w2.heap.size w2 wx) := below_on2 B_w2.out hb
 have B_w3 : Hid (Below w3.heap.size w3 wx) := below_on2 B_w3.out hb
 have B_w4 : Hid (Below w4.heap.size w4 wx) := below_on2 B_w4.out hb
 have B_w5 : Hid (Below w5.heap.size w5 wx) := below_on2 B_w5.out hb
 have B_w6 : Hid (Below w6.heap.size w6 wx) := below_on2 B_w6.out hb
 have B_w7 : Hid (Below w7.heap.size w7 wx) := below_on2 B_w7.out hb
 have B_w8 : Hid (Below w8.heap.size w8 wx) := below_on2 B_w8.out hb
 have B_w9 : Hid (Below w9.heap.size w9 wx) := hb
 clear k0 k1 k2 k3 kl
 clear hb
 go_upto_region 14 with fail
 have RX : Hid (Row (World.alloc wx (.cells #[.int .i64 r.w, .int .i64 r.h, .int .i64 r.edge, .slice XA Xn Xc] 42)) (wx.heap.size) 42 [.int .i64 r.w, .int .i64 r.h, .int .i64 r.edge, .slice XA Xn Xc]) := by
  have h0 := Row.new wx 42 [.int .i64 r.w, .int .i64 r.h, .int .i64 r.edge, .slice XA Xn Xc]
  try simp only [World.size_alloc] at h0
  exact h0
 have hgr9 : Below wx.heap.size wx (World.alloc wx (.cells #[.int .i64 r.w, .int .i64 r.h, .int .i64 r.edge, .slice XA Xn Xc] 42)) := by go_grown
 have B_w : Hid (Below w.heap.size w (World.alloc wx (.cells #[.int .i64 r.w, .int .i64 r.h, .int .i64 r.edge, .slice XA Xn Xc] 42))) := below_on2 B_w.out hgr9
 have B_wa : Hid (Below wa.heap.size wa (World.alloc wx (.cells #[.int .i64 r.w, .int .i64 r.h, .int .i64 r.edge, .slice XA Xn Xc] 42))) := below_on2 B_wa.out hgr9
 have B_w1 : Hid (Below w1.heap.size w1 (World.alloc wx (.cells #[.int .i64 r.w, .int .i64 r.h, .int .i64 r.edge, .slice XA Xn Xc] 42))) := below_on2 B_w1.out hgr9
 have B_w2 : Hid (Below w2.heap.size w2 (World.alloc wx (.cells #[.int .i64 r.w, .int .i64 r.h, .int .i64 r.edge, .slice XA Xn Xc] 42))) := below_on2 B_w2.out hgr9
 have B_w3 : Hid (Below w3.heap.size w3 (World.alloc wx (.cells #[.int .i64 r.w, .int .i64 r.h, .int .i64 r.edge, .slice XA Xn Xc] 42))) := below_on2 B_w3.out hgr9
 have B_w4 : Hid (Below w4.heap.size w4 (World.alloc wx (.cells #[.int .i64 r.w, .int .i64 r.h, .int .i64 r.edge, .slice XA Xn Xc] 42))) := below_on2 B_w4.out hgr9
 have B_w5 : Hid (Below w5.heap.size w5 (World.alloc wx (.cells #[.int .i64 r.w, .int .i64 r.h, .int .i64 r.edge, .slice XA Xn Xc] 42))) := below_on2 B_w5.out hgr9
 have B_w6 : Hid (Below w6.heap.size w6 (World.alloc wx (.cells #[.int .i64 r.w, .int .i64 r.h, .int .i64 r.edge, .slice XA Xn Xc] 42))) := below_on2 B_w6.out hgr9
 have B_w7 : Hid (Below w7.heap.size w7 (World.alloc wx (.cells #[.int .i64 r.w, .int .i64 r.h, .int .i64 r.edge, .slice XA Xn Xc] 42))) := below_on2 B_w7.out hgr9
 have B_w8 : Hid (Below w8.heap.size w8 (World.alloc wx (.cells #[.int .i64 r.w, .int .i64 r.h, .int .i64 r.edge, .slice XA Xn Xc] 42))) := below_on2 B_w8.out hgr9
 have B_w9 : Hid (Below w9.heap.size w9 (World.alloc wx (.cells #[.int .i64 r.w, .int .i64 r.h, .int .i64 r.edge, .slice XA Xn Xc] 42))) := below_on2 B_w9.out hgr9
 have B_wx : Hid (Below wx.heap.size wx (World.alloc wx (.cells #[.int .i64 r.w, .int .i64 r.h, .int .i64 r.edge, .slice XA Xn Xc] 42))) := hgr9
 clear hgr9
 revert RX B_w B_wa B_w1 B_w2 B_w3 B_w4 B_w5 B_w6 B_w7 B_w8 B_w9 B_wx
 generalize (World.alloc wx (.cells #[.int .i64 r.w, .int .i64 r.h, .int .i64 r.edge, .slice XA Xn Xc] 42)) = wy
 intro RX B_w B_wa B_w1 B_w2 B_w3 B_w4 B_w5 B_w6 B_w7 B_w8 B_w9 B_wx
 have kR : Hid (Row wy (wx.heap.size) 42 [.int .i64 r.w, .int .i64 r.h, .int .i64 r.edge, .slice XA Xn Xc]) := RX.out
 obtain ⟨k0, k1, k2, k3, kl⟩ := kR.out.cells4
 clear kR
 have jR : Hid (Row wy (w3.heap.size) 42 [.int .i64 r.w, .int .i64 r.h, .int .i64 r.edge, .slice QA Qn Qc]) := (rowCells RQ.out B_w4.out)
 obtain ⟨j0, j1, j2, j3, jl⟩ := jR.out.cells4
 clear jR
 go_wp2_with fail
 have HC := rPlSame_any r r XA QA Xn Xc Qn Qc Xs Qs wy (HX.out.up B_wx.out) (HQ.out.up B_w3.out)
 rw [samePl_self] at HC
 refine HC.mono ?_
 clear HC
 rintro e wz ⟨rfl, hb⟩
 have B_w : Hid (Below w.heap.size w wz) := below_on2 B_w.out hb
 have B_wa : Hid (Below wa.heap.size wa wz) := below_on2 B_wa.out hb
 have B_w1 : Hid (Below w1.heap.size w1 wz) := below_on2 B_w1.out hb
 have B_w2 : Hid (Below w2.heap.size w2 wz) := below_on2 B_w2.out hb
 have B_w3 : Hid (Below w3.heap.size w3 wz) := below_on2 B_w3.out hb
 have B_w4 : Hid (Below w4.heap.size w4 wz) := below_on2 B_w4.out hb
 have B_w5 : Hid (Below w5.heap.size w5 wz) := below_on2 B_w5.out hb
 have B_w6 : Hid (Below w6.heap.size w6 wz) := below_on2 B_w6.out hb
 have B_w7 : Hid (Below w7.heap.size w7 wz) := below_on2 B_w7.out hb
 have B_w8 : Hid (Below w8.heap.size w8 wz) := below_on2 B_w8.out hb
 have B_w9 : Hid (Below w9.heap.size w9 wz) := below_on2 B_w9.out hb
 have B_wx : Hid (Below wx.heap.size wx wz) := below_on2 B_wx.out hb
 have B_wy : Hid (Below wy.heap.size wy wz) := hb
 clear k0 k1 k2 k3 kl j0 j1 j2 j3 jl
 clear hb
 go_wp2_with fail
 refine (alive_any wz).mono ?_
 rintro e wl ⟨rfl, hb⟩
 go_wp2
 go_ret
 exact ⟨rfl, below_on2 B_w.out hb⟩
end Go.Proofs.Ytiemhbogbaamlaa

/-
 A part.
-/
namespace Go.Proofs.Ytiemhbogbaamlaa
open Go.RowKit Go.ChangeShapes Go.WideShapes Go.ChangeAt Go.Joins
set_option linter.unusedSimpArgs false
set_option linter.unusedVariables false
set_option maxRecDepth 100000 in
theorem planestepRuns_lifted (os : Os) (started : os.Started) (H : Type) (enc : TypeId × Value → H) :
 ReturnsInHanded {} Try.checked os 5 .any (Rows.planestepRunsSpec.pre6 enc Try.prog Try.f5 Rows.planestepRunsRow.domain false) (Rows.planestepRunsSpec.post enc Try.prog Try.f5 false true false false) := by
 refine returnsInHanded_of_change (C := Try.checked) Try.own' started (by kernel_rfl) Try.func5
  (ChangeSpec.witness6 (enc := enc) (C := Try.checked) false ⟨#[], #[.agg #[.int .i64 0, .slice none 0 0, .slice none 0 0], .agg #[.int .i64 0, .int .i64 0, .int .i64 0, .slice none 0 0], .int .i64 0], []⟩ 8 (by kernel_rfl) (by kernel_rfl) (by kernel_rfl) (by kernel_rfl)) ?_
 intro W base args ds gs before hval0 hW hcnd _
 have hval : ∀ (j : Nat) t v, Try.f5.params[j]? = some t → args[j]? = some v → Value.okWide Try.prog W .any base t v := hval0
 have hW' := hW
 obtain ⟨p, q, hA0, hV, rfl, hfz, hnd⟩ := hW
 have hA : DataW.TrodAll enc Try.prog W 0 (fun _ => true) true Try.f5.params.toList args.toList ds p := hA0
 rw [Try.params5] at hA hval
 obtain ⟨v0, v1, v2, d0, d1, d2, p0, p1, p2, rfl, rfl, rfl, h0, h1, h2⟩ := trodAll_three hA
 obtain ⟨rfl, rfl⟩ := trodVars_none hV
 have h0k := h0
 have hlt0 : ∀ x ∈ p0, x.block < W.heap.size := fun x hx => hW'.lt x (by simp [hx])
 have h1k := h1
 have hlt1 : ∀ x ∈ p1, x.block < W.heap.size := fun x hx => hW'.lt x (by simp [hx])
 have h2k := h2
 have hlt2 : ∀ x ∈ p2, x.block < W.heap.size := fun x hx => hW'.lt x (by simp [hx])
 obtain ⟨t0, HA0, hn0, hc0, NA0, nn0, nc0, sl0, rfl, hm0⟩ := open_tree (hval 0 25 v0 rfl rfl) h0
 obtain ⟨q1, A1, n1, ac1, sl1, rfl, hm1⟩ := open_planes (hval 1 42 v1 rfl rfl) h1
 obtain ⟨z2, rfl, zl2, zh2⟩ := open_int_arg (hval 2 3 v2 rfl rfl) h2
 clear hA0 hval0
 refine (runs_law t0 q1 HA0 NA0 A1 hn0 hc0 nn0 nc0 n1 ac1 z2 sl0 sl1 W ⟨zl2, zh2⟩ hm0 hm1).mono fun e W' ⟨he, hb⟩ => ?_
 subst he
 exact ⟨_, rfl, law_post (pa := p0 ++ (p1 ++ p2)) (pv := []) hW' (fun _ _ _ => trodAll_mk1 (shut_bool Try.underlying4 true)) (trodAll_mk3 (Below.trod Try.laidOut' (by kernel_rfl) (of_decide_eq_true (by kernel_rfl)) h0k hb hlt0) (Below.trod Try.laidOut' (by kernel_rfl) (of_decide_eq_true (by kernel_rfl)) h1k hb hlt1) (Below.trod Try.laidOut' (by kernel_rfl) (of_decide_eq_true (by kernel_rfl)) h2k hb hlt2)) rfl hb⟩
theorem planestepRuns_holds : Rows.PlanestepRunsSaid :=
 OpenClaim.holds_of_wide 5 Try.f5 rfl rfl rfl rfl rfl rfl rfl ⟨rfl, rfl, rfl, rfl, rfl⟩ rfl rfl rfl rfl rfl (by kernel_rfl) Try.func5 (by kernel_rfl)
  (of_decide_eq_true (by kernel_rfl)) (by unfold Func.isWrapper; first | (rw [if_pos (by decide +kernel)]; kernel_rfl) | (rw [if_neg (by decide +kernel)]; exact ⟨rfl, rfl⟩))
  (fun os started H enc _ => planestepRuns_lifted os started H enc)
end Go.Proofs.Ytiemhbogbaamlaa
