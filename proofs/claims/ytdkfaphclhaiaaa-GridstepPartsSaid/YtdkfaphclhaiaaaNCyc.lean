/-
  Cycle of package gridstep, walked.
-/
import Derived.Test.YtdkfaphclhaiaaaNRun
import Derived.Test.YtdkfaphclhaiaaaNCycM
import Derived.Test.YtdkfaphclhaiaaaRegLIn
import Derived.Maps.OwnIn
namespace Go.Proofs.Ytdkfaphclhaiaaa
open Go.RowKit Go.Shelf
set_option linter.unusedSimpArgs false
set_option linter.unusedVariables false
attribute [local go_sem] Oper.semAt_some
theorem string_keyedN : Maps.Keyed Try.prog 9 := Maps.string_keyed Try.underlying9
theorem keyOf_grid (l : List Int) (h : l.length ≤ 4096) : keyOf Try.prog 9 (.string (strOfNums l)) = some (keyL l) := by
  refine Go.WideMaps.keyOf_string_mk Try.underlying9 ?_
  have h2 : (strOfNums l).size = l.length := by
    have h1 := congrArg List.length (strOfNums_data l)
    simpa using h1
  rw [h2]; unfold maxLen; omega
section
open Go.Maps
variable {P : Program} {ops : Array Oper} {w : World} {o : Oper} {a : Act} {Q : Exit → Act → World → Prop} {K : Act → World → Prop} {E : Prop}
theorem step_lookup_int {H : Type} (hgd : o.guard = none) (m x : Operand) (t : TypeId) (hop : o.op = Op.lookup t m x true)
    (k e : TypeId) (q : IntKind) (KK : Keyed P k) (ht : P.underlying t = some (.map k e)) (he : P.underlying e = some (.int q)) (hz : (zeroValue e).run P w = .ok (.int q 0) w) (b n : Nat) (D : DataW H)
    (hm : a.eval m = .map (some b)) (hown : w.ownsMap P k (plainElem P e) b n D) (key : Value) (kl : Lit) (hx : a.eval x = key) (hkey : keyOf P k key = some kl)
    (hK : ∀ c : Int, D.atKey kl (.lit (.int q 0)) = .lit (.int q c) → K (a.put o.dst (.tuple #[.int q c, .bool (Maps.has D kl)])) w) :
    if Region.wanted o (yielded ops a.tmps) = true then Oper.wp P o a w K Q else E := by
  rw [if_pos (by simp [Region.wanted, hgd])]
  obtain ⟨v, ps, hrun, hv⟩ := hown.look_ok KK ht hz (plainElem_int he (by cases q <;> decide)) hkey
  obtain ⟨c, rfl, hc, _⟩ := plainElem_int_inv he hv
  unfold Oper.wp
  simp [execOp, hop, hm, hx, hrun, Result.andThen]
  exact hK c (congrArg Prod.fst hc)
theorem step_mapUpdate {H : Type} (hgd : o.guard = none) (m x v : Operand) (t : TypeId) (hop : o.op = Op.mapUpdate t m x v)
    (k e : TypeId) (KK : Keyed P k) (ht : P.underlying t = some (.map k e)) (R : Value → Option (DataW H × List MemPlace)) (b n : Nat) (D : DataW H)
    (hm : a.eval m = .map (some b)) (hown : w.ownsMap P k R b n D) (hn : n < maxLen) (key val : Value) (kl : Lit) (hx : a.eval x = key) (hv : a.eval v = val) (hkey : keyOf P k key = some kl)
    (d : DataW H) (ps : List MemPlace) (hval : R val = some (d, ps))
    (hK : ∀ w', w'.ownsMap P k R b (n + 1) (D.put kl d) → w.grownBy w' (some b) → K (a.put o.dst undef) w') :
    if Region.wanted o (yielded ops a.tmps) = true then Oper.wp P o a w K Q else E := by
  rw [if_pos (by simp [Region.wanted, hgd])]
  obtain ⟨w', hrun, r1, r2⟩ := hown.update KK ht hn hkey hval
  unfold Oper.wp
  simp [execOp, hop, hm, hx, hv, hrun, Result.andThen]
  exact hK w' r1 r2
theorem keepsFrom_below {A B : World} {b : Nat} (hb : Below A.heap.size A B) : KeepsFrom b A B := ⟨hb.size, fun k o _ hk _ => (hb.block k (Array.getElem?_eq_some_iff.1 hk).1).trans hk⟩
theorem ownsMap_isMap {H : Type} {k : TypeId} {R : Value → Option (DataW H × List MemPlace)} {b n : Nat} {D : DataW H} (h : w.ownsMap P k R b n D) : ∃ o : Obj, w.heap[b]? = some o ∧ o.isCells = false := by
  obtain ⟨es, clock, hb, _⟩ := h
  exact ⟨_, hb, rfl⟩
end
theorem lit_wf {k : Nat} (h : k ≤ 10000) : (Lit.int .i64 (k : Int)).wf = true := by
  have h1 := wrap64_wf (k : Int)
  rw [show wrap64 (k : Int) = (k : Int) from IntWalk.wrap64_in _ (by omega)] at h1
  exact h1
theorem ownsMap_steps {H : Type} {P : Program} {k : TypeId} {R : Value → Option (DataW H × List MemPlace)} {b n : Nat} {D : DataW H} {G B : Nat} {X Y : World} (h : X.ownsMap P k R b n D) (hs : Steps G B X Y) (h1 : b ≠ G) (h2 : b < B) : Y.ownsMap P k R b n D := by
  obtain ⟨row, hg, hr⟩ := hs
  refine h.kept hg (fun e => ?_)
  rcases hr b e.symm with h3 | ⟨h3, _⟩
  · exact h1 h3
  · omega
theorem ownsMap_below {H : Type} {P : Program} {k : TypeId} {R : Value → Option (DataW H × List MemPlace)} {b n : Nat} {D : DataW H} {X Y : World} (h : X.ownsMap P k R b n D) (hb : Below X.heap.size X Y) : Y.ownsMap P k R b n D :=
  h.kept (row := none) ⟨hb.os, hb.tape, hb.output, hb.size, fun j hj _ => hb.block j hj⟩ (by simp)
set_option maxRecDepth 100000 in
set_option maxHeartbeats 4000000 in
theorem gCycIn_any (t : Tre) (g : Grd) (z : Int) (HA NA A : Option Addr) (hn hc nn nc n ac : Nat) (sl : List Sl) (w : World) (ht : TAt w t HA NA hn nn sl) (hg : GAt w g A n) :
    CallsIn Fence.wide 3 Try.prog 16 #[.agg #[.int .i64 t.states, .slice HA hn hc, .slice NA nn nc], .agg #[.int .i64 g.w, .int .i64 g.h, .int .i64 g.edge, .slice A n ac], .int .i64 z] w (fun e w' => e = .returned (.tuple #[.int .i64 (cycS t g z), .int .i64 (cycP t g z), .int .i64 (cycErr t g z)]) ∧ Below w.heap.size w w') := by
  have hmm := @run_makeMap Try.prog
  refine callsIn_of_wp_marks Try.func16 rfl trivial ?_ rfl
  simp only [Try.ntmps16, List.size_toArray, List.length_cons, List.length_nil, Nat.reduceAdd, Nat.reduceSub, Array.replicate_succ, Array.replicate_zero, List.push_toArray, List.append_toArray, List.nil_append, List.cons_append]
  have HT : Hid (TAt w t HA NA hn nn sl) := ht
  have HG : Hid (GAt w g A n) := hg
  have HL : Hid (∀ _ : Unit, g.cells.length = n) := fun _ => hg.cl
  have HO : Hid (∀ B, NewOr A n w.heap.size B) := fun B => hg.cells.newOr
  clear ht hg
  gi_wp2
  have RT : Hid (Row (World.alloc (World.alloc (World.alloc (World.alloc (World.alloc (World.alloc w (.cells #[.int .i64 t.states, .slice HA hn hc, .slice NA nn nc] 25)) (.cells #[.int .i64 g.w, .int .i64 g.h, .int .i64 g.edge, .slice A n ac] 28)) (.cells #[.int .i64 z] 3)) (.cells #[.int .i64 0] 3)) (.cells #[.int .i64 0] 3)) (.cells #[.int .i64 0] 31)) (w.heap.size) 25 [.int .i64 t.states, .slice HA hn hc, .slice NA nn nc]) := by
    have h0 := Row.new w 25 [.int .i64 t.states, .slice HA hn hc, .slice NA nn nc]
    try simp only [World.size_alloc] at h0
    exact (((((h0.alloc _).alloc _).alloc _).alloc _).alloc _)
  have RG : Hid (Row (World.alloc (World.alloc (World.alloc (World.alloc (World.alloc (World.alloc w (.cells #[.int .i64 t.states, .slice HA hn hc, .slice NA nn nc] 25)) (.cells #[.int .i64 g.w, .int .i64 g.h, .int .i64 g.edge, .slice A n ac] 28)) (.cells #[.int .i64 z] 3)) (.cells #[.int .i64 0] 3)) (.cells #[.int .i64 0] 3)) (.cells #[.int .i64 0] 31)) (w.heap.size + 1) 28 [.int .i64 g.w, .int .i64 g.h, .int .i64 g.edge, .slice A n ac]) := by
    have h0 := Row.new (World.alloc w (.cells #[.int .i64 t.states, .slice HA hn hc, .slice NA nn nc] 25)) 28 [.int .i64 g.w, .int .i64 g.h, .int .i64 g.edge, .slice A n ac]
    try simp only [World.size_alloc] at h0
    exact ((((h0.alloc _).alloc _).alloc _).alloc _)
  have RN : Hid (Row (World.alloc (World.alloc (World.alloc (World.alloc (World.alloc (World.alloc w (.cells #[.int .i64 t.states, .slice HA hn hc, .slice NA nn nc] 25)) (.cells #[.int .i64 g.w, .int .i64 g.h, .int .i64 g.edge, .slice A n ac] 28)) (.cells #[.int .i64 z] 3)) (.cells #[.int .i64 0] 3)) (.cells #[.int .i64 0] 3)) (.cells #[.int .i64 0] 31)) (w.heap.size + 1 + 1) 3 [.int .i64 z]) := by
    have h0 := Row.new (World.alloc (World.alloc w (.cells #[.int .i64 t.states, .slice HA hn hc, .slice NA nn nc] 25)) (.cells #[.int .i64 g.w, .int .i64 g.h, .int .i64 g.edge, .slice A n ac] 28)) 3 [.int .i64 z]
    try simp only [World.size_alloc] at h0
    exact (((h0.alloc _).alloc _).alloc _)
  have RS : Hid (Row (World.alloc (World.alloc (World.alloc (World.alloc (World.alloc (World.alloc w (.cells #[.int .i64 t.states, .slice HA hn hc, .slice NA nn nc] 25)) (.cells #[.int .i64 g.w, .int .i64 g.h, .int .i64 g.edge, .slice A n ac] 28)) (.cells #[.int .i64 z] 3)) (.cells #[.int .i64 0] 3)) (.cells #[.int .i64 0] 3)) (.cells #[.int .i64 0] 31)) (w.heap.size + 1 + 1 + 1) 3 [.int .i64 0]) := by
    have h0 := Row.new (World.alloc (World.alloc (World.alloc w (.cells #[.int .i64 t.states, .slice HA hn hc, .slice NA nn nc] 25)) (.cells #[.int .i64 g.w, .int .i64 g.h, .int .i64 g.edge, .slice A n ac] 28)) (.cells #[.int .i64 z] 3)) 3 [.int .i64 0]
    try simp only [World.size_alloc] at h0
    exact ((h0.alloc _).alloc _)
  have RP : Hid (Row (World.alloc (World.alloc (World.alloc (World.alloc (World.alloc (World.alloc w (.cells #[.int .i64 t.states, .slice HA hn hc, .slice NA nn nc] 25)) (.cells #[.int .i64 g.w, .int .i64 g.h, .int .i64 g.edge, .slice A n ac] 28)) (.cells #[.int .i64 z] 3)) (.cells #[.int .i64 0] 3)) (.cells #[.int .i64 0] 3)) (.cells #[.int .i64 0] 31)) (w.heap.size + 1 + 1 + 1 + 1) 3 [.int .i64 0]) := by
    have h0 := Row.new (World.alloc (World.alloc (World.alloc (World.alloc w (.cells #[.int .i64 t.states, .slice HA hn hc, .slice NA nn nc] 25)) (.cells #[.int .i64 g.w, .int .i64 g.h, .int .i64 g.edge, .slice A n ac] 28)) (.cells #[.int .i64 z] 3)) (.cells #[.int .i64 0] 3)) 3 [.int .i64 0]
    try simp only [World.size_alloc] at h0
    exact (h0.alloc _)
  have RE : Hid (Row (World.alloc (World.alloc (World.alloc (World.alloc (World.alloc (World.alloc w (.cells #[.int .i64 t.states, .slice HA hn hc, .slice NA nn nc] 25)) (.cells #[.int .i64 g.w, .int .i64 g.h, .int .i64 g.edge, .slice A n ac] 28)) (.cells #[.int .i64 z] 3)) (.cells #[.int .i64 0] 3)) (.cells #[.int .i64 0] 3)) (.cells #[.int .i64 0] 31)) (w.heap.size + 1 + 1 + 1 + 1 + 1) 31 [.int .i64 0]) := by
    have h0 := Row.new (World.alloc (World.alloc (World.alloc (World.alloc (World.alloc w (.cells #[.int .i64 t.states, .slice HA hn hc, .slice NA nn nc] 25)) (.cells #[.int .i64 g.w, .int .i64 g.h, .int .i64 g.edge, .slice A n ac] 28)) (.cells #[.int .i64 z] 3)) (.cells #[.int .i64 0] 3)) (.cells #[.int .i64 0] 3)) 31 [.int .i64 0]
    try simp only [World.size_alloc] at h0
    exact h0
  have hgr9 : Below w.heap.size w (World.alloc (World.alloc (World.alloc (World.alloc (World.alloc (World.alloc w (.cells #[.int .i64 t.states, .slice HA hn hc, .slice NA nn nc] 25)) (.cells #[.int .i64 g.w, .int .i64 g.h, .int .i64 g.edge, .slice A n ac] 28)) (.cells #[.int .i64 z] 3)) (.cells #[.int .i64 0] 3)) (.cells #[.int .i64 0] 3)) (.cells #[.int .i64 0] 31)) := by go_grown
  have B_w : Hid (Below w.heap.size w (World.alloc (World.alloc (World.alloc (World.alloc (World.alloc (World.alloc w (.cells #[.int .i64 t.states, .slice HA hn hc, .slice NA nn nc] 25)) (.cells #[.int .i64 g.w, .int .i64 g.h, .int .i64 g.edge, .slice A n ac] 28)) (.cells #[.int .i64 z] 3)) (.cells #[.int .i64 0] 3)) (.cells #[.int .i64 0] 3)) (.cells #[.int .i64 0] 31))) := hgr9
  clear hgr9
  revert RT RG RN RS RP RE B_w
  generalize (World.alloc (World.alloc (World.alloc (World.alloc (World.alloc (World.alloc w (.cells #[.int .i64 t.states, .slice HA hn hc, .slice NA nn nc] 25)) (.cells #[.int .i64 g.w, .int .i64 g.h, .int .i64 g.edge, .slice A n ac] 28)) (.cells #[.int .i64 z] 3)) (.cells #[.int .i64 0] 3)) (.cells #[.int .i64 0] 3)) (.cells #[.int .i64 0] 31)) = wa
  intro RT RG RN RS RP RE B_w
  refine ⟨trivial, (callsIn_wide.2 (fitsN_any t g HA NA A hn hc nn nc n ac sl wa (HT.out.up B_w.out) (HG.out.up B_w.out))).mono ?_⟩
  rintro e w1 ⟨rfl, hb⟩
  have B_w : Hid (Below w.heap.size w w1) := below_on2 B_w.out hb
  have B_wa : Hid (Below wa.heap.size wa w1) := hb
  clear hb
  have hws : w.heap.size + 1 + 1 + 1 + 1 + 1 < w1.heap.size := (show Row w1 (w.heap.size + 1 + 1 + 1 + 1 + 1) _ _ from (rowCells RE.out B_wa.out)).lt
  obtain ⟨fe, hfe⟩ : ∃ fe, fitsN t g = fe := ⟨_, rfl⟩
  have HFE : Hid (∀ _ : Unit, fitsN t g = fe) := fun _ => hfe
  rw [hfe]
  clear hfe
  by_cases hf : fe = 0
  · subst hf
    by_cases hz : 0 ≤ z ∧ z ≤ 10000
    · have HOK : Hid (OkTG t g) := fits_ok (HFE.out ())
      obtain ⟨z0, z1⟩ := hz
      obtain ⟨mz, rfl⟩ : ∃ mz : Nat, z = (mz : Int) := ⟨z.toNat, by omega⟩
      have RN1 : Hid (Row w1 (w.heap.size + 1 + 1) 3 [.int .i64 (mz : Int)]) := (rowCells RN.out B_wa.out)
      have n0 := RN1.out.cell 0
      have nl := RN1.out.lt
      simp only [List.getElem?_cons_zero] at n0
      have pR : Hid (Row w1 (w.heap.size) 25 [.int .i64 t.states, .slice HA hn hc, .slice NA nn nc]) := (rowCells RT.out B_wa.out)
      have p0 := pR.out.cell 0
      have p1 := pR.out.cell 1
      have p2 := pR.out.cell 2
      have pl := pR.out.lt
      simp only [List.getElem?_cons_zero, List.getElem?_cons_succ] at p0 p1 p2
      clear pR
      have qR : Hid (Row w1 (w.heap.size + 1) 28 [.int .i64 g.w, .int .i64 g.h, .int .i64 g.edge, .slice A n ac]) := (rowCells RG.out B_wa.out)
      have q0 := qR.out.cell 0
      have q1 := qR.out.cell 1
      have q2 := qR.out.cell 2
      have q3 := qR.out.cell 3
      have ql := qR.out.lt
      simp only [List.getElem?_cons_zero, List.getElem?_cons_succ] at q0 q1 q2 q3
      clear qR
      gi_wp2
      have HM0 : Hid (World.ownsMap (World.alloc (World.alloc w1 (.map #[] 0)) (.cells #[.map (some w1.heap.size)] 53)) Try.prog 9 (plainElem Try.prog 3) w1.heap.size 0 (seenTo t g 0)) := (World.ownsMap_made w1 Try.prog 9 (plainElem Try.prog 3)).alloc _
      have RM0 : Hid (Row (World.alloc (World.alloc w1 (.map #[] 0)) (.cells #[.map (some w1.heap.size)] 53)) (w1.heap.size + 1) 53 [.map (some w1.heap.size)]) := (by
        have h0 := Row.new (World.alloc w1 (.map #[] 0)) 53 [.map (some w1.heap.size)]
        rw [World.size_alloc] at h0
        exact h0)
      clear n0 nl RN1
      have hgr9 : Below w1.heap.size w1 (World.alloc (World.alloc w1 (.map #[] 0)) (.cells #[.map (some w1.heap.size)] 53)) := by go_grown
      have B_w : Hid (Below w.heap.size w (World.alloc (World.alloc w1 (.map #[] 0)) (.cells #[.map (some w1.heap.size)] 53))) := below_on2 B_w.out hgr9
      have B_wa : Hid (Below wa.heap.size wa (World.alloc (World.alloc w1 (.map #[] 0)) (.cells #[.map (some w1.heap.size)] 53))) := below_on2 B_wa.out hgr9
      have B_w1 : Hid (Below w1.heap.size w1 (World.alloc (World.alloc w1 (.map #[] 0)) (.cells #[.map (some w1.heap.size)] 53))) := hgr9
      clear hgr9
      clear p0 p1 p2 pl q0 q1 q2 q3 ql
      revert HM0 RM0 B_w B_wa B_w1
      generalize World.alloc (World.alloc w1 (.map #[] 0)) (.cells #[.map (some w1.heap.size)] 53) = wm
      intro HM0 RM0 B_w B_wa B_w1
      have hbm : w1.heap.size + 1 < wm.heap.size := RM0.out.lt
      refine ⟨trivial, (callsIn_wide.2 (run_any t g HA NA A hn hc nn nc n ac wm)).mono ?_⟩
      rintro e w2 ⟨rfl, hrT, hrG, hsz2, hb⟩
      have RTi : Hid (Row w2 wm.heap.size 25 [.int .i64 t.states, .slice HA hn hc, .slice NA nn nc]) := hrT
      have RGi : Hid (Row w2 (wm.heap.size + 1) 28 [.int .i64 g.w, .int .i64 g.h, .int .i64 g.edge, .slice A n ac]) := hrG
      clear hrT hrG
      have B_w : Hid (Below w.heap.size w w2) := below_on2 B_w.out hb
      have B_wa : Hid (Below wa.heap.size wa w2) := below_on2 B_wa.out hb
      have B_w1 : Hid (Below w1.heap.size w1 w2) := below_on2 B_w1.out hb
      have B_wm : Hid (Below wm.heap.size wm w2) := hb
      clear hb
      gi_wp2
      refine wpIn_rangeState (gf := 41) (lb := #[.pointer (some ⟨(wm.heap.size + 1), 0, none⟩), .pointer (some ⟨wm.heap.size, 0, none⟩)]) (G := (wm.heap.size + 1)) (N := mz + 2) (Px := GenAt t g n w.heap.size (wm.heap.size + 1)) rfl (enters_of Try.func41 (by kernel_rfl) rfl) rfl RGi.out.lt
        (run_seq t g HA NA A hn hc nn nc n ac (wm.heap.size + 1) wm.heap.size (mz + 2) w.heap.size sl w w2 HT.out HOK.out (HL.out ()) (KC.below B_w.out) (by omega) RTi.out RGi.out HG.out (by omega) (by omega) (HO.out _))
        (fun k W => k ≤ mz + 1 ∧ Below w.heap.size w W ∧ Row W (w.heap.size + 1 + 1) 3 [.int .i64 (mz : Int)] ∧ Row W (w.heap.size + 1 + 1 + 1) 3 [.int .i64 (0)] ∧ Row W (w.heap.size + 1 + 1 + 1 + 1) 3 [.int .i64 (0)] ∧ Row W (w.heap.size + 1 + 1 + 1 + 1 + 1) 31 [.int .i64 (0)] ∧ Row W (w1.heap.size + 1) 53 [.map (some w1.heap.size)] ∧ World.ownsMap W Try.prog 9 (plainElem Try.prog 3) w1.heap.size (k) (seenTo t g (k)) ∧ (∀ j, j < k → cycK t g j = none))
        (fun c W => Below w.heap.size w W ∧ ((c = .ret ∧ Row W (w.heap.size + 1 + 1 + 1) 3 [.int .i64 (cycS t g (mz : Int))] ∧ Row W (w.heap.size + 1 + 1 + 1 + 1) 3 [.int .i64 (cycP t g (mz : Int))] ∧ Row W (w.heap.size + 1 + 1 + 1 + 1 + 1) 31 [.int .i64 (0)] ∧ cycErr t g (mz : Int) = 0) ∨ (c = .exit 0 ∧ Row W (w.heap.size + 1 + 1 + 1) 3 [.int .i64 (0)] ∧ Row W (w.heap.size + 1 + 1 + 1 + 1) 3 [.int .i64 (0)] ∧ Row W (w.heap.size + 1 + 1 + 1 + 1 + 1) 31 [.int .i64 (0)] ∧ cycErr t g (mz : Int) = 14)))
        (fun k X Y h hs => ⟨h.1, belowSteps h.2.1 (Nat.le_refl _) hs (by omega) (by omega), h.2.2.1.steps hs (by omega), h.2.2.2.1.steps hs (by omega), h.2.2.2.2.1.steps hs (by omega), h.2.2.2.2.2.1.steps hs (by omega), h.2.2.2.2.2.2.1.steps hs (by omega), ownsMap_steps h.2.2.2.2.2.2.2.1 hs (by omega) (by omega), h.2.2.2.2.2.2.2.2⟩)
        (fun c X Y h hs hk => ⟨belowSteps h.1 (Nat.le_refl _) hs (by omega) (by omega), h.2.imp (fun h => ⟨h.1, hk.row h.2.1, hk.row h.2.2.1, hk.row h.2.2.2.1, h.2.2.2.2⟩) (fun h => ⟨h.1, hk.row h.2.1, hk.row h.2.2.1, hk.row h.2.2.2.1, h.2.2.2.2⟩)⟩)
        (fun k X h => by omega) ⟨Nat.zero_le _, B_w.out, (rowCells RN.out B_wa.out), (rowCells RS.out B_wa.out), (rowCells RP.out B_wa.out), (rowCells RE.out B_wa.out), rowCells RM0.out B_wm.out, ownsMap_below HM0.out B_wm.out, fun j hj => absurd hj (Nat.not_lt_zero _)⟩ (fun k v X Y h hk => h.kc hk)
        (fun k v a' W => ∃ Bx A' c', v = .agg #[.int .i64 g.w, .int .i64 g.h, .int .i64 g.edge, .slice A' n c'] ∧ Row W Bx 28 [.int .i64 g.w, .int .i64 g.h, .int .i64 g.edge, .slice A' n c'] ∧ a' = { tmps := #[.agg #[.int .i64 t.states, .slice HA hn hc, .slice NA nn nc], .agg #[.int .i64 g.w, .int .i64 g.h, .int .i64 g.edge, .slice A n ac], .int .i64 (mz : Int), .pointer (some ⟨w.heap.size, 0, none⟩), .pointer (some ⟨w.heap.size + 1, 0, none⟩), .pointer (some ⟨w.heap.size + 1 + 1, 0, none⟩), .pointer (some ⟨w.heap.size + 1 + 1 + 1, 0, none⟩), .pointer (some ⟨w.heap.size + 1 + 1 + 1 + 1, 0, none⟩), .pointer (some ⟨w.heap.size + 1 + 1 + 1 + 1 + 1, 0, none⟩), .int .i64 0, .pointer (some ⟨(w1.heap.size + 1), 0, none⟩), .int .i64 (k : Int), .pointer (some ⟨Bx, 0, none⟩), undef, undef, .agg #[.int .i64 t.states, .slice HA hn hc, .slice NA nn nc], .agg #[.int .i64 g.w, .int .i64 g.h, .int .i64 g.edge, .slice A n ac], .int .i64 0, .int .i64 0, .bool false, undef, .int .i64 (mz : Int), .bool (decide ((mz : Int) < 0)), .bool (decide ((mz : Int) < 0)), .int .i64 (mz : Int), .bool (decide (10000 < (mz : Int))), .bool (decide ((mz : Int) < 0) || decide (10000 < (mz : Int))), .map (some w1.heap.size), .agg #[.int .i64 t.states, .slice HA hn hc, .slice NA nn nc], .agg #[.int .i64 g.w, .int .i64 g.h, .int .i64 g.edge, .slice A n ac], .func (.func 41) #[] #[.pointer (some ⟨(wm.heap.size + 1), 0, none⟩), .pointer (some ⟨wm.heap.size, 0, none⟩)], .int .i64 (k : Int), .agg #[.int .i64 g.w, .int .i64 g.h, .int .i64 g.edge, .slice A' n c'], undef, undef, undef, undef, undef, undef, undef, undef, undef, undef, undef, undef, undef, undef, undef, undef, undef, undef, undef], defers := [] })
        (fun k v a' X Y h hk => (let ⟨Bx, A', c', h1, h2, h3⟩ := h; ⟨Bx, A', c', h1, hk.row h2, h3⟩)) ?assign ?body ?stop
      case assign =>
        intro l k v W K hi hp hK
        obtain ⟨A', c', rfl, hga, hgo⟩ := hp
        obtain ⟨i1, i2, i3, i4, i5, i6, i7, i8, i9⟩ := hi
        have HK : Hid (∀ a' W', KeepsFrom w2.heap.size W W' → KC W W' → _ → _ → K a' W') := hK
        have HI : Hid (k ≤ mz + 1 ∧ Below w.heap.size w W ∧ Row W (w.heap.size + 1 + 1) 3 [.int .i64 (mz : Int)] ∧ Row W (w.heap.size + 1 + 1 + 1) 3 [.int .i64 (0)] ∧ Row W (w.heap.size + 1 + 1 + 1 + 1) 3 [.int .i64 (0)] ∧ Row W (w.heap.size + 1 + 1 + 1 + 1 + 1) 31 [.int .i64 (0)] ∧ Row W (w1.heap.size + 1) 53 [.map (some w1.heap.size)] ∧ World.ownsMap W Try.prog 9 (plainElem Try.prog 3) w1.heap.size (k) (seenTo t g (k)) ∧ (∀ j, j < k → cycK t g j = none)) := ⟨i1, i2, i3, i4, i5, i6, i7, i8, i9⟩
        clear hK i2 i3 i4 i5 i6 i7 i8 i9
        gi_wp2
        obtain ⟨i1, i2, i3, i4, i5, i6, i7, i8, i9⟩ := HI.out
        exact HK.out _ _ ((KeepsOthers.alloc _ _).from _) (.grown (World.grownBy_alloc W _ none) (fun r e => by cases e)) ⟨i1, i2.alloc i2.size _, i3.alloc _, i4.alloc _, i5.alloc _, i6.alloc _, i7.alloc _, i8.alloc _, i9⟩ ⟨W.heap.size, A', c', rfl, Row.new W 28 [.int .i64 g.w, .int .i64 g.h, .int .i64 g.edge, .slice A' n c'], rfl⟩
      case body =>
        rintro l k v a' W ⟨i1, i2, i3, i4, i5, i6, i7, i8, i9⟩ ⟨A0', c0', hv, hga, hgo⟩ ⟨Bx, A', c', rfl, rX, rfl⟩
        have HGA : Hid (GAt W (genG t g k) A' n) := by
          simp only [Value.agg.injEq, Array.mk.injEq, List.cons.injEq, Value.slice.injEq, true_and, and_true] at hv
          rw [hv.1]; exact hga
        have HI : Hid (k ≤ mz + 1 ∧ Below w.heap.size w W ∧ Row W (w.heap.size + 1 + 1) 3 [.int .i64 (mz : Int)] ∧ Row W (w.heap.size + 1 + 1 + 1) 3 [.int .i64 (0)] ∧ Row W (w.heap.size + 1 + 1 + 1 + 1) 3 [.int .i64 (0)] ∧ Row W (w.heap.size + 1 + 1 + 1 + 1 + 1) 31 [.int .i64 (0)] ∧ Row W (w1.heap.size + 1) 53 [.map (some w1.heap.size)] ∧ World.ownsMap W Try.prog 9 (plainElem Try.prog 3) w1.heap.size (k) (seenTo t g (k)) ∧ (∀ j, j < k → cycK t g j = none)) := ⟨i1, i2, i3, i4, i5, i6, i7, i8, i9⟩
        have rN : Hid (Row W (w.heap.size + 1 + 1) 3 [.int .i64 (mz : Int)]) := i3
        have rS : Hid (Row W (w.heap.size + 1 + 1 + 1) 3 [.int .i64 (0)]) := i4
        have rP : Hid (Row W (w.heap.size + 1 + 1 + 1 + 1) 3 [.int .i64 (0)]) := i5
        have rE : Hid (Row W (w.heap.size + 1 + 1 + 1 + 1 + 1) 31 [.int .i64 (0)]) := i6
        have rM : Hid (Row W (w1.heap.size + 1) 53 [.map (some w1.heap.size)]) := i7
        have rXX : Hid (Row W Bx 28 [.int .i64 g.w, .int .i64 g.h, .int .i64 g.edge, .slice A' n c']) := rX
        clear hv hga hgo i2 i3 i4 i5 i6 i7 i8 i9 rX
        have n0 := rN.out.cell 0
        simp only [List.getElem?_cons_zero] at n0
        by_cases hk : k = mz + 1
        · have hkz : (mz : Int) < (k : Int) := by omega
          have HER : Hid (cycErr t g (mz : Int) = 14) := cyc_limit (HFE.out ()) (by omega) (fun j hj => HI.out.2.2.2.2.2.2.2.2 j (by omega))
          gi_wp2
          exact ⟨KeepsFrom.refl _ _, HI.out.2.1, .inr ⟨rfl, rS.out, rP.out, rE.out, HER.out⟩⟩
        · have hkz : ¬ (mz : Int) < (k : Int) := by omega
          have x0 := rXX.out.cell 0
          have x1 := rXX.out.cell 1
          have x2 := rXX.out.cell 2
          have x3 := rXX.out.cell 3
          have xl := rXX.out.lt
          simp only [List.getElem?_cons_zero, List.getElem?_cons_succ] at x0 x1 x2 x3
          have m0 := rM.out.cell 0
          have ml := rM.out.lt
          simp only [List.getElem?_cons_zero, List.getElem?_cons_succ] at m0
          gi_wp2
          have hk1 : k ≤ 10000 := by omega
          have hn4 : 1 ≤ n ∧ n ≤ 4096 := by
            obtain ⟨h1, h2, _⟩ := rightG_parts HOK.out.rg
            obtain ⟨⟨s1, _⟩, ⟨s3, _⟩, s5, _⟩ := sizedF_parts h1
            have h6 : 1 ≤ g.w * g.h := Int.mul_pos s1 s3
            rw [← h2, HL.out ()] at s5 h6
            omega
          have rS1 := rS
          have rP1 := rP
          have rE1 := rE
          have rN1 := rN
          have rX1 := rXX
          have rM1 := rM
          have OM1 : Hid (World.ownsMap W Try.prog 9 (plainElem Try.prog 3) w1.heap.size (k) (seenTo t g (k))) := HI.out.2.2.2.2.2.2.2.1
          have GA1 := HGA
          have BB1 : Hid (Below w.heap.size w W) := HI.out.2.1
          have KF1 : Hid (KeepsFrom w2.heap.size W W ∧ KC W W) := ⟨KeepsFrom.refl _ _, KC.refl _⟩
          have HND : Hid (∀ j, j < k → cycK t g j = none) := HI.out.2.2.2.2.2.2.2.2
          clear x0 x1 x2 x3 xl m0 ml n0 rN rS rP rE rXX rM HGA HI
          refine wpIn_region_L (fun w' => Row w' Bx 28 [.int .i64 g.w, .int .i64 g.h, .int .i64 g.edge, .slice A' n c'] ∧ Row w' (w1.heap.size + 1) 53 [.map (some w1.heap.size)]) [] (by kernel_rfl) (by kernel_rfl) (by exact ⟨rX1.out.drew, rM1.out.drew⟩) (fun hHeld => ?_)
          have rNd : Hid (Row (World.drew W) (w.heap.size + 1 + 1) 3 [.int .i64 (mz : Int)]) := rN1.out.drew
          have rSd : Hid (Row (World.drew W) (w.heap.size + 1 + 1 + 1) 3 [.int .i64 (0)]) := rS1.out.drew
          have rPd : Hid (Row (World.drew W) (w.heap.size + 1 + 1 + 1 + 1) 3 [.int .i64 (0)]) := rP1.out.drew
          have rEd : Hid (Row (World.drew W) (w.heap.size + 1 + 1 + 1 + 1 + 1) 31 [.int .i64 (0)]) := rE1.out.drew
          have rXd : Hid (Row (World.drew W) Bx 28 [.int .i64 g.w, .int .i64 g.h, .int .i64 g.edge, .slice A' n c']) := rX1.out.drew
          have rMd : Hid (Row (World.drew W) (w1.heap.size + 1) 53 [.map (some w1.heap.size)]) := rM1.out.drew
          have OMd : Hid (World.ownsMap (World.drew W) Try.prog 9 (plainElem Try.prog 3) w1.heap.size (k) (seenTo t g (k))) := OM1.out
          have GAd : Hid (GAt (World.drew W) (genG t g k) A' n) := ⟨GA1.out.cells, GA1.out.c63⟩
          have BBd : Hid (Below w.heap.size w (World.drew W)) := BB1.out.drew
          have KFd : Hid (KeepsFrom w2.heap.size W (World.drew W) ∧ KC W (World.drew W)) := ⟨KF1.out.1.trans ((KeepsOthers.drew _).from _), KF1.out.2.trans (.below ((Below.refl _ _).drew))⟩
          revert hHeld rNd rSd rPd rEd rXd rMd OMd GAd BBd KFd
          generalize World.drew W = wQ
          intro hHeld rNd rSd rPd rEd rXd rMd OMd GAd BBd KFd
          refine restL_take (i := 0) (v := ?vb1) [] rfl (by kernel_rfl) (by kernel_rfl) (by kernel_rfl) (by kernel_rfl) (fun _ _ _ h => h) (Or.inl ⟨by rfl, ?yb1⟩) hHeld ?rb1
          case yb1 =>
            intro w' hSw
            have hSh : Hid (Row w' Bx 28 [.int .i64 g.w, .int .i64 g.h, .int .i64 g.edge, .slice A' n c']) := hSw.1
            have hSp : Hid (Row w' (w1.heap.size + 1) 53 [.map (some w1.heap.size)]) := hSw.2
            clear hSw
            have z0 := hSh.out.cell 0
            have z1 := hSh.out.cell 1
            have z2 := hSh.out.cell 2
            have z3 := hSh.out.cell 3
            have zl := hSh.out.lt
            simp only [List.getElem?_cons_zero, List.getElem?_cons_succ] at z0 z1 z2 z3
            have y0 := hSp.out.cell 0
            have yl := hSp.out.lt
            simp only [List.getElem?_cons_zero, List.getElem?_cons_succ] at y0
            go_simp
            try (with_reducible rfl)
          go_simp
          refine restL_take (i := 1) (v := ?vb2) [] rfl (by kernel_rfl) (by kernel_rfl) (by kernel_rfl) (by kernel_rfl) (fun _ _ _ h => h) (Or.inl ⟨by rfl, ?yb2⟩) hHeld ?rb2
          case yb2 =>
            intro w' hSw
            have hSh : Hid (Row w' Bx 28 [.int .i64 g.w, .int .i64 g.h, .int .i64 g.edge, .slice A' n c']) := hSw.1
            have hSp : Hid (Row w' (w1.heap.size + 1) 53 [.map (some w1.heap.size)]) := hSw.2
            clear hSw
            have z0 := hSh.out.cell 0
            have z1 := hSh.out.cell 1
            have z2 := hSh.out.cell 2
            have z3 := hSh.out.cell 3
            have zl := hSh.out.lt
            simp only [List.getElem?_cons_zero, List.getElem?_cons_succ] at z0 z1 z2 z3
            have y0 := hSp.out.cell 0
            have yl := hSp.out.lt
            simp only [List.getElem?_cons_zero, List.getElem?_cons_succ] at y0
            go_simp
            try (with_reducible rfl)
          go_simp
          refine restL_one (i := 2) (by kernel_rfl) rfl (fun K hK => ?_)
          go_simp
          go_at_call 28
          have HC := key_any (genG t g k) A' n c' wQ GAd.out hn4.1 hn4.2 (gen_bytes HOK.out k)
          rw [(genG_shape t g k).1, (genG_shape t g k).2.1, (genG_shape t g k).2.2.1] at HC
          refine HC.mono ?_
          clear HC
          rintro e w4 ⟨rfl, hb⟩
          have rN4 : Hid (Row w4 (w.heap.size + 1 + 1) 3 [.int .i64 (mz : Int)]) := rowCells rNd.out hb
          have rS4 : Hid (Row w4 (w.heap.size + 1 + 1 + 1) 3 [.int .i64 (0)]) := rowCells rSd.out hb
          have rP4 : Hid (Row w4 (w.heap.size + 1 + 1 + 1 + 1) 3 [.int .i64 (0)]) := rowCells rPd.out hb
          have rE4 : Hid (Row w4 (w.heap.size + 1 + 1 + 1 + 1 + 1) 31 [.int .i64 (0)]) := rowCells rEd.out hb
          have rX4 : Hid (Row w4 Bx 28 [.int .i64 g.w, .int .i64 g.h, .int .i64 g.edge, .slice A' n c']) := rowCells rXd.out hb
          have rM4 : Hid (Row w4 (w1.heap.size + 1) 53 [.map (some w1.heap.size)]) := rowCells rMd.out hb
          have OM4 : Hid (World.ownsMap w4 Try.prog 9 (plainElem Try.prog 3) w1.heap.size (k) (seenTo t g (k))) := ownsMap_below OMd.out hb
          have GA4 : Hid (GAt w4 (genG t g k) A' n) := GAd.out.up hb
          have BB4 : Hid (Below w.heap.size w w4) := below_on2 BBd.out hb
          have KF4 : Hid (KeepsFrom w2.heap.size W w4 ∧ KC W w4) := ⟨KFd.out.1.trans (keepsFrom_below hb), KFd.out.2.trans (.below hb)⟩
          clear hb hHeld rNd rSd rPd rEd rXd rMd OMd GAd BBd KFd
          refine hK.out _ _ (fun _ => ?keep) (fun hHeld => ?_)
          case keep => exact ⟨rX4.out, rM4.out⟩
          have hHeld := hHeld rfl
          clear hK K
          try go_simp
          refine restL_one (i := 3) (by kernel_rfl) rfl (fun K hK => ?_)
          refine step_lookup_int rfl (.tmp 37) (.tmp 39) 53 rfl 9 3 .i64 string_keyedN Try.underlying53 Try.underlying3 (Try.zeroValue3 _) w1.heap.size k (seenTo t g k) rfl OM4.out (.string (strOfNums (genG t g k).cells)) (keyL (genG t g k).cells) rfl (keyOf_grid _ (by rw [(genG_shape t g k).2.2.2, HL.out ()]; exact hn4.2)) ?_
          intro c hat
          have HAT : Hid ((seenTo t g k).atKey (keyL (genG t g k).cells) (.lit (.int .i64 0)) = .lit (.int .i64 c)) := hat
          clear hat
          refine hK.out _ _ (fun _ => ?keep) (fun hHeld => ?_)
          case keep => exact hHeld
          have hHeld := hHeld rfl
          clear hK K
          try go_simp
          refine restL_pure (i := 4) (v := ?vb3) rfl (by kernel_rfl) (by kernel_rfl) (by kernel_rfl) (fun _ _ _ h => h) (Or.inl ⟨by rfl, ?yb3⟩) ?rb3
          case yb3 => intro w' hSw; clear hSw; go_simp; try (with_reducible rfl)
          go_simp
          refine restL_pure (i := 5) (v := ?vb4) rfl (by kernel_rfl) (by kernel_rfl) (by kernel_rfl) (fun _ _ _ h => h) (Or.inl ⟨by rfl, ?yb4⟩) ?rb4
          case yb4 => intro w' hSw; clear hSw; go_simp; try (with_reducible rfl)
          go_simp
          refine restL_pure (i := 6) (v := ?vb5) rfl (by kernel_rfl) (by kernel_rfl) (by kernel_rfl) (fun _ _ _ h => h) (Or.inl ⟨by rfl, ?yb5⟩) ?rb5
          case yb5 => intro w' hSw; clear hSw; go_simp; try (with_reducible rfl)
          go_simp
          refine restL_pure (i := 7) (v := ?vb6) rfl (by kernel_rfl) (by kernel_rfl) (by kernel_rfl) (fun _ _ _ h => h) (Or.inl ⟨by rfl, ?yb6⟩) ?rb6
          case yb6 => intro w' hSw; clear hSw; go_simp; try (with_reducible rfl)
          go_simp
          refine restL_pure (i := 8) (v := ?vb7) rfl (by kernel_rfl) (by kernel_rfl) (by kernel_rfl) (fun _ _ _ h => h) (Or.inl ⟨by rfl, ?yb7⟩) ?rb7
          case yb7 => intro w' hSw; clear hSw; go_simp; try (with_reducible rfl)
          go_simp
          refine restL_doneN (by kernel_rfl) ?_ _
          obtain ⟨hv, hhv⟩ : ∃ b, Maps.has (seenTo t g k) (keyL (genG t g k).cells) = b := ⟨_, rfl⟩
          have HHV : Hid (∀ _ : Unit, Maps.has (seenTo t g k) (keyL (genG t g k).cells) = hv) := fun _ => hhv
          rw [hhv]
          clear hhv
          cases hv
          · have HNK : Hid (cycK t g k = none) := seen_miss HOK.out (HHV.out ())
            clear HAT HHV
            gi_wp2
            refine wpIn_region_L (fun w' => Row w' Bx 28 [.int .i64 g.w, .int .i64 g.h, .int .i64 g.edge, .slice A' n c'] ∧ Row w' (w1.heap.size + 1) 53 [.map (some w1.heap.size)]) [4] (by kernel_rfl) (by kernel_rfl) (by exact ⟨rX4.out.drew, rM4.out.drew⟩) (fun hHeld => ?_)
            have rNd : Hid (Row (World.drew w4) (w.heap.size + 1 + 1) 3 [.int .i64 (mz : Int)]) := rN4.out.drew
            have rSd : Hid (Row (World.drew w4) (w.heap.size + 1 + 1 + 1) 3 [.int .i64 (0)]) := rS4.out.drew
            have rPd : Hid (Row (World.drew w4) (w.heap.size + 1 + 1 + 1 + 1) 3 [.int .i64 (0)]) := rP4.out.drew
            have rEd : Hid (Row (World.drew w4) (w.heap.size + 1 + 1 + 1 + 1 + 1) 31 [.int .i64 (0)]) := rE4.out.drew
            have rXd : Hid (Row (World.drew w4) Bx 28 [.int .i64 g.w, .int .i64 g.h, .int .i64 g.edge, .slice A' n c']) := rX4.out.drew
            have rMd : Hid (Row (World.drew w4) (w1.heap.size + 1) 53 [.map (some w1.heap.size)]) := rM4.out.drew
            have OMd : Hid (World.ownsMap (World.drew w4) Try.prog 9 (plainElem Try.prog 3) w1.heap.size (k) (seenTo t g (k))) := OM4.out
            have GAd : Hid (GAt (World.drew w4) (genG t g k) A' n) := ⟨GA4.out.cells, GA4.out.c63⟩
            have BBd : Hid (Below w.heap.size w (World.drew w4)) := BB4.out.drew
            have KFd : Hid (KeepsFrom w2.heap.size W (World.drew w4) ∧ KC W (World.drew w4)) := ⟨KF4.out.1.trans ((KeepsOthers.drew _).from _), KF4.out.2.trans (.below ((Below.refl _ _).drew))⟩
            revert hHeld rNd rSd rPd rEd rXd rMd OMd GAd BBd KFd
            generalize World.drew w4 = wR
            intro hHeld rNd rSd rPd rEd rXd rMd OMd GAd BBd KFd
            refine restL_pure (i := 3) (v := ?vu1) rfl (by kernel_rfl) (by kernel_rfl) (by kernel_rfl) (fun _ _ _ h => h) (Or.inl ⟨by rfl, ?yu1⟩) ?ru1
            case yu1 => intro w' hSw; clear hSw; go_simp; try (with_reducible rfl)
            go_simp
            refine restL_take (i := 0) (v := ?vu2) [[4]] rfl (by kernel_rfl) (by kernel_rfl) (by kernel_rfl) (by kernel_rfl) (fun _ _ _ h => h) (Or.inl ⟨by rfl, ?yu2⟩) hHeld ?ru2
            case yu2 =>
              intro w' hSw
              have hSh : Hid (Row w' Bx 28 [.int .i64 g.w, .int .i64 g.h, .int .i64 g.edge, .slice A' n c']) := hSw.1
              have hSp : Hid (Row w' (w1.heap.size + 1) 53 [.map (some w1.heap.size)]) := hSw.2
              clear hSw
              have z0 := hSh.out.cell 0
              have z1 := hSh.out.cell 1
              have z2 := hSh.out.cell 2
              have z3 := hSh.out.cell 3
              have zl := hSh.out.lt
              simp only [List.getElem?_cons_zero, List.getElem?_cons_succ] at z0 z1 z2 z3
              have y0 := hSp.out.cell 0
              have yl := hSp.out.lt
              simp only [List.getElem?_cons_zero, List.getElem?_cons_succ] at y0
              go_simp
              try (with_reducible rfl)
            go_simp
            refine restL_take (i := 1) (v := ?vu3) [[4]] rfl (by kernel_rfl) (by kernel_rfl) (by kernel_rfl) (by kernel_rfl) (fun _ _ _ h => h) (Or.inl ⟨by rfl, ?yu3⟩) hHeld ?ru3
            case yu3 =>
              intro w' hSw
              have hSh : Hid (Row w' Bx 28 [.int .i64 g.w, .int .i64 g.h, .int .i64 g.edge, .slice A' n c']) := hSw.1
              have hSp : Hid (Row w' (w1.heap.size + 1) 53 [.map (some w1.heap.size)]) := hSw.2
              clear hSw
              have z0 := hSh.out.cell 0
              have z1 := hSh.out.cell 1
              have z2 := hSh.out.cell 2
              have z3 := hSh.out.cell 3
              have zl := hSh.out.lt
              simp only [List.getElem?_cons_zero, List.getElem?_cons_succ] at z0 z1 z2 z3
              have y0 := hSp.out.cell 0
              have yl := hSp.out.lt
              simp only [List.getElem?_cons_zero, List.getElem?_cons_succ] at y0
              go_simp
              try (with_reducible rfl)
            go_simp
            refine restL_one (i := 2) (by kernel_rfl) rfl (fun K hK => ?_)
            go_simp
            go_at_call 28
            have HC := key_any (genG t g k) A' n c' wR GAd.out hn4.1 hn4.2 (gen_bytes HOK.out k)
            rw [(genG_shape t g k).1, (genG_shape t g k).2.1, (genG_shape t g k).2.2.1] at HC
            refine HC.mono ?_
            clear HC
            rintro e w6 ⟨rfl, hb⟩
            have rN6 : Hid (Row w6 (w.heap.size + 1 + 1) 3 [.int .i64 (mz : Int)]) := rowCells rNd.out hb
            have rS6 : Hid (Row w6 (w.heap.size + 1 + 1 + 1) 3 [.int .i64 (0)]) := rowCells rSd.out hb
            have rP6 : Hid (Row w6 (w.heap.size + 1 + 1 + 1 + 1) 3 [.int .i64 (0)]) := rowCells rPd.out hb
            have rE6 : Hid (Row w6 (w.heap.size + 1 + 1 + 1 + 1 + 1) 31 [.int .i64 (0)]) := rowCells rEd.out hb
            have rX6 : Hid (Row w6 Bx 28 [.int .i64 g.w, .int .i64 g.h, .int .i64 g.edge, .slice A' n c']) := rowCells rXd.out hb
            have rM6 : Hid (Row w6 (w1.heap.size + 1) 53 [.map (some w1.heap.size)]) := rowCells rMd.out hb
            have OM6 : Hid (World.ownsMap w6 Try.prog 9 (plainElem Try.prog 3) w1.heap.size (k) (seenTo t g (k))) := ownsMap_below OMd.out hb
            have GA6 : Hid (GAt w6 (genG t g k) A' n) := GAd.out.up hb
            have BB6 : Hid (Below w.heap.size w w6) := below_on2 BBd.out hb
            have KF6 : Hid (KeepsFrom w2.heap.size W w6 ∧ KC W w6) := ⟨KFd.out.1.trans (keepsFrom_below hb), KFd.out.2.trans (.below hb)⟩
            clear hb hHeld rNd rSd rPd rEd rXd rMd OMd GAd BBd KFd
            refine hK.out _ _ (fun _ => ?keep) (fun hHeld => ?_)
            case keep => exact ⟨rX6.out, rM6.out⟩
            have hHeld := hHeld rfl
            clear hK K
            try go_simp
            refine restL_one (i := 4) (by kernel_rfl) rfl (fun K hK => ?_)
            refine step_mapUpdate rfl (.tmp 48) (.tmp 50) (.tmp 51) 53 rfl 9 3 string_keyedN Try.underlying53 (plainElem Try.prog 3) w1.heap.size k (seenTo t g k) rfl OM6.out (by unfold maxLen; omega) (.string (strOfNums (genG t g k).cells)) (.int .i64 (k : Int)) (keyL (genG t g k).cells) rfl rfl (keyOf_grid _ (by rw [(genG_shape t g k).2.2.2, HL.out ()]; exact hn4.2)) (.lit (.int .i64 (k : Int))) [] (plainElem_int Try.underlying3 (lit_wf hk1)) ?_
            intro w7 hown7 hgrow7
            have rN7 : Hid (Row w7 (w.heap.size + 1 + 1) 3 [.int .i64 (mz : Int)]) := rN6.out.grown hgrow7 (by first | (simp; done) | (simp; omega))
            have rS7 : Hid (Row w7 (w.heap.size + 1 + 1 + 1) 3 [.int .i64 (0)]) := rS6.out.grown hgrow7 (by first | (simp; done) | (simp; omega))
            have rP7 : Hid (Row w7 (w.heap.size + 1 + 1 + 1 + 1) 3 [.int .i64 (0)]) := rP6.out.grown hgrow7 (by first | (simp; done) | (simp; omega))
            have rE7 : Hid (Row w7 (w.heap.size + 1 + 1 + 1 + 1 + 1) 31 [.int .i64 (0)]) := rE6.out.grown hgrow7 (by first | (simp; done) | (simp; omega))
            have rM7 : Hid (Row w7 (w1.heap.size + 1) 53 [.map (some w1.heap.size)]) := rM6.out.grown hgrow7 (by first | (simp; done) | (simp; omega))
            have OM7 : Hid (World.ownsMap w7 Try.prog 9 (plainElem Try.prog 3) w1.heap.size (k + 1) (seenTo t g (k + 1))) := hown7
            have BB7 : Hid (Below w.heap.size w w7) := BB6.out.grown hgrow7 BB6.out.size (fun q e => by cases e; omega)
            have KF7 : Hid (KeepsFrom w2.heap.size W w7 ∧ KC W w7) := ⟨KF6.out.1.trans (.of_grownBy hgrow7 (fun j e => by cases e; omega)), KF6.out.2.trans (.grown hgrow7 (fun r e => by cases e; exact ownsMap_isMap OM6.out))⟩
            clear hown7 hgrow7
            refine hK.out _ _ (fun h => absurd h (by decide)) (fun _ => ?_)
            clear hK K
            try go_simp
            refine restL_doneN (by kernel_rfl) ?_ _
            have HND7 : Hid (∀ j, j < k + 1 → cycK t g j = none) := fun j hj => by
              rcases Nat.lt_or_ge j k with h1 | h1
              · exact HND.out j h1
              · obtain rfl : j = k := by omega
                exact HNK.out
            first | exact ⟨KF7.out.1, KF7.out.2, by omega, BB7.out, rN7.out, rS7.out, rP7.out, rE7.out, rM7.out, OM7.out, HND7.out⟩ | (gi_wp2; exact ⟨KF7.out.1, KF7.out.2, by omega, BB7.out, rN7.out, rS7.out, rP7.out, rE7.out, rM7.out, OM7.out, HND7.out⟩)
          · obtain ⟨k', rfl, hkk, hck⟩ := seen_hit HOK.out HND.out (HHV.out ()) HAT.out
            have HCY : Hid (cycErr t g (mz : Int) = 0 ∧ cycS t g (mz : Int) = (k' : Int) ∧ cycP t g (mz : Int) = (k : Int) - (k' : Int)) := cyc_hit (HFE.out ()) (by omega) (by omega) HND.out hck
            clear HAT HHV hck
            have s0 := rS4.out.cell 0
            have p0 := rP4.out.cell 0
            have e0 := rE4.out.cell 0
            simp only [List.getElem?_cons_zero] at s0 p0 e0
            have sf := rS4.out.frozen 0
            have pf := rP4.out.frozen 0
            have ef := rE4.out.frozen 0
            gi_wp2
            exact ⟨KF4.out.1.trans ((((KeepsOthers.setCell _ _ _).trans (.setCell _ _ _)).trans (.setCell _ _ _)).from _), (Below.setCell (Below.setCell (Below.setCell BB4.out (p := ⟨w.heap.size + 1 + 1 + 1, 0, none⟩) (by show _ ≤ w.heap.size + 1 + 1 + 1; omega) (.int .i64 ((k' : Int)))) (p := ⟨w.heap.size + 1 + 1 + 1 + 1, 0, none⟩) (by show _ ≤ w.heap.size + 1 + 1 + 1 + 1; omega) (.int .i64 ((k : Int) - (k' : Int)))) (p := ⟨w.heap.size + 1 + 1 + 1 + 1 + 1, 0, none⟩) (by show _ ≤ w.heap.size + 1 + 1 + 1 + 1 + 1; omega) (.int .i64 (0))), .inl ⟨rfl, by rw [HCY.out.2.1]; exact (Row.far (Row.far (Row.set rS4.out 0 (.int .i64 ((k' : Int)))) (p := ⟨w.heap.size + 1 + 1 + 1 + 1, 0, none⟩) (by show _ ≠ w.heap.size + 1 + 1 + 1 + 1; omega) (.int .i64 ((k : Int) - (k' : Int)))) (p := ⟨w.heap.size + 1 + 1 + 1 + 1 + 1, 0, none⟩) (by show _ ≠ w.heap.size + 1 + 1 + 1 + 1 + 1; omega) (.int .i64 (0))), by rw [HCY.out.2.2]; exact (Row.far (Row.set (Row.far rP4.out (p := ⟨w.heap.size + 1 + 1 + 1, 0, none⟩) (by show _ ≠ w.heap.size + 1 + 1 + 1; omega) (.int .i64 ((k' : Int)))) 0 (.int .i64 ((k : Int) - (k' : Int)))) (p := ⟨w.heap.size + 1 + 1 + 1 + 1 + 1, 0, none⟩) (by show _ ≠ w.heap.size + 1 + 1 + 1 + 1 + 1; omega) (.int .i64 (0))), (Row.set (Row.far (Row.far rE4.out (p := ⟨w.heap.size + 1 + 1 + 1, 0, none⟩) (by show _ ≠ w.heap.size + 1 + 1 + 1; omega) (.int .i64 ((k' : Int)))) (p := ⟨w.heap.size + 1 + 1 + 1 + 1, 0, none⟩) (by show _ ≠ w.heap.size + 1 + 1 + 1 + 1; omega) (.int .i64 ((k : Int) - (k' : Int)))) 0 (.int .i64 (0))), HCY.out.1⟩⟩
      case stop =>
        rintro D c W hD ⟨j1, (⟨rfl, j2, j3, j4, j5⟩ | ⟨rfl, j2, j3, j4, j5⟩)⟩ hK
        · have J1 : Hid (Below w.heap.size w W) := j1
          have J2 : Hid (Row W (w.heap.size + 1 + 1 + 1) 3 [.int .i64 (cycS t g (mz : Int))]) := j2
          have J3 : Hid (Row W (w.heap.size + 1 + 1 + 1 + 1) 3 [.int .i64 (cycP t g (mz : Int))]) := j3
          have J4 : Hid (Row W (w.heap.size + 1 + 1 + 1 + 1 + 1) 31 [.int .i64 (0)]) := j4
          have J5 : Hid (cycErr t g (mz : Int) = 0) := j5
          have HKD : Hid (W.heap[D]? = some (.deferred (some []))) := hK
          clear j1 j2 j3 j4 j5 hK
          gi_wp2
          have KP : KC W (W.putObj D (.deferred none)) := .putObj _ HKD.out rfl
          have d0 := (KP.row J2.out).cell 0
          have d1 := (KP.row J3.out).cell 0
          have d2 := (KP.row J4.out).cell 0
          simp only [List.getElem?_cons_zero, List.getElem?_cons_succ] at d0 d1 d2
          refine ⟨by simp, .inl ⟨_, _, rfl, run_takeDeferred HKD.out, ?_⟩⟩
          refine ⟨.tuple #[.int .i64 (cycS t g (mz : Int)), .int .i64 (cycP t g (mz : Int)), .int .i64 0], by simp [results, Try.results16, go_sem, d0, d1, d2], ?_⟩
          exact ⟨by rw [J5.out], belowSteps J1.out (Nat.le_refl _) (.putObj (G := w.heap.size) (B := w2.heap.size) _ hD HKD.out rfl) (Nat.le_refl _) B_w.out.size⟩
        · have J1 : Hid (Below w.heap.size w W) := j1
          have J2 : Hid (Row W (w.heap.size + 1 + 1 + 1) 3 [.int .i64 (0)]) := j2
          have J3 : Hid (Row W (w.heap.size + 1 + 1 + 1 + 1) 3 [.int .i64 (0)]) := j3
          have J4 : Hid (Row W (w.heap.size + 1 + 1 + 1 + 1 + 1) 31 [.int .i64 (0)]) := j4
          have J5 : Hid (cycErr t g (mz : Int) = 14) := j5
          have HKD : Hid (W.heap[D]? = some (.deferred (some []))) := hK
          clear j1 j2 j3 j4 j5 hK
          have s0 := J2.out.cell 0
          have p0 := J3.out.cell 0
          have e0 := J4.out.cell 0
          simp only [List.getElem?_cons_zero] at s0 p0 e0
          have sf := J2.out.frozen 0
          have pf := J3.out.frozen 0
          have ef := J4.out.frozen 0
          gi_wp2
          have HKD9 : Hid (((World.setCell (World.setCell (World.setCell W ⟨w.heap.size + 1 + 1 + 1, 0, none⟩ (.int .i64 (0))) ⟨w.heap.size + 1 + 1 + 1 + 1, 0, none⟩ (.int .i64 (0))) ⟨w.heap.size + 1 + 1 + 1 + 1 + 1, 0, none⟩ (.int .i64 (14)))).heap[D]? = some (.deferred (some []))) := (((KeepsOthers.setCell _ _ _).trans (.setCell _ _ _)).trans (.setCell _ _ _)).same D _ HKD.out rfl
          have Z1 : Hid (Row (World.setCell (World.setCell (World.setCell W ⟨w.heap.size + 1 + 1 + 1, 0, none⟩ (.int .i64 (0))) ⟨w.heap.size + 1 + 1 + 1 + 1, 0, none⟩ (.int .i64 (0))) ⟨w.heap.size + 1 + 1 + 1 + 1 + 1, 0, none⟩ (.int .i64 (14))) (w.heap.size + 1 + 1 + 1) 3 [.int .i64 (0)]) := (Row.far (Row.far (Row.set J2.out 0 (.int .i64 (0))) (p := ⟨w.heap.size + 1 + 1 + 1 + 1, 0, none⟩) (by show _ ≠ w.heap.size + 1 + 1 + 1 + 1; omega) (.int .i64 (0))) (p := ⟨w.heap.size + 1 + 1 + 1 + 1 + 1, 0, none⟩) (by show _ ≠ w.heap.size + 1 + 1 + 1 + 1 + 1; omega) (.int .i64 (14)))
          have Z2 : Hid (Row (World.setCell (World.setCell (World.setCell W ⟨w.heap.size + 1 + 1 + 1, 0, none⟩ (.int .i64 (0))) ⟨w.heap.size + 1 + 1 + 1 + 1, 0, none⟩ (.int .i64 (0))) ⟨w.heap.size + 1 + 1 + 1 + 1 + 1, 0, none⟩ (.int .i64 (14))) (w.heap.size + 1 + 1 + 1 + 1) 3 [.int .i64 (0)]) := (Row.far (Row.set (Row.far J3.out (p := ⟨w.heap.size + 1 + 1 + 1, 0, none⟩) (by show _ ≠ w.heap.size + 1 + 1 + 1; omega) (.int .i64 (0))) 0 (.int .i64 (0))) (p := ⟨w.heap.size + 1 + 1 + 1 + 1 + 1, 0, none⟩) (by show _ ≠ w.heap.size + 1 + 1 + 1 + 1 + 1; omega) (.int .i64 (14)))
          have Z3 : Hid (Row (World.setCell (World.setCell (World.setCell W ⟨w.heap.size + 1 + 1 + 1, 0, none⟩ (.int .i64 (0))) ⟨w.heap.size + 1 + 1 + 1 + 1, 0, none⟩ (.int .i64 (0))) ⟨w.heap.size + 1 + 1 + 1 + 1 + 1, 0, none⟩ (.int .i64 (14))) (w.heap.size + 1 + 1 + 1 + 1 + 1) 31 [.int .i64 (14)]) := (Row.set (Row.far (Row.far J4.out (p := ⟨w.heap.size + 1 + 1 + 1, 0, none⟩) (by show _ ≠ w.heap.size + 1 + 1 + 1; omega) (.int .i64 (0))) (p := ⟨w.heap.size + 1 + 1 + 1 + 1, 0, none⟩) (by show _ ≠ w.heap.size + 1 + 1 + 1 + 1; omega) (.int .i64 (0))) 0 (.int .i64 (14)))
          have Z4 : Hid (Below w.heap.size w (World.setCell (World.setCell (World.setCell W ⟨w.heap.size + 1 + 1 + 1, 0, none⟩ (.int .i64 (0))) ⟨w.heap.size + 1 + 1 + 1 + 1, 0, none⟩ (.int .i64 (0))) ⟨w.heap.size + 1 + 1 + 1 + 1 + 1, 0, none⟩ (.int .i64 (14)))) := (Below.setCell (Below.setCell (Below.setCell J1.out (p := ⟨w.heap.size + 1 + 1 + 1, 0, none⟩) (by show _ ≤ w.heap.size + 1 + 1 + 1; omega) (.int .i64 (0))) (p := ⟨w.heap.size + 1 + 1 + 1 + 1, 0, none⟩) (by show _ ≤ w.heap.size + 1 + 1 + 1 + 1; omega) (.int .i64 (0))) (p := ⟨w.heap.size + 1 + 1 + 1 + 1 + 1, 0, none⟩) (by show _ ≤ w.heap.size + 1 + 1 + 1 + 1 + 1; omega) (.int .i64 (14)))
          clear s0 p0 e0 sf pf ef
          revert HKD9 Z1 Z2 Z3 Z4
          generalize (World.setCell (World.setCell (World.setCell W ⟨w.heap.size + 1 + 1 + 1, 0, none⟩ (.int .i64 (0))) ⟨w.heap.size + 1 + 1 + 1 + 1, 0, none⟩ (.int .i64 (0))) ⟨w.heap.size + 1 + 1 + 1 + 1 + 1, 0, none⟩ (.int .i64 (14))) = W9
          intro HKD9 Z1 Z2 Z3 Z4
          have KP : KC W9 (W9.putObj D (.deferred none)) := .putObj _ HKD9.out rfl
          have d0 := (KP.row Z1.out).cell 0
          have d1 := (KP.row Z2.out).cell 0
          have d2 := (KP.row Z3.out).cell 0
          simp only [List.getElem?_cons_zero, List.getElem?_cons_succ] at d0 d1 d2
          refine ⟨by simp, .inl ⟨_, _, rfl, run_takeDeferred HKD9.out, ?_⟩⟩
          refine ⟨.tuple #[.int .i64 0, .int .i64 0, .int .i64 14], by simp [results, Try.results16, go_sem, d0, d1, d2], ?_⟩
          exact ⟨by rw [(cyc_err J5.out (by decide)).1, (cyc_err J5.out (by decide)).2, J5.out], belowSteps Z4.out (Nat.le_refl _) (.putObj (G := w.heap.size) (B := w2.heap.size) _ hD HKD9.out rfl) (Nat.le_refl _) B_w.out.size⟩
    · have HER : Hid (∀ _ : Unit, cycErr t g z = 2) := fun _ => cyc_out (HFE.out ()) hz
      clear HFE
      have nR : Hid (Row w1 (w.heap.size + 1 + 1) 3 [.int .i64 z]) := (rowCells RN.out B_wa.out)
      have n0 := nR.out.cell 0
      have nl := nR.out.lt
      simp only [List.getElem?_cons_zero, List.getElem?_cons_succ] at n0
      clear nR
      by_cases hz0 : z < 0
      · clear hz
        have RSc := (show Row _ _ _ _ from (rowCells RS.out B_wa.out)).cell 0
        have RSf := (show Row _ _ _ _ from (rowCells RS.out B_wa.out)).frozen 0
        have RPc := (show Row _ _ _ _ from (rowCells RP.out B_wa.out)).cell 0
        have RPf := (show Row _ _ _ _ from (rowCells RP.out B_wa.out)).frozen 0
        have REc := (show Row _ _ _ _ from (rowCells RE.out B_wa.out)).cell 0
        have REf := (show Row _ _ _ _ from (rowCells RE.out B_wa.out)).frozen 0
        simp only [List.getElem?_cons_zero] at RSc RPc REc
        gi_wp2
        have RS9 : Row (World.setCell (World.setCell (World.setCell w1 ⟨w.heap.size + 1 + 1 + 1, 0, none⟩ (.int .i64 (0))) ⟨w.heap.size + 1 + 1 + 1 + 1, 0, none⟩ (.int .i64 (0))) ⟨w.heap.size + 1 + 1 + 1 + 1 + 1, 0, none⟩ (.int .i64 (2))) (w.heap.size + 1 + 1 + 1) 3 [.int .i64 (0)] := (Row.far (Row.far (Row.set (rowCells RS.out B_wa.out) 0 (.int .i64 (0))) (p := ⟨w.heap.size + 1 + 1 + 1 + 1, 0, none⟩) (by show _ ≠ w.heap.size + 1 + 1 + 1 + 1; omega) (.int .i64 (0))) (p := ⟨w.heap.size + 1 + 1 + 1 + 1 + 1, 0, none⟩) (by show _ ≠ w.heap.size + 1 + 1 + 1 + 1 + 1; omega) (.int .i64 (2)))
        have RP9 : Row (World.setCell (World.setCell (World.setCell w1 ⟨w.heap.size + 1 + 1 + 1, 0, none⟩ (.int .i64 (0))) ⟨w.heap.size + 1 + 1 + 1 + 1, 0, none⟩ (.int .i64 (0))) ⟨w.heap.size + 1 + 1 + 1 + 1 + 1, 0, none⟩ (.int .i64 (2))) (w.heap.size + 1 + 1 + 1 + 1) 3 [.int .i64 (0)] := (Row.far (Row.set (Row.far (rowCells RP.out B_wa.out) (p := ⟨w.heap.size + 1 + 1 + 1, 0, none⟩) (by show _ ≠ w.heap.size + 1 + 1 + 1; omega) (.int .i64 (0))) 0 (.int .i64 (0))) (p := ⟨w.heap.size + 1 + 1 + 1 + 1 + 1, 0, none⟩) (by show _ ≠ w.heap.size + 1 + 1 + 1 + 1 + 1; omega) (.int .i64 (2)))
        have RE9 : Row (World.setCell (World.setCell (World.setCell w1 ⟨w.heap.size + 1 + 1 + 1, 0, none⟩ (.int .i64 (0))) ⟨w.heap.size + 1 + 1 + 1 + 1, 0, none⟩ (.int .i64 (0))) ⟨w.heap.size + 1 + 1 + 1 + 1 + 1, 0, none⟩ (.int .i64 (2))) (w.heap.size + 1 + 1 + 1 + 1 + 1) 31 [.int .i64 (2)] := (Row.set (Row.far (Row.far (rowCells RE.out B_wa.out) (p := ⟨w.heap.size + 1 + 1 + 1, 0, none⟩) (by show _ ≠ w.heap.size + 1 + 1 + 1; omega) (.int .i64 (0))) (p := ⟨w.heap.size + 1 + 1 + 1 + 1, 0, none⟩) (by show _ ≠ w.heap.size + 1 + 1 + 1 + 1; omega) (.int .i64 (0))) 0 (.int .i64 (2)))
        have B9 : Hid (Below w.heap.size w (World.setCell (World.setCell (World.setCell w1 ⟨w.heap.size + 1 + 1 + 1, 0, none⟩ (.int .i64 (0))) ⟨w.heap.size + 1 + 1 + 1 + 1, 0, none⟩ (.int .i64 (0))) ⟨w.heap.size + 1 + 1 + 1 + 1 + 1, 0, none⟩ (.int .i64 (2)))) := (Below.setCell (Below.setCell (Below.setCell B_w.out (p := ⟨w.heap.size + 1 + 1 + 1, 0, none⟩) (by show _ ≤ w.heap.size + 1 + 1 + 1; omega) (.int .i64 (0))) (p := ⟨w.heap.size + 1 + 1 + 1 + 1, 0, none⟩) (by show _ ≤ w.heap.size + 1 + 1 + 1 + 1; omega) (.int .i64 (0))) (p := ⟨w.heap.size + 1 + 1 + 1 + 1 + 1, 0, none⟩) (by show _ ≤ w.heap.size + 1 + 1 + 1 + 1 + 1; omega) (.int .i64 (2)))
        have d0 := RS9.cell 0
        have d1 := RP9.cell 0
        have d2 := RE9.cell 0
        simp only [List.getElem?_cons_zero] at d0 d1 d2
        clear RS9 RP9 RE9
        refine ⟨.tuple #[.int .i64 (0), .int .i64 (0), .int .i64 (2)], by simp [results, Try.results16, go_sem, d0, d1, d2], ?_⟩
        exact ⟨by rw [(cyc_err (HER.out ()) (by decide)).1, (cyc_err (HER.out ()) (by decide)).2, HER.out ()], B9.out⟩
      · have hz1 : z > 10000 := by omega
        clear hz
        have RSc := (show Row _ _ _ _ from (rowCells RS.out B_wa.out)).cell 0
        have RSf := (show Row _ _ _ _ from (rowCells RS.out B_wa.out)).frozen 0
        have RPc := (show Row _ _ _ _ from (rowCells RP.out B_wa.out)).cell 0
        have RPf := (show Row _ _ _ _ from (rowCells RP.out B_wa.out)).frozen 0
        have REc := (show Row _ _ _ _ from (rowCells RE.out B_wa.out)).cell 0
        have REf := (show Row _ _ _ _ from (rowCells RE.out B_wa.out)).frozen 0
        simp only [List.getElem?_cons_zero] at RSc RPc REc
        gi_wp2
        have RS9 : Row (World.setCell (World.setCell (World.setCell w1 ⟨w.heap.size + 1 + 1 + 1, 0, none⟩ (.int .i64 (0))) ⟨w.heap.size + 1 + 1 + 1 + 1, 0, none⟩ (.int .i64 (0))) ⟨w.heap.size + 1 + 1 + 1 + 1 + 1, 0, none⟩ (.int .i64 (2))) (w.heap.size + 1 + 1 + 1) 3 [.int .i64 (0)] := (Row.far (Row.far (Row.set (rowCells RS.out B_wa.out) 0 (.int .i64 (0))) (p := ⟨w.heap.size + 1 + 1 + 1 + 1, 0, none⟩) (by show _ ≠ w.heap.size + 1 + 1 + 1 + 1; omega) (.int .i64 (0))) (p := ⟨w.heap.size + 1 + 1 + 1 + 1 + 1, 0, none⟩) (by show _ ≠ w.heap.size + 1 + 1 + 1 + 1 + 1; omega) (.int .i64 (2)))
        have RP9 : Row (World.setCell (World.setCell (World.setCell w1 ⟨w.heap.size + 1 + 1 + 1, 0, none⟩ (.int .i64 (0))) ⟨w.heap.size + 1 + 1 + 1 + 1, 0, none⟩ (.int .i64 (0))) ⟨w.heap.size + 1 + 1 + 1 + 1 + 1, 0, none⟩ (.int .i64 (2))) (w.heap.size + 1 + 1 + 1 + 1) 3 [.int .i64 (0)] := (Row.far (Row.set (Row.far (rowCells RP.out B_wa.out) (p := ⟨w.heap.size + 1 + 1 + 1, 0, none⟩) (by show _ ≠ w.heap.size + 1 + 1 + 1; omega) (.int .i64 (0))) 0 (.int .i64 (0))) (p := ⟨w.heap.size + 1 + 1 + 1 + 1 + 1, 0, none⟩) (by show _ ≠ w.heap.size + 1 + 1 + 1 + 1 + 1; omega) (.int .i64 (2)))
        have RE9 : Row (World.setCell (World.setCell (World.setCell w1 ⟨w.heap.size + 1 + 1 + 1, 0, none⟩ (.int .i64 (0))) ⟨w.heap.size + 1 + 1 + 1 + 1, 0, none⟩ (.int .i64 (0))) ⟨w.heap.size + 1 + 1 + 1 + 1 + 1, 0, none⟩ (.int .i64 (2))) (w.heap.size + 1 + 1 + 1 + 1 + 1) 31 [.int .i64 (2)] := (Row.set (Row.far (Row.far (rowCells RE.out B_wa.out) (p := ⟨w.heap.size + 1 + 1 + 1, 0, none⟩) (by show _ ≠ w.heap.size + 1 + 1 + 1; omega) (.int .i64 (0))) (p := ⟨w.heap.size + 1 + 1 + 1 + 1, 0, none⟩) (by show _ ≠ w.heap.size + 1 + 1 + 1 + 1; omega) (.int .i64 (0))) 0 (.int .i64 (2)))
        have B9 : Hid (Below w.heap.size w (World.setCell (World.setCell (World.setCell w1 ⟨w.heap.size + 1 + 1 + 1, 0, none⟩ (.int .i64 (0))) ⟨w.heap.size + 1 + 1 + 1 + 1, 0, none⟩ (.int .i64 (0))) ⟨w.heap.size + 1 + 1 + 1 + 1 + 1, 0, none⟩ (.int .i64 (2)))) := (Below.setCell (Below.setCell (Below.setCell B_w.out (p := ⟨w.heap.size + 1 + 1 + 1, 0, none⟩) (by show _ ≤ w.heap.size + 1 + 1 + 1; omega) (.int .i64 (0))) (p := ⟨w.heap.size + 1 + 1 + 1 + 1, 0, none⟩) (by show _ ≤ w.heap.size + 1 + 1 + 1 + 1; omega) (.int .i64 (0))) (p := ⟨w.heap.size + 1 + 1 + 1 + 1 + 1, 0, none⟩) (by show _ ≤ w.heap.size + 1 + 1 + 1 + 1 + 1; omega) (.int .i64 (2)))
        have d0 := RS9.cell 0
        have d1 := RP9.cell 0
        have d2 := RE9.cell 0
        simp only [List.getElem?_cons_zero] at d0 d1 d2
        clear RS9 RP9 RE9
        refine ⟨.tuple #[.int .i64 (0), .int .i64 (0), .int .i64 (2)], by simp [results, Try.results16, go_sem, d0, d1, d2], ?_⟩
        exact ⟨by rw [(cyc_err (HER.out ()) (by decide)).1, (cyc_err (HER.out ()) (by decide)).2, HER.out ()], B9.out⟩
  · have HER : Hid (∀ _ : Unit, cycErr t g z = fe ∧ fe ≠ 0) := fun _ => ⟨by rw [← HFE.out ()]; exact cyc_fits z (by rw [HFE.out ()]; exact hf), hf⟩
    clear HFE
    have RSc := (show Row _ _ _ _ from (rowCells RS.out B_wa.out)).cell 0
    have RSf := (show Row _ _ _ _ from (rowCells RS.out B_wa.out)).frozen 0
    have RPc := (show Row _ _ _ _ from (rowCells RP.out B_wa.out)).cell 0
    have RPf := (show Row _ _ _ _ from (rowCells RP.out B_wa.out)).frozen 0
    have REc := (show Row _ _ _ _ from (rowCells RE.out B_wa.out)).cell 0
    have REf := (show Row _ _ _ _ from (rowCells RE.out B_wa.out)).frozen 0
    simp only [List.getElem?_cons_zero] at RSc RPc REc
    gi_wp2
    have RS9 : Row (World.setCell (World.setCell (World.setCell w1 ⟨w.heap.size + 1 + 1 + 1, 0, none⟩ (.int .i64 (0))) ⟨w.heap.size + 1 + 1 + 1 + 1, 0, none⟩ (.int .i64 (0))) ⟨w.heap.size + 1 + 1 + 1 + 1 + 1, 0, none⟩ (.int .i64 (fe))) (w.heap.size + 1 + 1 + 1) 3 [.int .i64 (0)] := (Row.far (Row.far (Row.set (rowCells RS.out B_wa.out) 0 (.int .i64 (0))) (p := ⟨w.heap.size + 1 + 1 + 1 + 1, 0, none⟩) (by show _ ≠ w.heap.size + 1 + 1 + 1 + 1; omega) (.int .i64 (0))) (p := ⟨w.heap.size + 1 + 1 + 1 + 1 + 1, 0, none⟩) (by show _ ≠ w.heap.size + 1 + 1 + 1 + 1 + 1; omega) (.int .i64 (fe)))
    have RP9 : Row (World.setCell (World.setCell (World.setCell w1 ⟨w.heap.size + 1 + 1 + 1, 0, none⟩ (.int .i64 (0))) ⟨w.heap.size + 1 + 1 + 1 + 1, 0, none⟩ (.int .i64 (0))) ⟨w.heap.size + 1 + 1 + 1 + 1 + 1, 0, none⟩ (.int .i64 (fe))) (w.heap.size + 1 + 1 + 1 + 1) 3 [.int .i64 (0)] := (Row.far (Row.set (Row.far (rowCells RP.out B_wa.out) (p := ⟨w.heap.size + 1 + 1 + 1, 0, none⟩) (by show _ ≠ w.heap.size + 1 + 1 + 1; omega) (.int .i64 (0))) 0 (.int .i64 (0))) (p := ⟨w.heap.size + 1 + 1 + 1 + 1 + 1, 0, none⟩) (by show _ ≠ w.heap.size + 1 + 1 + 1 + 1 + 1; omega) (.int .i64 (fe)))
    have RE9 : Row (World.setCell (World.setCell (World.setCell w1 ⟨w.heap.size + 1 + 1 + 1, 0, none⟩ (.int .i64 (0))) ⟨w.heap.size + 1 + 1 + 1 + 1, 0, none⟩ (.int .i64 (0))) ⟨w.heap.size + 1 + 1 + 1 + 1 + 1, 0, none⟩ (.int .i64 (fe))) (w.heap.size + 1 + 1 + 1 + 1 + 1) 31 [.int .i64 (fe)] := (Row.set (Row.far (Row.far (rowCells RE.out B_wa.out) (p := ⟨w.heap.size + 1 + 1 + 1, 0, none⟩) (by show _ ≠ w.heap.size + 1 + 1 + 1; omega) (.int .i64 (0))) (p := ⟨w.heap.size + 1 + 1 + 1 + 1, 0, none⟩) (by show _ ≠ w.heap.size + 1 + 1 + 1 + 1; omega) (.int .i64 (0))) 0 (.int .i64 (fe)))
    have B9 : Hid (Below w.heap.size w (World.setCell (World.setCell (World.setCell w1 ⟨w.heap.size + 1 + 1 + 1, 0, none⟩ (.int .i64 (0))) ⟨w.heap.size + 1 + 1 + 1 + 1, 0, none⟩ (.int .i64 (0))) ⟨w.heap.size + 1 + 1 + 1 + 1 + 1, 0, none⟩ (.int .i64 (fe)))) := (Below.setCell (Below.setCell (Below.setCell B_w.out (p := ⟨w.heap.size + 1 + 1 + 1, 0, none⟩) (by show _ ≤ w.heap.size + 1 + 1 + 1; omega) (.int .i64 (0))) (p := ⟨w.heap.size + 1 + 1 + 1 + 1, 0, none⟩) (by show _ ≤ w.heap.size + 1 + 1 + 1 + 1; omega) (.int .i64 (0))) (p := ⟨w.heap.size + 1 + 1 + 1 + 1 + 1, 0, none⟩) (by show _ ≤ w.heap.size + 1 + 1 + 1 + 1 + 1; omega) (.int .i64 (fe)))
    have d0 := RS9.cell 0
    have d1 := RP9.cell 0
    have d2 := RE9.cell 0
    simp only [List.getElem?_cons_zero] at d0 d1 d2
    clear RS9 RP9 RE9
    refine ⟨.tuple #[.int .i64 (0), .int .i64 (0), .int .i64 (fe)], by simp [results, Try.results16, go_sem, d0, d1, d2], ?_⟩
    exact ⟨by rw [(cyc_err (HER.out ()).1 (HER.out ()).2).1, (cyc_err (HER.out ()).1 (HER.out ()).2).2, (HER.out ()).1], B9.out⟩
theorem gCyc_any (t : Tre) (g : Grd) (z : Int) (HA NA A : Option Addr) (hn hc nn nc n ac : Nat) (sl : List Sl) (w : World) (ht : TAt w t HA NA hn nn sl) (hg : GAt w g A n) :
    Calls Try.prog 16 #[.agg #[.int .i64 t.states, .slice HA hn hc, .slice NA nn nc], .agg #[.int .i64 g.w, .int .i64 g.h, .int .i64 g.edge, .slice A n ac], .int .i64 z] w (fun e w' => e = .returned (.tuple #[.int .i64 (cycS t g z), .int .i64 (cycP t g z), .int .i64 (cycErr t g z)]) ∧ Below w.heap.size w w') :=
  (callsIn_wide (n := 3)).1 (gCycIn_any t g z HA NA A hn hc nn nc n ac sl w ht hg)
end Go.Proofs.Ytdkfaphclhaiaaa
