/-
  encode.Place, walked.
-/
import Derived.Test.YtofflkfkakddkaaEShare
import Derived.Test.YtofflkfkakddkaaEClauses
import Derived.Test.YtofflkfkakddkaaCRunG
import Derived.Test.YtofflkfkakddkaaRegL
import Derived.StillTailTactics
import Derived.Test.YtofflkfkakddkaaEClone
import Derived.Test.YtofflkfkakddkaaECAt
namespace Go.Proofs.Ytofflkfkakddkaa
open Go.RowKit
set_option linter.unusedSimpArgs false
set_option linter.unusedVariables false
/-- What a call returns that returns a formula, a list of variables and an error. -/
def PlacePost (b0 : Nat) (r : Fml) (os : List Int) (k : Int) (w : World) (e : Ending) (w' : World) : Prop :=
  ∃ (A : Option Addr) (n c : Nat) (sl : List Sl) (OA : Option Addr) (on oc : Nat), e = .returned (.tuple #[.agg #[.int .i64 r.vars, .slice A n c], .slice OA on oc, .int .i64 k]) ∧ (r.cls.length = n ∧ n ≤ maxLen) ∧ EOwn w' b0 w.heap.size (.slice A n c) sl r.cls ∧
    w'.ownsRow w.heap.size 3 1 (.slice OA on oc) on (ints os) ∧ on ≤ maxLen ∧ Below w.heap.size w w'
theorem placePost_err {b0 : Nat} {r : Fml} {os : List Int} {k k' : Int} {w w' : World} (hr : r = noFml) (ho : os = []) (hk : k' = k) (hb : Below w.heap.size w w') : PlacePost b0 r os k' w (.returned (.tuple #[.agg #[.int .i64 0, .slice none 0 0], .slice none 0 0, .int .i64 k])) w' := by
  subst hr ho hk
  exact ⟨none, 0, 0, [], none, 0, 0, rfl, ⟨rfl, by unfold maxLen; omega⟩, EOwn.nil _ _ _, World.ownsRow_nil _ _ _ _, by unfold maxLen; omega, hb⟩
theorem grown_below {w w' : World} (h : w.grownBy w' none) : Below w.heap.size w w' := ⟨h.os, h.tape, h.output, h.size, fun k hk => h.block k hk (by simp)⟩
theorem placeGood {f : Fml} {c : Circ} {ins : List Int} (h : placeOk f c ins = true) (h2 : fitsErr (placeF f c ins) = 0) : placeR f c ins = placeF f c ins ∧ placeOuts f c ins = placeO f c ins ∧ placeErr f c ins = 0 := by
  have h3 : placeErr f c ins = 0 := by unfold placeErr; rw [if_pos h]; exact h2
  exact ⟨by unfold placeR; rw [if_pos h3], by unfold placeOuts; rw [if_pos h3], h3⟩
theorem placeBig {f : Fml} {c : Circ} {ins : List Int} (h : placeOk f c ins = true) (h2 : fitsErr (placeF f c ins) = 6) : placeR f c ins = noFml ∧ placeOuts f c ins = [] ∧ placeErr f c ins = 6 := by
  have h3 : placeErr f c ins = 6 := by unfold placeErr; rw [if_pos h]; exact h2
  exact ⟨by unfold placeR; rw [h3]; rfl, by unfold placeOuts; rw [h3]; rfl, h3⟩
theorem placeBad {f : Fml} {c : Circ} {ins : List Int} (h : placeOk f c ins = false) : placeR f c ins = noFml ∧ placeOuts f c ins = [] ∧ placeErr f c ins = 2 := by
  have h2 : placeErr f c ins = 2 := by unfold placeErr; rw [h]; rfl
  exact ⟨by unfold placeR; rw [h2]; rfl, by unfold placeOuts; rw [h2]; rfl, h2⟩
/-- The variables of the wires while they are filled in. -/
def varsAt (nv : Int) (ins : List Int) (n k : Nat) : List Int := wiresV nv ins k ++ List.replicate (n - k) 0
theorem varsAt_length (nv : Int) (ins : List Int) (n k : Nat) (h : k ≤ n) : (varsAt nv ins n k).length = ins.length + n := by
  simp [varsAt, wiresV_length]; omega
theorem varsAt_zero (nv : Int) (ins : List Int) (n : Nat) : varsAt nv ins n 0 = ins ++ List.replicate n 0 := by simp [varsAt, wiresV_zero]
theorem varsAt_set (nv : Int) (ins : List Int) (n k : Nat) (h : k < n) : (varsAt nv ins n k).set (ins.length + k) (nv + k + 1) = varsAt nv ins n (k + 1) := by
  unfold varsAt
  rw [List.set_append_right _ _ (by rw [wiresV_length]; omega), wiresV_length, Nat.sub_self, wiresV_succ, List.append_assoc]
  congr 1
  obtain ⟨m, hm⟩ : ∃ m, n - k = m + 1 := ⟨n - k - 1, by omega⟩
  rw [hm, show n - (k + 1) = m by omega, List.replicate_succ]; rfl
theorem varsAt_get (nv : Int) (ins : List Int) (n k w : Nat) (h : w < ins.length + k) : (varsAt nv ins n k).getD w 0 = (wiresV nv ins k).getD w 0 := by
  unfold varsAt
  rw [List.getD_eq_getElem?_getD, List.getElem?_append_left (by rw [wiresV_length]; exact h), ← List.getD_eq_getElem?_getD]
theorem varsAt_all (nv : Int) (ins : List Int) (n : Nat) : varsAt nv ins n n = wiresV nv ins n := by simp [varsAt]

set_option maxRecDepth 100000 in
set_option maxHeartbeats 10000000 in
theorem ePlace_any (f : Fml) (c : Circ) (ins : List Int) (FA GA OA IA : Option Addr) (fn fc gn gc on oc k ic : Nat) (sl : List Sl) (w : World)
    (hf : FAt w f FA fn sl) (hc : CAt w c GA OA gn on) (hi : Rd w w.heap.size 1 IA k (ints ins)) (hk : k ≤ maxLen)
    (b0 : Nat) (hb0 : b0 ≤ w.heap.size) (hin : ∀ i, i < f.cls.length → Rd w b0 1 (sl.getD i default).at_ (sl.getD i default).len (ints (f.cls.getD i [])) ∧ (sl.getD i default).len ≤ maxLen) :
    Calls Try.prog 14 #[.agg #[.int .i64 f.vars, .slice FA fn fc], .agg #[.int .i64 c.inputs, .slice GA gn gc, .slice OA on oc], .slice IA k ic] w (PlacePost b0 (placeR f c ins) (placeOuts f c ins) (placeErr f c ins) w) := by
  have HF : Hid (FAt w f FA fn sl) := hf
  have HC : Hid (CAt w c GA OA gn on) := hc
  have HI : Hid (Rd w w.heap.size 1 IA k (ints ins)) := hi
  have HIN : Hid (∀ i, i < f.cls.length → Rd w b0 1 (sl.getD i default).at_ (sl.getD i default).len (ints (f.cls.getD i [])) ∧ (sl.getD i default).len ≤ maxLen) := hin
  clear hin
  have HLI : Hid (ins.length = k) := by have := hi.1; rw [ints_length, Nat.mul_one] at this; exact this
  have HLG : Hid (c.gates.length = gn) := hc.gl
  have HKM : Hid (k ≤ maxLen) := hk
  have hm1 := hc.g63
  have hm2 := hc.o63
  have hm3 := hf.n63
  unfold maxLen at hk hm1 hm2 hm3
  have HFL : Hid (f.cls.length = fn) := hf.wl
  clear hf hc hi
  go_enter Try.func14, Try.ntmps14
  go_wp2_with fail
  have RF : Hid (Row (World.alloc (World.alloc (World.alloc w (.cells #[.int .i64 f.vars, .slice FA fn fc] 30)) (.cells #[.int .i64 c.inputs, .slice GA gn gc, .slice OA on oc] 25)) (.cells #[.int .i64 0, .slice none 0 0] 30)) (w.heap.size) 30 [.int .i64 f.vars, .slice FA fn fc]) := by
    have h0 := Row.new w 30 [.int .i64 f.vars, .slice FA fn fc]
    try simp only [World.size_alloc] at h0
    exact ((h0.alloc _).alloc _)
  have RC : Hid (Row (World.alloc (World.alloc (World.alloc w (.cells #[.int .i64 f.vars, .slice FA fn fc] 30)) (.cells #[.int .i64 c.inputs, .slice GA gn gc, .slice OA on oc] 25)) (.cells #[.int .i64 0, .slice none 0 0] 30)) (w.heap.size + 1) 25 [.int .i64 c.inputs, .slice GA gn gc, .slice OA on oc]) := by
    have h0 := Row.new (World.alloc w (.cells #[.int .i64 f.vars, .slice FA fn fc] 30)) 25 [.int .i64 c.inputs, .slice GA gn gc, .slice OA on oc]
    try simp only [World.size_alloc] at h0
    exact (h0.alloc _)
  have RZ : Hid (Row (World.alloc (World.alloc (World.alloc w (.cells #[.int .i64 f.vars, .slice FA fn fc] 30)) (.cells #[.int .i64 c.inputs, .slice GA gn gc, .slice OA on oc] 25)) (.cells #[.int .i64 0, .slice none 0 0] 30)) (w.heap.size + 1 + 1) 30 [.int .i64 0, .slice none 0 0]) := by
    have h0 := Row.new (World.alloc (World.alloc w (.cells #[.int .i64 f.vars, .slice FA fn fc] 30)) (.cells #[.int .i64 c.inputs, .slice GA gn gc, .slice OA on oc] 25)) 30 [.int .i64 0, .slice none 0 0]
    try simp only [World.size_alloc] at h0
    exact h0
  have hgr9 : Below w.heap.size w (World.alloc (World.alloc (World.alloc w (.cells #[.int .i64 f.vars, .slice FA fn fc] 30)) (.cells #[.int .i64 c.inputs, .slice GA gn gc, .slice OA on oc] 25)) (.cells #[.int .i64 0, .slice none 0 0] 30)) := by go_grown
  have B_w : Hid (Below w.heap.size w (World.alloc (World.alloc (World.alloc w (.cells #[.int .i64 f.vars, .slice FA fn fc] 30)) (.cells #[.int .i64 c.inputs, .slice GA gn gc, .slice OA on oc] 25)) (.cells #[.int .i64 0, .slice none 0 0] 30))) := hgr9
  clear hgr9
  revert RF RC RZ B_w
  generalize (World.alloc (World.alloc (World.alloc w (.cells #[.int .i64 f.vars, .slice FA fn fc] 30)) (.cells #[.int .i64 c.inputs, .slice GA gn gc, .slice OA on oc] 25)) (.cells #[.int .i64 0, .slice none 0 0] 30)) = wa
  intro RF RC RZ B_w
  refine (fRight_any f FA fn fc sl wa (HF.out.up B_w.out)).mono ?_
  rintro e w1 ⟨rfl, hb⟩
  have B_w : Hid (Below w.heap.size w w1) := below_on2 B_w.out hb
  have B_wa : Hid (Below wa.heap.size wa w1) := hb
  clear hb
  cases hr1 : rightF f
  · have HCE : Hid (placeR f c ins = noFml ∧ placeOuts f c ins = [] ∧ placeErr f c ins = 2) := placeBad (by unfold placeOk; rw [hr1]; rfl)
    clear hr1
    have RZb : Hid (Row w1 (w.heap.size + 1 + 1) 30 [.int .i64 0, .slice none 0 0]) := (rowCells RZ.out B_wa.out)
    have d0 := RZb.out.cell 0
    have d1 := RZb.out.cell 1
    have dl := RZb.out.lt
    simp only [List.getElem?_cons_zero, List.getElem?_cons_succ] at d0 d1
    have df0 := RZb.out.frozen 0
    have df1 := RZb.out.frozen 1
    have BB := B_w.out
    go_wp2
    exact bodyPost_ret (v := .tuple #[.agg #[.int .i64 0, .slice none 0 0], .slice none 0 0, .int .i64 2]) (by simp [results, Try.results14, go_sem, d0, d1]) rfl (placePost_err HCE.out.1 HCE.out.2.1 HCE.out.2.2 (by go_grown))
  have kR : Hid (Row w1 (w.heap.size + 1) 25 [.int .i64 c.inputs, .slice GA gn gc, .slice OA on oc]) := (rowCells RC.out B_wa.out)
  have k0 := kR.out.cell 0
  have k1 := kR.out.cell 1
  have k2 := kR.out.cell 2
  have kl := kR.out.lt
  simp only [List.getElem?_cons_zero, List.getElem?_cons_succ] at k0 k1 k2
  clear kR
  go_wp2_with fail
  refine (right_at c GA OA gn gc on oc w1 (HC.out.up B_w.out)).mono ?_
  rintro e w2 ⟨rfl, hb⟩
  have B_w : Hid (Below w.heap.size w w2) := below_on2 B_w.out hb
  have B_wa : Hid (Below wa.heap.size wa w2) := below_on2 B_wa.out hb
  have B_w1 : Hid (Below w1.heap.size w1 w2) := hb
  clear k0 k1 k2 kl
  clear hb
  cases hr2 : rightC c
  · have HCE : Hid (placeR f c ins = noFml ∧ placeOuts f c ins = [] ∧ placeErr f c ins = 2) := placeBad (by unfold placeOk; rw [hr2]; simp)
    clear hr1 hr2
    have RZb : Hid (Row w2 (w.heap.size + 1 + 1) 30 [.int .i64 0, .slice none 0 0]) := (rowCells RZ.out B_wa.out)
    have d0 := RZb.out.cell 0
    have d1 := RZb.out.cell 1
    have dl := RZb.out.lt
    simp only [List.getElem?_cons_zero, List.getElem?_cons_succ] at d0 d1
    have df0 := RZb.out.frozen 0
    have df1 := RZb.out.frozen 1
    have BB := B_w.out
    go_wp2
    exact bodyPost_ret (v := .tuple #[.agg #[.int .i64 0, .slice none 0 0], .slice none 0 0, .int .i64 2]) (by simp [results, Try.results14, go_sem, d0, d1]) rfl (placePost_err HCE.out.1 HCE.out.2.1 HCE.out.2.2 (by go_grown))
  by_cases hl : (k : Int) = c.inputs
  · have hne : ((k : Int) != c.inputs) = false := by simpa using hl
    have kR : Hid (Row w2 (w.heap.size) 30 [.int .i64 f.vars, .slice FA fn fc]) := (rowCells RF.out B_wa.out)
    have k0 := kR.out.cell 0
    have k1 := kR.out.cell 1
    have kl := kR.out.lt
    simp only [List.getElem?_cons_zero, List.getElem?_cons_succ] at k0 k1
    clear kR
    have qR : Hid (Row w2 (w.heap.size + 1) 25 [.int .i64 c.inputs, .slice GA gn gc, .slice OA on oc]) := (rowCells RC.out B_wa.out)
    have q0 := qR.out.cell 0
    have q1 := qR.out.cell 1
    have q2 := qR.out.cell 2
    have ql := qR.out.lt
    simp only [List.getElem?_cons_zero, List.getElem?_cons_succ] at q0 q1 q2
    clear qR
    have HR1 : Hid (rightF f = true) := hr1
    have HR2 : Hid (rightC c = true) := hr2
    have HKI : Hid ((k : Int) = c.inputs) := hl
    clear hr1 hr2 hl
    go_wp2_with fail
    refine (eVars_any f.vars (.slice FA fn fc) IA k ic ins w2 (HI.out.up B_w.out) HKM.out).mono ?_
    rintro e w3 ⟨rfl, hb⟩
    have B_w : Hid (Below w.heap.size w w3) := below_on2 B_w.out hb
    have B_wa : Hid (Below wa.heap.size wa w3) := below_on2 B_wa.out hb
    have B_w1 : Hid (Below w1.heap.size w1 w3) := below_on2 B_w1.out hb
    have B_w2 : Hid (Below w2.heap.size w2 w3) := hb
    clear k0 k1 kl q0 q1 q2 ql
    clear hb
    cases hr3 : varsOk f.vars ins
    · have HCE : Hid (placeR f c ins = noFml ∧ placeOuts f c ins = [] ∧ placeErr f c ins = 2) := placeBad (by unfold placeOk; rw [hr3]; simp)
      clear hr3
      have RZb : Hid (Row w3 (w.heap.size + 1 + 1) 30 [.int .i64 0, .slice none 0 0]) := (rowCells RZ.out B_wa.out)
      have d0 := RZb.out.cell 0
      have d1 := RZb.out.cell 1
      have dl := RZb.out.lt
      simp only [List.getElem?_cons_zero, List.getElem?_cons_succ] at d0 d1
      have df0 := RZb.out.frozen 0
      have df1 := RZb.out.frozen 1
      have BB := B_w.out
      go_wp2
      exact bodyPost_ret (v := .tuple #[.agg #[.int .i64 0, .slice none 0 0], .slice none 0 0, .int .i64 2]) (by simp [results, Try.results14, go_sem, d0, d1]) rfl (placePost_err HCE.out.1 HCE.out.2.1 HCE.out.2.2 (by go_grown))
    have HR3 : Hid (varsOk f.vars ins = true) := hr3
    clear hr3 hne
    obtain ⟨⟨p1, p2, p3, p4⟩, pg, po⟩ := rightC_parts HR2.out
    have HPG : Hid (∀ j, j < c.gates.length → gateOk (c.inputs + j) (c.gates.getD j default) = true) := pg
    have HPO : Hid (c.outs.all (outOk (c.inputs + c.gates.length)) = true) := po
    have hsz : sizesF f = true := by
      have := HR1.out
      unfold rightF at this
      exact (Bool.and_eq_true _ _ ▸ this).1
    obtain ⟨z1, z2, z3⟩ := sizes_parts hsz
    obtain ⟨nv, hnv⟩ : ∃ nv : Nat, f.vars = (nv : Int) := ⟨f.vars.toNat, by omega⟩
    have HNV : Hid (f.vars = (nv : Int)) := hnv
    rw [HLG.out] at p3
    rw [HFL.out] at z3
    have HON : Hid (c.outs.length = on) := HC.out.ol
    rw [HON.out] at p4
    have hkz := HKI.out
    have hk1 : k ≤ 1000 := by omega
    have hnv6 : nv ≤ 65536 := by omega
    rw [← HKI.out] at RC
    rw [hnv] at RF
    clear pg po hsz z1 z2 p1 p2 hkz hnv hk
    have hmk := fun W => make_like (P := Try.prog) Try.underlying23 int_infoE rfl gn (gn : Int) rfl (by omega) (by omega) W
    have kR : Hid (Row w3 (w.heap.size + 1) 25 [.int .i64 k, .slice GA gn gc, .slice OA on oc]) := (rowCells RC.out B_wa.out)
    have k0 := kR.out.cell 0
    have k1 := kR.out.cell 1
    have k2 := kR.out.cell 2
    have kl := kR.out.lt
    simp only [List.getElem?_cons_zero, List.getElem?_cons_succ] at k0 k1 k2
    clear kR
    go_wp2_with fail
    have RZZ : Hid (Row (World.alloc (World.alloc w3 (.cells (likeRow (Value.int .i64 0) gn) 3)) (.cells #[.slice IA k ic, .slice (some ⟨w3.heap.size, 0, none⟩) gn gn] 23)) w3.heap.size 3 (ints (List.replicate gn 0))) := by
      have e : ints (List.replicate gn 0) = List.replicate gn (Value.int .i64 0) := by simp [ints]
      rw [e]
      exact (Row.new w3 3 (List.replicate gn (Value.int .i64 0))).alloc _
    have RPR : Hid (Row (World.alloc (World.alloc w3 (.cells (likeRow (Value.int .i64 0) gn) 3)) (.cells #[.slice IA k ic, .slice (some ⟨w3.heap.size, 0, none⟩) gn gn] 23)) (w3.heap.size + 1) 23 [.slice IA k ic, .slice (some ⟨w3.heap.size, 0, none⟩) gn gn]) := rowNew1 w3 _ 23 [.slice IA k ic, .slice (some ⟨w3.heap.size, 0, none⟩) gn gn]
    have hgr9 : Below w3.heap.size w3 (World.alloc (World.alloc w3 (.cells (likeRow (Value.int .i64 0) gn) 3)) (.cells #[.slice IA k ic, .slice (some ⟨w3.heap.size, 0, none⟩) gn gn] 23)) := by go_grown
    have B_w : Hid (Below w.heap.size w (World.alloc (World.alloc w3 (.cells (likeRow (Value.int .i64 0) gn) 3)) (.cells #[.slice IA k ic, .slice (some ⟨w3.heap.size, 0, none⟩) gn gn] 23))) := below_on2 B_w.out hgr9
    have B_wa : Hid (Below wa.heap.size wa (World.alloc (World.alloc w3 (.cells (likeRow (Value.int .i64 0) gn) 3)) (.cells #[.slice IA k ic, .slice (some ⟨w3.heap.size, 0, none⟩) gn gn] 23))) := below_on2 B_wa.out hgr9
    have B_w1 : Hid (Below w1.heap.size w1 (World.alloc (World.alloc w3 (.cells (likeRow (Value.int .i64 0) gn) 3)) (.cells #[.slice IA k ic, .slice (some ⟨w3.heap.size, 0, none⟩) gn gn] 23))) := below_on2 B_w1.out hgr9
    have B_w2 : Hid (Below w2.heap.size w2 (World.alloc (World.alloc w3 (.cells (likeRow (Value.int .i64 0) gn) 3)) (.cells #[.slice IA k ic, .slice (some ⟨w3.heap.size, 0, none⟩) gn gn] 23))) := below_on2 B_w2.out hgr9
    have B_w3 : Hid (Below w3.heap.size w3 (World.alloc (World.alloc w3 (.cells (likeRow (Value.int .i64 0) gn) 3)) (.cells #[.slice IA k ic, .slice (some ⟨w3.heap.size, 0, none⟩) gn gn] 23))) := hgr9
    clear hgr9
    clear k0 k1 k2 kl
    revert RZZ RPR B_w B_wa B_w1 B_w2 B_w3
    generalize World.alloc (World.alloc w3 (.cells (likeRow (Value.int .i64 0) gn) 3)) (.cells #[.slice IA k ic, .slice (some ⟨w3.heap.size, 0, none⟩) gn gn] 23) = wc
    intro RZZ RPR B_w B_wa B_w1 B_w2 B_w3
    refine (concat_any IA (some ⟨w3.heap.size, 0, none⟩) k ic gn gn (w3.heap.size + 1) ins (List.replicate gn 0) wc RPR.out (HI.out.up B_w.out) (RZZ.out.rd (by simp)) (by omega) (by omega)).mono ?_
    rintro e w4 ⟨VA, vc, rfl, hown, hb⟩
    have HV4 : Hid (w4.ownsRow wc.heap.size 3 1 (.slice VA (k + gn) vc) (k + gn) (ints (varsAt nv ins gn 0))) := (by show World.ownsRow _ _ _ _ _ _ _; rw [varsAt_zero]; exact hown)
    clear hown RZZ RPR hmk
    have hszc : Hid (w.heap.size ≤ wc.heap.size) := B_w.out.size
    have B_w : Hid (Below w.heap.size w w4) := below_on2 B_w.out hb
    have B_wa : Hid (Below wa.heap.size wa w4) := below_on2 B_wa.out hb
    have B_w1 : Hid (Below w1.heap.size w1 w4) := below_on2 B_w1.out hb
    have B_w2 : Hid (Below w2.heap.size w2 w4) := below_on2 B_w2.out hb
    have B_w3 : Hid (Below w3.heap.size w3 w4) := below_on2 B_w3.out hb
    have B_wc : Hid (Below wc.heap.size wc w4) := hb
    clear hb
    have HGL : Hid (∀ j, (Value.slice VA (k + gn) vc).ownBlock = some j → j < w4.heap.size) := fun j hj => (HV4.out.lt j hj).2
    have HS4 : Hid (wc.heap.size ≤ w4.heap.size ∧ w.heap.size ≤ w4.heap.size) := ⟨B_wc.out.size, B_w.out.size⟩
    have HLF : Hid (∀ (W : World), Below w.heap.size w W → ∀ j, j < f.cls.length → InAt W b0 w4.heap.size (sl.getD j default) (f.cls.getD j [])) := fun W hW j hj => ⟨.inl ((HIN.out j hj).1.below hW hb0), (HIN.out j hj).2⟩
    have kR : Hid (Row w4 (w.heap.size) 30 [.int .i64 nv, .slice FA fn fc]) := (rowCells RF.out B_wa.out)
    have k0 := kR.out.cell 0
    have k1 := kR.out.cell 1
    have kl := kR.out.lt
    simp only [List.getElem?_cons_zero, List.getElem?_cons_succ] at k0 k1
    clear kR
    go_wp2_with fail
    refine wp_region_L (fun w' => Row w' (w.heap.size) 30 [.int .i64 nv, .slice FA fn fc]) [6] (by kernel_rfl) (by exact Row.drew (rowCells RF.out B_wa.out)) (fun hHeld => ?_)
    have B_w : Hid (Below w.heap.size w (World.drew w4)) := B_w.out.drew
    have B_wa : Hid (Below wa.heap.size wa (World.drew w4)) := B_wa.out.drew
    have B_w1 : Hid (Below w1.heap.size w1 (World.drew w4)) := B_w1.out.drew
    have B_w2 : Hid (Below w2.heap.size w2 (World.drew w4)) := B_w2.out.drew
    have B_w3 : Hid (Below w3.heap.size w3 (World.drew w4)) := B_w3.out.drew
    have B_wc : Hid (Below wc.heap.size wc (World.drew w4)) := B_wc.out.drew
    have B_w4 : Hid (Below w4.heap.size w4 (World.drew w4)) := (Below.refl _ _).drew
    clear k0 k1 kl
    revert hHeld B_w B_wa B_w1 B_w2 B_w3 B_wc B_w4
    generalize World.drew w4 = w4q
    intro hHeld B_w B_wa B_w1 B_w2 B_w3 B_wc B_w4
    refine restL_pure (i := 0) (v := ?va1) rfl (by kernel_rfl) (by kernel_rfl) (by kernel_rfl) (fun _ _ _ h => h) (Or.inl ⟨by rfl, ?ya1⟩) ?ra1
    case ya1 => intro w' hSw; clear hSw; go_simp; try (with_reducible rfl)
    go_simp
    refine restL_pure (i := 2) (v := ?va2) rfl (by kernel_rfl) (by kernel_rfl) (by kernel_rfl) (fun _ _ _ h => h) (Or.inl ⟨by rfl, ?ya2⟩) ?ra2
    case ya2 => intro w' hSw; clear hSw; go_simp; try (with_reducible rfl)
    go_simp
    refine restL_take (i := 1) (v := ?va3) [[6]] rfl (by kernel_rfl) (by kernel_rfl) (by kernel_rfl) (by kernel_rfl) (fun _ _ _ h => h) (Or.inl ⟨by rfl, ?ya3⟩) hHeld ?ra3
    case ya3 =>
      intro w' hSw
      have hS0 := hSw
      clear hSw
      have hT0 : Hid (Row w' (w.heap.size) 30 [.int .i64 nv, .slice FA fn fc]) := hS0
      clear hS0
      have z0_0 := hT0.out.cell 0
      have z0_1 := hT0.out.cell 1
      have z0_l := hT0.out.lt
      simp only [List.getElem?_cons_zero, List.getElem?_cons_succ] at z0_0 z0_1
      go_simp
      try (with_reducible rfl)
    go_simp
    refine restL_take (i := 3) (v := ?va4) [[6]] rfl (by kernel_rfl) (by kernel_rfl) (by kernel_rfl) (by kernel_rfl) (fun _ _ _ h => h) (Or.inl ⟨by rfl, ?ya4⟩) hHeld ?ra4
    case ya4 =>
      intro w' hSw
      have hS0 := hSw
      clear hSw
      have hT0 : Hid (Row w' (w.heap.size) 30 [.int .i64 nv, .slice FA fn fc]) := hS0
      clear hS0
      have z0_0 := hT0.out.cell 0
      have z0_1 := hT0.out.cell 1
      have z0_l := hT0.out.lt
      simp only [List.getElem?_cons_zero, List.getElem?_cons_succ] at z0_0 z0_1
      go_simp
      try (with_reducible rfl)
    go_simp
    refine restL_one (i := 4) (by kernel_rfl) rfl (fun K hK => ?_)
    go_simp
    go_at_call 31
    refine (clone_rows FA fn fc sl w4q (by exact (HF.out.up B_w.out).rows) (by omega)).mono ?_
    have HSQ : Hid (w4.heap.size ≤ w4q.heap.size) := B_w4.out.size
    rintro e4 w5 ⟨CA, cx, rfl, hown, hb⟩
    have HO5 : Hid (w5.ownsRow w4q.heap.size 23 1 (.slice CA fn cx) fn (slCells sl)) := hown
    clear hown
    have B_w : Hid (Below w.heap.size w w5) := below_on2 B_w.out hb
    have B_wa : Hid (Below wa.heap.size wa w5) := below_on2 B_wa.out hb
    have B_w1 : Hid (Below w1.heap.size w1 w5) := below_on2 B_w1.out hb
    have B_w2 : Hid (Below w2.heap.size w2 w5) := below_on2 B_w2.out hb
    have B_w3 : Hid (Below w3.heap.size w3 w5) := below_on2 B_w3.out hb
    have B_wc : Hid (Below wc.heap.size wc w5) := below_on2 B_wc.out hb
    have B_w4 : Hid (Below w4.heap.size w4 w5) := below_on2 B_w4.out hb
    have B_w4q : Hid (Below w4q.heap.size w4q w5) := hb
    clear hb
    clear hHeld
    have dR : Hid (Row w5 (w.heap.size + 1 + 1) 30 [.int .i64 0, .slice none 0 0]) := (rowCells RZ.out B_wa.out)
    have d0 := dR.out.cell 0
    have d1 := dR.out.cell 1
    have dl := dR.out.lt
    simp only [List.getElem?_cons_zero, List.getElem?_cons_succ] at d0 d1
    clear dR
    have RZ5 : Hid (Row w5 (w.heap.size + 1 + 1) 30 [.int .i64 0, .slice none 0 0]) := (rowCells RZ.out B_wa.out)
    have df0 := RZ5.out.frozen 0
    have df1 := RZ5.out.frozen 1
    refine hK.out _ _ (fun _ => ?keep) (fun hHeld => ?_)
    case keep => exact (rowCells RF.out B_wa.out)
    have hHeld := hHeld rfl
    clear hK K
    try go_simp
    refine restL_pure (i := 5) (v := ?va5) rfl (by kernel_rfl) (by kernel_rfl) (by kernel_rfl) (fun _ _ _ h => h) (Or.inl ⟨by rfl, ?ya5⟩) ?ra5
    case ya5 => intro w' hSw; clear hSw; go_simp; try (with_reducible rfl)
    go_simp
    refine restL_one (i := 6) (by kernel_rfl) rfl (fun K hK => ?_)
    go_simp
    refine hK.out _ _ (fun h => absurd h (by decide)) (fun _ => ?_)
    clear hK K
    try go_simp
    refine restL_done (by kernel_rfl) ?_ _
    have RC5 : Hid (Row w5 (w.heap.size + 1) 25 [.int .i64 k, .slice GA gn gc, .slice OA on oc]) := (rowCells RC.out B_wa.out)
    have BW5 : Hid (Below w.heap.size w w5) := B_w.out
    have HV5 : Hid (w5.ownsRow wc.heap.size 3 1 (.slice VA (k + gn) vc) (k + gn) (ints (varsAt nv ins gn 0))) := own_below HV4.out B_w4.out (Nat.le_refl _)
    have HS5 : Hid (w4.heap.size ≤ w5.heap.size) := B_w4.out.size
    have EO5 : Hid (EOwn w5 b0 w4.heap.size (.slice CA fn cx) sl (f.cls ++ placeTo nv ins c.gates 0)) := by
      show EOwn _ _ _ _ _ _
      rw [show placeTo nv ins c.gates 0 = [] from rfl, List.append_nil]
      refine ⟨HF.out.sll, ?_, HLF.out w5 BW5.out⟩
      rw [HFL.out]
      exact own_base HO5.out (Nat.le_trans hb0 (Nat.le_trans HS4.out.2 HSQ.out))
    have HEB6 : Hid (∀ j, (Value.slice CA fn cx).ownBlock = some j → w.heap.size ≤ j) := fun j hj => Nat.le_trans HS4.out.2 (Nat.le_trans HSQ.out (HO5.out.lt j hj).1)
    have Z1 := RZ5.out.set 0 (.int .i64 nv)
    have RZ6 : Hid (Row _ (w.heap.size + 1 + 1) 30 [.int .i64 ((nv + 0 : Nat) : Int), .slice CA fn cx]) := Z1.set 1 (.slice CA fn cx)
    have EO6 : Hid (EOwn _ b0 w4.heap.size (.slice CA fn cx) sl (f.cls ++ placeTo nv ins c.gates 0)) := (EO5.out.far (p := ⟨w.heap.size + 1 + 1, 0, none⟩) RZ5.out (by decide) (by decide) (by show _ ≤ w.heap.size + 1 + 1; omega) (.int .i64 nv)).far (p := ⟨w.heap.size + 1 + 1, 1, none⟩) Z1 (by decide) (by decide) (by show _ ≤ w.heap.size + 1 + 1; omega) (.slice CA fn cx)
    have HV6 : Hid (World.ownsRow _ wc.heap.size 3 1 (.slice VA (k + gn) vc) (k + gn) (ints (varsAt nv ins gn 0))) := own_set (p := ⟨w.heap.size + 1 + 1, 1, none⟩) (own_set (p := ⟨w.heap.size + 1 + 1, 0, none⟩) HV5.out RZ5.out (by decide) (.int .i64 nv)) Z1 (by decide) (.slice CA fn cx)
    have RC6 : Hid (Row _ (w.heap.size + 1) 25 [.int .i64 k, .slice GA gn gc, .slice OA on oc]) := (RC5.out.far (p := ⟨w.heap.size + 1 + 1, 0, none⟩) (by show w.heap.size + 1 ≠ w.heap.size + 1 + 1; omega) (.int .i64 nv)).far (p := ⟨w.heap.size + 1 + 1, 1, none⟩) (by show w.heap.size + 1 ≠ w.heap.size + 1 + 1; omega) (.slice CA fn cx)
    have BW6 : Hid (Below w.heap.size w _) := (BW5.out.setCell (p := ⟨w.heap.size + 1 + 1, 0, none⟩) (by show _ ≤ w.heap.size + 1 + 1; omega) (.int .i64 nv)).setCell (p := ⟨w.heap.size + 1 + 1, 1, none⟩) (by show _ ≤ w.heap.size + 1 + 1; omega) (.slice CA fn cx)
    have HS6 : Hid (w4.heap.size ≤ (World.setCell (World.setCell w5 ⟨w.heap.size + 1 + 1, 0, none⟩ (.int .i64 nv)) ⟨w.heap.size + 1 + 1, 1, none⟩ (.slice CA fn cx)).heap.size) := (by show _ ≤ _; rw [World.size_setCell, World.size_setCell]; exact HS5.out)
    clear Z1 RZ5 EO5 HV5 RC5 BW5 HS5
    clear d0 d1 dl
    revert RZ6 EO6 HV6 RC6 BW6 HS6
    generalize World.setCell (World.setCell w5 ⟨w.heap.size + 1 + 1, 0, none⟩ (.int .i64 nv)) ⟨w.heap.size + 1 + 1, 1, none⟩ (.slice CA fn cx) = w6
    intro RZ6 EO6 HV6 RC6 BW6 HS6
    have k0 := RC6.out.cell 0
    have k1 := RC6.out.cell 1
    have k2 := RC6.out.cell 2
    have kl := RC6.out.lt
    simp only [List.getElem?_cons_zero, List.getElem?_cons_succ] at k0 k1 k2
    go_wp2
    clear k0 k1 k2 kl
    go_loopg [10, 11, 12, 13, 54] gn (fun gg _ _ _ _ s54 wr => ∃ (i : Nat) (v : Value) (sl' : List Sl), i ≤ gn ∧ gn - i ≤ gg ∧ s54 = .int .i64 i ∧ Aside (Below w.heap.size w wr) ∧ Aside (w4.heap.size ≤ wr.heap.size) ∧ Aside (Row wr (w.heap.size + 1) 25 [.int .i64 k, .slice GA gn gc, .slice OA on oc]) ∧ Aside (Row wr (w.heap.size + 1 + 1) 30 [.int .i64 ((nv + i : Nat) : Int), v]) ∧ Aside (EOwn wr b0 w4.heap.size v sl' (f.cls ++ placeTo nv ins c.gates i)) ∧ Aside (wr.ownsRow wc.heap.size 3 1 (.slice VA (k + gn) vc) (k + gn) (ints (varsAt nv ins gn i))) ∧ Aside (∀ j, v.ownBlock = some j → w.heap.size ≤ j))
    case atStart => exact ⟨0, _, _, Nat.zero_le _, by omega, rfl, BW6.out, HS6.out, RC6.out, RZ6.out, EO6.out, HV6.out, HEB6.out⟩
    case round =>
      clear BW6 HS6 RC6 RZ6 EO6 HV6 HEB6
      obtain ⟨i, v, sl', hi, hgg, rfl, BW, hsz, RC, RZ, EO, HV, HEB0⟩ := hrel
      by_cases hlt : i < gn
      · have hltz : (i : Int) < (gn : Int) := by omega
        obtain ⟨gv, cap9, hva, hgvb, hgvl⟩ := HV.out.form (by omega)
        injection hva with hva hva2 hva3
        subst hva hva3
        clear hva2
        obtain ⟨XA, xc, rfl⟩ := EO.out.form
        obtain ⟨xn, hxn⟩ : ∃ xn, xn = (f.cls ++ placeTo nv ins c.gates i).length := ⟨_, rfl⟩
        have HEB : Hid (∀ j, (Value.slice XA xn xc).ownBlock = some j → w.heap.size ≤ j) := (by rw [hxn]; exact HEB0.out)
        clear HEB0
        have HXN : Hid ((f.cls ++ placeTo nv ins c.gates i).length = xn) := hxn.symm
        have hxb : xn ≤ 400000 := by
          rw [hxn, List.length_append, HFL.out]
          have := placeTo_len nv ins c.gates i
          omega
        rw [← hxn] at RZ EO
        have EO : Hid (EOwn wr b0 w4.heap.size (.slice XA xn xc) sl' (f.cls ++ placeTo nv ins c.gates i)) := EO.out
        have RZ : Hid (Row wr (w.heap.size + 1 + 1) 30 [.int .i64 ((nv + i : Nat) : Int), .slice XA xn xc]) := RZ.out
        clear hxn
        obtain ⟨ad, rfl, hbl, hc0, hc1, hc2⟩ := (HC.out.up BW.out).gates.gate hlt
        obtain ⟨ho, ga, gb, ga0, gb0⟩ := gateOk_parts (HPG.out i (by rw [HLG.out]; exact hlt))
        rw [← HKI.out] at ga gb
        have HGC : Hid (gateCls nv ins c.gates i = clausesF (c.gates.getD i default).op ((nv : Int) + i + 1) ((wiresV nv ins i).getD (c.gates.getD i default).a.toNat 0) ((wiresV nv ins i).getD (c.gates.getD i default).b.toNat 0)) := rfl
        generalize c.gates.getD i default = gt at hc0 hc1 hc2 ho ga gb ga0 gb0 HGC
        obtain ⟨op, xa, xb⟩ := gt
        dsimp only at hc0 hc1 hc2 ho ga gb ga0 gb0 HGC
        have hfr0 := RZ.out.frozen 0
        have hfv := HV.out.frozenAt (i + k)
        have hcv := HV.out.cellAt (k + i) (by omega)
        have hfv := HV.out.frozenAt (k + i)
        rw [ints_get _ _ (by rw [varsAt_length _ _ _ _ hi, HLI.out]; omega)] at hcv
        have hgvs : gv < wr.heap.size := hgvl
        have k0 := RC.out.cell 0
        have k1 := RC.out.cell 1
        have k2 := RC.out.cell 2
        have kl := RC.out.lt
        simp only [List.getElem?_cons_zero, List.getElem?_cons_succ] at k0 k1 k2
        have d0 := RZ.out.cell 0
        have d1 := RZ.out.cell 1
        have dl := RZ.out.lt
        simp only [List.getElem?_cons_zero, List.getElem?_cons_succ] at d0 d1
        have hne9 : gv ≠ w.heap.size + 1 + 1 := fun e => by
          have h1 := own_ne_row HV.out RZ.out (by decide)
          exact h1 (by rw [e]; rfl)
        have hne8 : ¬ gv = wr.heap.size := by omega
        have HOB := own_ne_row HV.out RC.out (by decide)
        have hneC : w.heap.size + 1 ≠ gv := fun e => HOB (by rw [← e]; rfl)
        have hgl4 : gv < w4.heap.size := HGL.out gv rfl
        have RZ8 : Hid (Row (World.alloc (World.setCell (World.setCell wr ⟨w.heap.size + 1 + 1, 0, none⟩ (Value.int .i64 ((nv : Int) + (i : Int) + 1))) ⟨gv, k + i, none⟩ (Value.int .i64 ((nv : Int) + (i : Int) + 1))) (.cells #[.int .i64 op, .int .i64 xa, .int .i64 xb] 49)) (w.heap.size + 1 + 1) 30 [(Value.int .i64 ((nv : Int) + (i : Int) + 1)), .slice XA xn xc]) := ((RZ.out.set 0 (Value.int .i64 ((nv : Int) + (i : Int) + 1))).far (p := ⟨gv, k + i, none⟩) (fun e => hne9 e.symm) (Value.int .i64 ((nv : Int) + (i : Int) + 1))).alloc _
        have RC8 : Hid (Row (World.alloc (World.setCell (World.setCell wr ⟨w.heap.size + 1 + 1, 0, none⟩ (Value.int .i64 ((nv : Int) + (i : Int) + 1))) ⟨gv, k + i, none⟩ (Value.int .i64 ((nv : Int) + (i : Int) + 1))) (.cells #[.int .i64 op, .int .i64 xa, .int .i64 xb] 49)) (w.heap.size + 1) 25 [.int .i64 k, .slice (some ad) gn gc, .slice OA on oc]) := ((RC.out.far (p := ⟨w.heap.size + 1 + 1, 0, none⟩) (by show w.heap.size + 1 ≠ w.heap.size + 1 + 1; omega) (Value.int .i64 ((nv : Int) + (i : Int) + 1))).far (p := ⟨gv, k + i, none⟩) hneC (Value.int .i64 ((nv : Int) + (i : Int) + 1))).alloc _
        have HSA : Hid ((World.setCell (World.setCell wr ⟨w.heap.size + 1 + 1, 0, none⟩ (Value.int .i64 ((nv : Int) + (i : Int) + 1))) ⟨gv, k + i, none⟩ (Value.int .i64 ((nv : Int) + (i : Int) + 1))).heap.size = wr.heap.size) := (by show _ = _; rw [World.size_setCell, World.size_setCell])
        have RX8 : Hid (Row (World.alloc (World.setCell (World.setCell wr ⟨w.heap.size + 1 + 1, 0, none⟩ (Value.int .i64 ((nv : Int) + (i : Int) + 1))) ⟨gv, k + i, none⟩ (Value.int .i64 ((nv : Int) + (i : Int) + 1))) (.cells #[.int .i64 op, .int .i64 xa, .int .i64 xb] 49)) wr.heap.size 49 [.int .i64 op, .int .i64 xa, .int .i64 xb]) := (by have h9 := Row.new (World.setCell (World.setCell wr ⟨w.heap.size + 1 + 1, 0, none⟩ (Value.int .i64 ((nv : Int) + (i : Int) + 1))) ⟨gv, k + i, none⟩ (Value.int .i64 ((nv : Int) + (i : Int) + 1))) 49 [.int .i64 op, .int .i64 xa, .int .i64 xb]; rw [HSA.out] at h9; exact h9)
        have BW8 : Hid (Below w.heap.size w (World.alloc (World.setCell (World.setCell wr ⟨w.heap.size + 1 + 1, 0, none⟩ (Value.int .i64 ((nv : Int) + (i : Int) + 1))) ⟨gv, k + i, none⟩ (Value.int .i64 ((nv : Int) + (i : Int) + 1))) (.cells #[.int .i64 op, .int .i64 xa, .int .i64 xb] 49))) := ((BW.out.setCell (p := ⟨w.heap.size + 1 + 1, 0, none⟩) (by show _ ≤ w.heap.size + 1 + 1; omega) (Value.int .i64 ((nv : Int) + (i : Int) + 1))).setCell (p := ⟨gv, k + i, none⟩) (by have := hszc.out; show _ ≤ gv; omega) (Value.int .i64 ((nv : Int) + (i : Int) + 1))).alloc (by rw [HSA.out]; exact BW.out.size) _
        have EO8 : Hid (EOwn (World.alloc (World.setCell (World.setCell wr ⟨w.heap.size + 1 + 1, 0, none⟩ (Value.int .i64 ((nv : Int) + (i : Int) + 1))) ⟨gv, k + i, none⟩ (Value.int .i64 ((nv : Int) + (i : Int) + 1))) (.cells #[.int .i64 op, .int .i64 xa, .int .i64 xb] 49)) b0 w4.heap.size (.slice XA xn xc) sl' (f.cls ++ placeTo nv ins c.gates i)) := by
          have E1 := EO.out.far (p := ⟨w.heap.size + 1 + 1, 0, none⟩) RZ.out (by decide) (by decide) (by show _ ≤ w.heap.size + 1 + 1; omega) (Value.int .i64 ((nv : Int) + (i : Int) + 1))
          have E2 := E1.farInt (p := ⟨gv, k + i, none⟩) (by have := hszc.out; show _ ≤ gv; omega) hgl4 (fun e => own_types EO.out.own HV.out (by decide) gv e rfl) (Value.int .i64 ((nv : Int) + (i : Int) + 1))
          exact E2.up (by rw [HSA.out]; exact Nat.le_trans hb0 BW.out.size) ((Below.refl _ _).alloc (Nat.le_refl _) _)
        have HV8 : Hid (World.ownsRow (World.alloc (World.setCell (World.setCell wr ⟨w.heap.size + 1 + 1, 0, none⟩ (Value.int .i64 ((nv : Int) + (i : Int) + 1))) ⟨gv, k + i, none⟩ (Value.int .i64 ((nv : Int) + (i : Int) + 1))) (.cells #[.int .i64 op, .int .i64 xa, .int .i64 xb] 49)) wc.heap.size 3 1 (.slice (some ⟨gv, 0, none⟩) (k + gn) vc) (k + gn) (ints (varsAt nv ins gn (i + 1)))) := by
          have V1 := own_set (p := ⟨w.heap.size + 1 + 1, 0, none⟩) HV.out RZ.out (by decide) (Value.int .i64 ((nv : Int) + (i : Int) + 1))
          have V2 := (V1.stored (k + i) (Value.int .i64 ((nv : Int) + (i : Int) + 1))).1
          have e : (ints (varsAt nv ins gn i)).set (k + i) (Value.int .i64 ((nv : Int) + (i : Int) + 1)) = ints (varsAt nv ins gn (i + 1)) := by
            rw [← varsAt_set nv ins gn i hlt, HLI.out]; simp [ints, List.map_set]
          rw [e] at V2
          exact V2.alloc _
        have HS8 : Hid (w.heap.size ≤ (World.alloc (World.setCell (World.setCell wr ⟨w.heap.size + 1 + 1, 0, none⟩ (Value.int .i64 ((nv : Int) + (i : Int) + 1))) ⟨gv, k + i, none⟩ (Value.int .i64 ((nv : Int) + (i : Int) + 1))) (.cells #[.int .i64 op, .int .i64 xa, .int .i64 xb] 49)).heap.size ∧ w4.heap.size ≤ (World.alloc (World.setCell (World.setCell wr ⟨w.heap.size + 1 + 1, 0, none⟩ (Value.int .i64 ((nv : Int) + (i : Int) + 1))) ⟨gv, k + i, none⟩ (Value.int .i64 ((nv : Int) + (i : Int) + 1))) (.cells #[.int .i64 op, .int .i64 xa, .int .i64 xb] 49)).heap.size) := (by
          have h1 := HSA.out
          have h2 := hsz.out
          have h3 := BW.out.size
          constructor
          · rw [World.size_alloc, h1]; omega
          · rw [World.size_alloc, h1]; omega)
        go_wp2_with fail
        clear RZ RC EO HV BW hsz HSA HOB hc0 hc1 hc2 hbl hfr0 hfv hcv k0 k1 k2 kl d0 d1 dl hne8
        revert RZ8 RC8 RX8 BW8 EO8 HV8 HS8
        generalize (World.alloc (World.setCell (World.setCell wr ⟨w.heap.size + 1 + 1, 0, none⟩ (Value.int .i64 ((nv : Int) + (i : Int) + 1))) ⟨gv, k + i, none⟩ (Value.int .i64 ((nv : Int) + (i : Int) + 1))) (.cells #[.int .i64 op, .int .i64 xa, .int .i64 xb] 49)) = w8
        generalize wr.heap.size = bx
        intro RZ8 RC8 RX8 BW8 EO8 HV8 HS8
        have d0 := RZ8.out.cell 0
        have d1 := RZ8.out.cell 1
        have dl := RZ8.out.lt
        simp only [List.getElem?_cons_zero, List.getElem?_cons_succ] at d0 d1
        go_quiet (fail)
        have RZ9 : Hid (Row (w8.drewN nq) (w.heap.size + 1 + 1) 30 [(Value.int .i64 ((nv : Int) + (i : Int) + 1)), .slice XA xn xc]) := RZ8.out
        have RC9 : Hid (Row (w8.drewN nq) (w.heap.size + 1) 25 [.int .i64 k, .slice (some ad) gn gc, .slice OA on oc]) := RC8.out
        have RX9 : Hid (Row (w8.drewN nq) bx 49 [.int .i64 op, .int .i64 xa, .int .i64 xb]) := RX8.out
        have BW9 : Hid (Below w.heap.size w (w8.drewN nq)) := below_drewN BW8.out nq
        have EO9 : Hid (EOwn (w8.drewN nq) b0 w4.heap.size (.slice XA xn xc) sl' (f.cls ++ placeTo nv ins c.gates i)) := ⟨EO8.out.len, EO8.out.own, EO8.out.row⟩
        have HV9 : Hid (World.ownsRow (w8.drewN nq) wc.heap.size 3 1 (.slice (some ⟨gv, 0, none⟩) (k + gn) vc) (k + gn) (ints (varsAt nv ins gn (i + 1)))) := HV8.out
        have HSB : Hid (w.heap.size ≤ (w8.drewN nq).heap.size ∧ w4.heap.size ≤ (w8.drewN nq).heap.size) := HS8.out
        clear RZ8 RC8 RX8 BW8 EO8 HV8 HS8 d0 d1 dl
        revert RZ9 RC9 RX9 BW9 EO9 HV9 HSB
        generalize w8.drewN nq = w9
        intro RZ9 RC9 RX9 BW9 EO9 HV9 HSB
        have d0 := RZ9.out.cell 0
        have d1 := RZ9.out.cell 1
        have dl := RZ9.out.lt
        simp only [List.getElem?_cons_zero, List.getElem?_cons_succ] at d0 d1
        have x0 := RX9.out.cell 0
        have x1 := RX9.out.cell 1
        have x2 := RX9.out.cell 2
        have xl := RX9.out.lt
        simp only [List.getElem?_cons_zero, List.getElem?_cons_succ] at x0 x1 x2
        have HAC : Hid (∀ (j : Nat) (z : Int), z = (j : Int) → j < k + i → ∃ av, w9.cell? ⟨gv, j, none⟩ = some (.int .i64 av) ∧ (wiresV nv ins i).getD z.toNat 0 = av ∧ 1 ≤ av ∧ av ≤ nv + i) := fun j z hz hj => by
          subst hz
          rw [Int.toNat_natCast]
          have hb := wires_bd (by rw [← HNV.out]; exact HR3.out) i j (by rw [HLI.out]; exact hj)
          refine ⟨_, ?_, rfl, hb⟩
          rw [HV9.out.cellAt j (by omega), ints_get _ _ (by rw [varsAt_length _ _ _ _ (by omega), HLI.out]; omega), varsAt_get _ _ _ _ _ (by rw [HLI.out]; omega), wiresV_more nv ins i (i + 1) j (by rw [HLI.out]; exact hj) (by omega)]
        have hcls : op < 2 ∨ op = 2 ∨ 2 < op := by omega
        rcases hcls with q1 | q1 | q1
        · have q2 : ¬ 2 < op := by omega
          go_wp2_with fail
          with_reducible refine (gate_any ((nv : Int) + (i : Int) + 1) op ((nv : Int) + (i : Int) + 1) ((nv : Int) + (i : Int) + 1) ((nv : Int) + (i : Int) + 1) XA xn xc b0 w4.heap.size sl' (f.cls ++ placeTo nv ins c.gates i) w9 EO9.out HXN.out (Nat.le_trans hb0 HSB.out.1) HSB.out.2 (by omega) (by omega) (by omega) (by omega) (by omega) (by omega) (by omega) (by omega)).mono ?_
          rintro e w10 ⟨YA, yn, yc, sy, rfl, hyl, hE, hG, hat⟩
          have HCL : Hid ((f.cls ++ placeTo nv ins c.gates i) ++ clausesF op ((nv : Int) + (i : Int) + 1) ((nv : Int) + (i : Int) + 1) ((nv : Int) + (i : Int) + 1) = f.cls ++ placeTo nv ins c.gates (i + 1)) := by
            show _ = _
            rw [placeTo_succ, List.append_assoc, HGC.out]
            exact congrArg (fun z => f.cls ++ (placeTo nv ins c.gates i ++ z)) (clausesF_0 (by omega) _ _ _ _ _)
          have EO10 : Hid (EOwn w10 b0 w4.heap.size (.slice YA yn yc) sy (f.cls ++ placeTo nv ins c.gates (i + 1))) := by show EOwn _ _ _ _ _ _; rw [← HCL.out]; exact hE
          have RZ10 : Hid (Row w10 (w.heap.size + 1 + 1) 30 [(Value.int .i64 ((nv : Int) + (i : Int) + 1)), .slice XA xn xc]) := RZ9.out.grown hG (fun e => own_ne_row EO9.out.own RZ9.out (by decide) e.symm)
          have RC10 : Hid (Row w10 (w.heap.size + 1) 25 [.int .i64 k, .slice (some ad) gn gc, .slice OA on oc]) := RC9.out.grown hG (fun e => own_ne_row EO9.out.own RC9.out (by decide) e.symm)
          have HV10 : Hid (w10.ownsRow wc.heap.size 3 1 (.slice (some ⟨gv, 0, none⟩) (k + gn) vc) (k + gn) (ints (varsAt nv ins gn (i + 1)))) := own_grown HV9.out hG (own_types HV9.out EO9.out.own (by decide))
          have BW10 : Hid (Below w.heap.size w w10) := BW9.out.grown hG HSB.out.1 (fun j hj => HEB.out j hj)
          have HEB10 : Hid (∀ j, (Value.slice YA yn yc).ownBlock = some j → w.heap.size ≤ j) := fun j hj => hat.elim (fun e => HEB.out j (e ▸ hj)) (fun ⟨q, e, hq⟩ => by
            have h2 := HSB.out.1
            rw [e] at hj
            injection hj with hj
            omega)
          have HS10 : Hid (w4.heap.size ≤ w10.heap.size) := Nat.le_trans HSB.out.2 hG.size
          clear HEB hE hG hat hyl EO9 RZ9 RC9 HV9 BW9 HSB RX9 HCL
          have d0 := RZ10.out.cell 0
          have d1 := RZ10.out.cell 1
          have dl := RZ10.out.lt
          simp only [List.getElem?_cons_zero, List.getElem?_cons_succ] at d0 d1
          have df0 := RZ10.out.frozen 0
          have df1 := RZ10.out.frozen 1
          go_wp2
          have Z1 := RZ10.out.set 0 (Value.int .i64 ((nv : Int) + (i : Int) + 1))
          have Z2 := Z1.set 1 (.slice YA yn yc)
          have E1 := EO10.out.far (p := ⟨w.heap.size + 1 + 1, 0, none⟩) RZ10.out (by decide) (by decide) (by show _ ≤ w.heap.size + 1 + 1; omega) (Value.int .i64 ((nv : Int) + (i : Int) + 1))
          have E2 := E1.far (p := ⟨w.heap.size + 1 + 1, 1, none⟩) Z1 (by decide) (by decide) (by show _ ≤ w.heap.size + 1 + 1; omega) (.slice YA yn yc)
          have V1 := own_set (p := ⟨w.heap.size + 1 + 1, 0, none⟩) HV10.out RZ10.out (by decide) (Value.int .i64 ((nv : Int) + (i : Int) + 1))
          have V2 := own_set (p := ⟨w.heap.size + 1 + 1, 1, none⟩) V1 Z1 (by decide) (.slice YA yn yc)
          have C2 := (RC10.out.far (p := ⟨w.heap.size + 1 + 1, 0, none⟩) (by show w.heap.size + 1 ≠ w.heap.size + 1 + 1; omega) (Value.int .i64 ((nv : Int) + (i : Int) + 1))).far (p := ⟨w.heap.size + 1 + 1, 1, none⟩) (by show w.heap.size + 1 ≠ w.heap.size + 1 + 1; omega) (.slice YA yn yc)
          have B2 := (BW10.out.setCell (p := ⟨w.heap.size + 1 + 1, 0, none⟩) (by show _ ≤ w.heap.size + 1 + 1; omega) (Value.int .i64 ((nv : Int) + (i : Int) + 1))).setCell (p := ⟨w.heap.size + 1 + 1, 1, none⟩) (by show _ ≤ w.heap.size + 1 + 1; omega) (.slice YA yn yc)
          go_roundg (gn - (i + 1))
          case measure => omega
          case rel =>
            refine ⟨i + 1, .slice YA yn yc, sy, by omega, by omega, by go_num, B2, (by show _ ≤ _; rw [World.size_setCell, World.size_setCell]; exact HS10.out), C2, ?_, E2, V2, HEB10.out⟩
            show Row _ _ _ _
            rw [show ((nv + (i + 1) : Nat) : Int) = (nv : Int) + (i : Int) + 1 by omega]
            exact Z2
        · subst q1
          obtain ⟨a1, a2⟩ := ga (by omega)
          obtain ⟨an, rfl⟩ : ∃ an : Nat, xa = (an : Int) := ⟨xa.toNat, by omega⟩
          obtain ⟨av, hca, hwa, ha1, ha2⟩ := HAC.out an _ rfl (by omega)
          have HWA : Hid ((wiresV nv ins i).getD ((an : Int)).toNat 0 = av) := hwa
          have hanz : (an : Int) < (k : Int) + (gn : Int) := by omega
          clear hwa
          go_wp2_with fail
          with_reducible refine (gate_any ((nv : Int) + (i : Int) + 1) 2 ((nv : Int) + (i : Int) + 1) (av) ((nv : Int) + (i : Int) + 1) XA xn xc b0 w4.heap.size sl' (f.cls ++ placeTo nv ins c.gates i) w9 EO9.out HXN.out (Nat.le_trans hb0 HSB.out.1) HSB.out.2 (by omega) (by omega) (by omega) (by omega) (by omega) (by omega) (by omega) (by omega)).mono ?_
          rintro e w10 ⟨YA, yn, yc, sy, rfl, hyl, hE, hG, hat⟩
          have HCL : Hid ((f.cls ++ placeTo nv ins c.gates i) ++ clausesF 2 ((nv : Int) + (i : Int) + 1) (av) ((nv : Int) + (i : Int) + 1) = f.cls ++ placeTo nv ins c.gates (i + 1)) := by
            show _ = _
            rw [placeTo_succ, List.append_assoc, HGC.out]
            rw [HWA.out]; exact congrArg (fun z => f.cls ++ (placeTo nv ins c.gates i ++ z)) (clausesF_1 _ _ _ _)
          have EO10 : Hid (EOwn w10 b0 w4.heap.size (.slice YA yn yc) sy (f.cls ++ placeTo nv ins c.gates (i + 1))) := by show EOwn _ _ _ _ _ _; rw [← HCL.out]; exact hE
          have RZ10 : Hid (Row w10 (w.heap.size + 1 + 1) 30 [(Value.int .i64 ((nv : Int) + (i : Int) + 1)), .slice XA xn xc]) := RZ9.out.grown hG (fun e => own_ne_row EO9.out.own RZ9.out (by decide) e.symm)
          have RC10 : Hid (Row w10 (w.heap.size + 1) 25 [.int .i64 k, .slice (some ad) gn gc, .slice OA on oc]) := RC9.out.grown hG (fun e => own_ne_row EO9.out.own RC9.out (by decide) e.symm)
          have HV10 : Hid (w10.ownsRow wc.heap.size 3 1 (.slice (some ⟨gv, 0, none⟩) (k + gn) vc) (k + gn) (ints (varsAt nv ins gn (i + 1)))) := own_grown HV9.out hG (own_types HV9.out EO9.out.own (by decide))
          have BW10 : Hid (Below w.heap.size w w10) := BW9.out.grown hG HSB.out.1 (fun j hj => HEB.out j hj)
          have HEB10 : Hid (∀ j, (Value.slice YA yn yc).ownBlock = some j → w.heap.size ≤ j) := fun j hj => hat.elim (fun e => HEB.out j (e ▸ hj)) (fun ⟨q, e, hq⟩ => by
            have h2 := HSB.out.1
            rw [e] at hj
            injection hj with hj
            omega)
          have HS10 : Hid (w4.heap.size ≤ w10.heap.size) := Nat.le_trans HSB.out.2 hG.size
          clear HEB hE hG hat hyl EO9 RZ9 RC9 HV9 BW9 HSB RX9 HCL
          have d0 := RZ10.out.cell 0
          have d1 := RZ10.out.cell 1
          have dl := RZ10.out.lt
          simp only [List.getElem?_cons_zero, List.getElem?_cons_succ] at d0 d1
          have df0 := RZ10.out.frozen 0
          have df1 := RZ10.out.frozen 1
          go_wp2
          have Z1 := RZ10.out.set 0 (Value.int .i64 ((nv : Int) + (i : Int) + 1))
          have Z2 := Z1.set 1 (.slice YA yn yc)
          have E1 := EO10.out.far (p := ⟨w.heap.size + 1 + 1, 0, none⟩) RZ10.out (by decide) (by decide) (by show _ ≤ w.heap.size + 1 + 1; omega) (Value.int .i64 ((nv : Int) + (i : Int) + 1))
          have E2 := E1.far (p := ⟨w.heap.size + 1 + 1, 1, none⟩) Z1 (by decide) (by decide) (by show _ ≤ w.heap.size + 1 + 1; omega) (.slice YA yn yc)
          have V1 := own_set (p := ⟨w.heap.size + 1 + 1, 0, none⟩) HV10.out RZ10.out (by decide) (Value.int .i64 ((nv : Int) + (i : Int) + 1))
          have V2 := own_set (p := ⟨w.heap.size + 1 + 1, 1, none⟩) V1 Z1 (by decide) (.slice YA yn yc)
          have C2 := (RC10.out.far (p := ⟨w.heap.size + 1 + 1, 0, none⟩) (by show w.heap.size + 1 ≠ w.heap.size + 1 + 1; omega) (Value.int .i64 ((nv : Int) + (i : Int) + 1))).far (p := ⟨w.heap.size + 1 + 1, 1, none⟩) (by show w.heap.size + 1 ≠ w.heap.size + 1 + 1; omega) (.slice YA yn yc)
          have B2 := (BW10.out.setCell (p := ⟨w.heap.size + 1 + 1, 0, none⟩) (by show _ ≤ w.heap.size + 1 + 1; omega) (Value.int .i64 ((nv : Int) + (i : Int) + 1))).setCell (p := ⟨w.heap.size + 1 + 1, 1, none⟩) (by show _ ≤ w.heap.size + 1 + 1; omega) (.slice YA yn yc)
          go_roundg (gn - (i + 1))
          case measure => omega
          case rel =>
            refine ⟨i + 1, .slice YA yn yc, sy, by omega, by omega, by go_num, B2, (by show _ ≤ _; rw [World.size_setCell, World.size_setCell]; exact HS10.out), C2, ?_, E2, V2, HEB10.out⟩
            show Row _ _ _ _
            rw [show ((nv + (i + 1) : Nat) : Int) = (nv : Int) + (i : Int) + 1 by omega]
            exact Z2
        · have q0 : 2 ≤ op := by omega
          obtain ⟨a1, a2⟩ := ga (by omega)
          obtain ⟨an, rfl⟩ : ∃ an : Nat, xa = (an : Int) := ⟨xa.toNat, by omega⟩
          obtain ⟨av, hca, hwa, ha1, ha2⟩ := HAC.out an _ rfl (by omega)
          have HWA : Hid ((wiresV nv ins i).getD ((an : Int)).toNat 0 = av) := hwa
          have hanz : (an : Int) < (k : Int) + (gn : Int) := by omega
          obtain ⟨b1, b2⟩ := gb (by omega)
          obtain ⟨bn, rfl⟩ : ∃ bn : Nat, xb = (bn : Int) := ⟨xb.toNat, by omega⟩
          obtain ⟨bv, hcb, hwb, hb1, hb2⟩ := HAC.out bn _ rfl (by omega)
          have HWB : Hid ((wiresV nv ins i).getD ((bn : Int)).toNat 0 = bv) := hwb
          have hbnz : (bn : Int) < (k : Int) + (gn : Int) := by omega
          clear hwa hwb
          go_wp2_with fail
          with_reducible refine (gate_any ((nv : Int) + (i : Int) + 1) op ((nv : Int) + (i : Int) + 1) (av) (bv) XA xn xc b0 w4.heap.size sl' (f.cls ++ placeTo nv ins c.gates i) w9 EO9.out HXN.out (Nat.le_trans hb0 HSB.out.1) HSB.out.2 (by omega) (by omega) (by omega) (by omega) (by omega) (by omega) (by omega) (by omega)).mono ?_
          rintro e w10 ⟨YA, yn, yc, sy, rfl, hyl, hE, hG, hat⟩
          have HCL : Hid ((f.cls ++ placeTo nv ins c.gates i) ++ clausesF op ((nv : Int) + (i : Int) + 1) (av) (bv) = f.cls ++ placeTo nv ins c.gates (i + 1)) := by
            show _ = _
            rw [placeTo_succ, List.append_assoc, HGC.out]
            rw [HWA.out, HWB.out]
          have EO10 : Hid (EOwn w10 b0 w4.heap.size (.slice YA yn yc) sy (f.cls ++ placeTo nv ins c.gates (i + 1))) := by show EOwn _ _ _ _ _ _; rw [← HCL.out]; exact hE
          have RZ10 : Hid (Row w10 (w.heap.size + 1 + 1) 30 [(Value.int .i64 ((nv : Int) + (i : Int) + 1)), .slice XA xn xc]) := RZ9.out.grown hG (fun e => own_ne_row EO9.out.own RZ9.out (by decide) e.symm)
          have RC10 : Hid (Row w10 (w.heap.size + 1) 25 [.int .i64 k, .slice (some ad) gn gc, .slice OA on oc]) := RC9.out.grown hG (fun e => own_ne_row EO9.out.own RC9.out (by decide) e.symm)
          have HV10 : Hid (w10.ownsRow wc.heap.size 3 1 (.slice (some ⟨gv, 0, none⟩) (k + gn) vc) (k + gn) (ints (varsAt nv ins gn (i + 1)))) := own_grown HV9.out hG (own_types HV9.out EO9.out.own (by decide))
          have BW10 : Hid (Below w.heap.size w w10) := BW9.out.grown hG HSB.out.1 (fun j hj => HEB.out j hj)
          have HEB10 : Hid (∀ j, (Value.slice YA yn yc).ownBlock = some j → w.heap.size ≤ j) := fun j hj => hat.elim (fun e => HEB.out j (e ▸ hj)) (fun ⟨q, e, hq⟩ => by
            have h2 := HSB.out.1
            rw [e] at hj
            injection hj with hj
            omega)
          have HS10 : Hid (w4.heap.size ≤ w10.heap.size) := Nat.le_trans HSB.out.2 hG.size
          clear HEB hE hG hat hyl EO9 RZ9 RC9 HV9 BW9 HSB RX9 HCL
          have d0 := RZ10.out.cell 0
          have d1 := RZ10.out.cell 1
          have dl := RZ10.out.lt
          simp only [List.getElem?_cons_zero, List.getElem?_cons_succ] at d0 d1
          have df0 := RZ10.out.frozen 0
          have df1 := RZ10.out.frozen 1
          go_wp2
          have Z1 := RZ10.out.set 0 (Value.int .i64 ((nv : Int) + (i : Int) + 1))
          have Z2 := Z1.set 1 (.slice YA yn yc)
          have E1 := EO10.out.far (p := ⟨w.heap.size + 1 + 1, 0, none⟩) RZ10.out (by decide) (by decide) (by show _ ≤ w.heap.size + 1 + 1; omega) (Value.int .i64 ((nv : Int) + (i : Int) + 1))
          have E2 := E1.far (p := ⟨w.heap.size + 1 + 1, 1, none⟩) Z1 (by decide) (by decide) (by show _ ≤ w.heap.size + 1 + 1; omega) (.slice YA yn yc)
          have V1 := own_set (p := ⟨w.heap.size + 1 + 1, 0, none⟩) HV10.out RZ10.out (by decide) (Value.int .i64 ((nv : Int) + (i : Int) + 1))
          have V2 := own_set (p := ⟨w.heap.size + 1 + 1, 1, none⟩) V1 Z1 (by decide) (.slice YA yn yc)
          have C2 := (RC10.out.far (p := ⟨w.heap.size + 1 + 1, 0, none⟩) (by show w.heap.size + 1 ≠ w.heap.size + 1 + 1; omega) (Value.int .i64 ((nv : Int) + (i : Int) + 1))).far (p := ⟨w.heap.size + 1 + 1, 1, none⟩) (by show w.heap.size + 1 ≠ w.heap.size + 1 + 1; omega) (.slice YA yn yc)
          have B2 := (BW10.out.setCell (p := ⟨w.heap.size + 1 + 1, 0, none⟩) (by show _ ≤ w.heap.size + 1 + 1; omega) (Value.int .i64 ((nv : Int) + (i : Int) + 1))).setCell (p := ⟨w.heap.size + 1 + 1, 1, none⟩) (by show _ ≤ w.heap.size + 1 + 1; omega) (.slice YA yn yc)
          go_roundg (gn - (i + 1))
          case measure => omega
          case rel =>
            refine ⟨i + 1, .slice YA yn yc, sy, by omega, by omega, by go_num, B2, (by show _ ≤ _; rw [World.size_setCell, World.size_setCell]; exact HS10.out), C2, ?_, E2, V2, HEB10.out⟩
            show Row _ _ _ _
            rw [show ((nv + (i + 1) : Nat) : Int) = (nv : Int) + (i : Int) + 1 by omega]
            exact Z2
      · have hltz : ¬ (i : Int) < (gn : Int) := by omega
        obtain rfl : gn = i := by omega
        obtain ⟨XA, xc, rfl⟩ := EO.out.form
        obtain ⟨xn, hxn⟩ : ∃ xn, xn = (f.cls ++ placeTo nv ins c.gates gn).length := ⟨_, rfl⟩
        have HXN : Hid ((f.cls ++ placeTo nv ins c.gates gn).length = xn) := hxn.symm
        have hxb : xn ≤ 400000 := by
          rw [hxn, List.length_append, HFL.out]
          have := placeTo_len nv ins c.gates gn
          omega
        rw [← hxn] at RZ EO
        have EO : Hid (EOwn wr b0 w4.heap.size (.slice XA xn xc) sl' (f.cls ++ placeTo nv ins c.gates gn)) := EO.out
        have RZ : Hid (Row wr (w.heap.size + 1 + 1) 30 [.int .i64 ((nv + gn : Nat) : Int), .slice XA xn xc]) := RZ.out
        have RC : Hid (Row wr (w.heap.size + 1) 25 [.int .i64 k, .slice GA gn gc, .slice OA on oc]) := RC.out
        have BW : Hid (Below w.heap.size w wr) := BW.out
        have hsz : Hid (w4.heap.size ≤ wr.heap.size) := hsz.out
        have HV : Hid (wr.ownsRow wc.heap.size 3 1 (.slice VA (k + gn) vc) (k + gn) (ints (varsAt nv ins gn gn))) := HV.out
        clear hxn
        have d0 := RZ.out.cell 0
        have d1 := RZ.out.cell 1
        have dl := RZ.out.lt
        simp only [List.getElem?_cons_zero, List.getElem?_cons_succ] at d0 d1
        have HOK : Hid (placeOk f c ins = true) := by
          show _ = _
          unfold placeOk
          rw [HR1.out, HR2.out, HR3.out, HLI.out, decide_eq_true HKI.out]; rfl
        have HPF : Hid (placeF f c ins = ⟨(nv : Int) + (gn : Int), f.cls ++ placeTo nv ins c.gates gn⟩) := by
          show _ = _
          unfold placeF
          rw [HNV.out, HLG.out]
        go_wp2_with fail
        have HCT := eFits_any ((nv : Int) + (gn : Int)) XA xn xc wr (by unfold maxLen; omega)
        by_cases hft : ((nv : Int) + (gn : Int)) ≤ 65536 ∧ xn ≤ 262144
        · have HCE : Hid (placeR f c ins = placeF f c ins ∧ placeOuts f c ins = placeO f c ins ∧ placeErr f c ins = 0) := placeGood HOK.out (by
            rw [HPF.out]; unfold fitsErr; rw [if_pos]; dsimp only; rw [HXN.out]; exact hft)
          rw [if_pos hft, if_pos hft] at HCT
          clear hft
          with_reducible refine HCT.mono ?_
          clear HCT
          rintro e w7 ⟨rfl, hG⟩
          have hb := grown_below hG
          have RZ7 : Hid (Row w7 (w.heap.size + 1 + 1) 30 [.int .i64 ((nv : Int) + (gn : Int)), .slice XA xn xc]) := (by show Row _ _ _ _; have := rowCells RZ.out hb; rw [show ((nv + gn : Nat) : Int) = (nv : Int) + (gn : Int) by omega] at this; exact this)
          have RC7 : Hid (Row w7 (w.heap.size + 1) 25 [.int .i64 k, .slice GA gn gc, .slice OA on oc]) := rowCells RC.out hb
          have EO7 : Hid (EOwn w7 b0 w4.heap.size (.slice XA xn xc) sl' (f.cls ++ placeTo nv ins c.gates gn)) := EO.out.up (Nat.le_trans hb0 BW.out.size) hb
          have HV7 : Hid (w7.ownsRow wc.heap.size 3 1 (.slice VA (k + gn) vc) (k + gn) (ints (varsAt nv ins gn gn))) := own_below HV.out hb (Nat.le_refl _)
          have BW7 : Hid (Below w.heap.size w w7) := below_on2 BW.out hb
          clear RZ RC EO HV BW hsz hb hG d0 d1 dl
          have d0 := RZ7.out.cell 0
          have d1 := RZ7.out.cell 1
          have dl := RZ7.out.lt
          simp only [List.getElem?_cons_zero, List.getElem?_cons_succ] at d0 d1
          have df0 := RZ7.out.frozen 0
          have df1 := RZ7.out.frozen 1
          have k0 := RC7.out.cell 0
          have k1 := RC7.out.cell 1
          have k2 := RC7.out.cell 2
          have kl := RC7.out.lt
          simp only [List.getElem?_cons_zero, List.getElem?_cons_succ] at k0 k1 k2
          go_wp2_with fail
          have Z1 := RZ7.out.set 0 (.int .i64 ((nv : Int) + (gn : Int)))
          have RZ8 : Hid (Row (World.setCell (World.setCell w7 ⟨w.heap.size + 1 + 1, 0, none⟩ (.int .i64 ((nv : Int) + (gn : Int)))) ⟨w.heap.size + 1 + 1, 1, none⟩ (.slice XA xn xc)) (w.heap.size + 1 + 1) 30 [.int .i64 ((nv : Int) + (gn : Int)), .slice XA xn xc]) := Z1.set 1 (.slice XA xn xc)
          have EO8 : Hid (EOwn (World.setCell (World.setCell w7 ⟨w.heap.size + 1 + 1, 0, none⟩ (.int .i64 ((nv : Int) + (gn : Int)))) ⟨w.heap.size + 1 + 1, 1, none⟩ (.slice XA xn xc)) b0 w4.heap.size (.slice XA xn xc) sl' (f.cls ++ placeTo nv ins c.gates gn)) := (EO7.out.far (p := ⟨w.heap.size + 1 + 1, 0, none⟩) RZ7.out (by decide) (by decide) (by show _ ≤ w.heap.size + 1 + 1; omega) (.int .i64 ((nv : Int) + (gn : Int)))).far (p := ⟨w.heap.size + 1 + 1, 1, none⟩) Z1 (by decide) (by decide) (by show _ ≤ w.heap.size + 1 + 1; omega) (.slice XA xn xc)
          have HV8 : Hid (World.ownsRow (World.setCell (World.setCell w7 ⟨w.heap.size + 1 + 1, 0, none⟩ (.int .i64 ((nv : Int) + (gn : Int)))) ⟨w.heap.size + 1 + 1, 1, none⟩ (.slice XA xn xc)) wc.heap.size 3 1 (.slice VA (k + gn) vc) (k + gn) (ints (varsAt nv ins gn gn))) := own_set (p := ⟨w.heap.size + 1 + 1, 1, none⟩) (own_set (p := ⟨w.heap.size + 1 + 1, 0, none⟩) HV7.out RZ7.out (by decide) (.int .i64 ((nv : Int) + (gn : Int)))) Z1 (by decide) (.slice XA xn xc)
          have BW8 : Hid (Below w.heap.size w (World.setCell (World.setCell w7 ⟨w.heap.size + 1 + 1, 0, none⟩ (.int .i64 ((nv : Int) + (gn : Int)))) ⟨w.heap.size + 1 + 1, 1, none⟩ (.slice XA xn xc))) := (BW7.out.setCell (p := ⟨w.heap.size + 1 + 1, 0, none⟩) (by show _ ≤ w.heap.size + 1 + 1; omega) (.int .i64 ((nv : Int) + (gn : Int)))).setCell (p := ⟨w.heap.size + 1 + 1, 1, none⟩) (by show _ ≤ w.heap.size + 1 + 1; omega) (.slice XA xn xc)
          clear Z1 RZ7 EO7 HV7 BW7 RC7 d0 d1 dl df0 df1 k0 k1 k2 kl
          revert RZ8 EO8 HV8 BW8
          generalize (World.setCell (World.setCell w7 ⟨w.heap.size + 1 + 1, 0, none⟩ (.int .i64 ((nv : Int) + (gn : Int)))) ⟨w.heap.size + 1 + 1, 1, none⟩ (.slice XA xn xc)) = w8
          intro RZ8 EO8 HV8 BW8
          go_loopg [7, 15, 112] on (fun gg s7 _ s112 wr => ∃ (j : Nat) (v : Value), j ≤ on ∧ on - j ≤ gg ∧ s112 = .int .i64 j ∧ s7 = v ∧ Aside (Below w8.heap.size w8 wr) ∧ Aside (wr.ownsRow w8.heap.size 3 1 v j (ints (outsTo nv ins gn c.outs j))))
          case atStart => exact ⟨0, _, Nat.zero_le _, by omega, rfl, rfl, Below.refl _ _, World.ownsRow_nil _ _ _ _⟩
          case round =>
            obtain ⟨j, v7, hj, hgj, rfl, rfl, BN, OW⟩ := hrel
            have HBr : Hid (Below w.heap.size w wr) := below_on2 BW8.out BN.out
            obtain ⟨XB, xd, rfl, _⟩ := Rd.own OW.out
            by_cases hlj : j < on
            · have hljz : (j : Int) < (on : Int) := by omega
              obtain ⟨ad, rfl, _, hco⟩ := (HC.out.up HBr.out).outs.int hlj
              obtain ⟨o1, o2⟩ := outOk_at HPO.out (k := j) (by rw [HON.out]; exact hlj)
              rw [HLG.out, ← HKI.out] at o2
              have HOS : Hid (∀ x, (wiresV nv ins gn).getD (c.outs.getD j 0).toNat 0 = x → ints (outsTo nv ins gn c.outs j) ++ [.int .i64 x] = ints (outsTo nv ins gn c.outs (j + 1))) := fun x hx => by
                subst hx; simp [outsTo, List.range_succ, ints]
              generalize c.outs.getD j 0 = o at hco o1 o2 HOS
              obtain ⟨on', rfl⟩ : ∃ on' : Nat, o = (on' : Int) := ⟨o.toNat, by omega⟩
              have hvr : Hid (wr.ownsRow wc.heap.size 3 1 (.slice VA (k + gn) vc) (k + gn) (ints (varsAt nv ins gn gn))) := own_below HV8.out BN.out (Nat.le_refl _)
              obtain ⟨gv, cap9, hva, _, hgvl⟩ := hvr.out.form (by omega)
              injection hva with hva hva2 hva3
              subst hva hva3
              clear hva2
              have hcv := hvr.out.cellAt on' (by omega)
              rw [ints_get _ _ (by rw [varsAt_length _ _ _ _ (Nat.le_refl _), HLI.out]; omega), varsAt_all] at hcv
              obtain ⟨xv, hxv⟩ : ∃ xv, (wiresV nv ins gn).getD on' 0 = xv := ⟨_, rfl⟩
              rw [hxv] at hcv
              have HOS2 : Hid (ints (outsTo nv ins gn c.outs j) ++ [.int .i64 xv] = ints (outsTo nv ins gn c.outs (j + 1))) := HOS.out xv hxv
              have honz : (on' : Int) < (k : Int) + (gn : Int) := by omega
              have hb8 := BN.out.size
              clear hxv HOS
              go_wp2_with (at_builtin; refine wpList_app rfl (.tmp 116) (.tmp 121) 23 rfl w8.heap.size 3 (.int .i64 0) 1 8 Try.underlying23 int_infoE rfl (by decide) (by decide) (.slice XB j xd) (j) (ints (outsTo nv ins gn c.outs j)) rfl ?own (wr.heap.size + 1) (some ⟨wr.heap.size, 0, none⟩) 1 1 [.int .i64 xv] rfl ?rd ?one ?hb ?hbase ?_)
              case own => exact (OW.out).alloc _
              case rd => exact Rd.lit wr #[.int .i64 xv] 3 (sz := 1) (m := 1) rfl
              case one => first | (intro u hu; simp at hu; subst hu; rfl) | rfl
              case hb => omega
              case hbase => first | (simp; omega) | omega
              intro v' w' hown' hgrow' hat'
              have HOn : Hid (w'.ownsRow w8.heap.size 3 1 v' (j + 1) (ints (outsTo nv ins gn c.outs (j + 1)))) := (by show World.ownsRow _ _ _ _ _ _ _; rw [← HOS2.out]; exact hown')
              have HBn : Hid (Below w8.heap.size w8 w') := (BN.out.alloc hb8 _).grown hgrow' (by simp; omega) (fun q hq => (OW.out.lt q hq).1)
              clear hown' hgrow' hat' hco hcv hb8
              go_wp2
              go_roundg (on - (j + 1))
              case measure => omega
              case rel => exact ⟨j + 1, v', by omega, by omega, by go_num, rfl, HBn.out, HOn.out⟩
            · have hljz : ¬ (j : Int) < (on : Int) := by omega
              obtain rfl : on = j := by omega
              have RZ9 : Hid (Row wr (w.heap.size + 1 + 1) 30 [.int .i64 ((nv : Int) + (gn : Int)), .slice XA xn xc]) := rowCells RZ8.out BN.out
              have EO9 : Hid (EOwn wr b0 w4.heap.size (.slice XA xn xc) sl' (f.cls ++ placeTo nv ins c.gates gn)) := EO8.out.up (Nat.le_trans hb0 BW8.out.size) BN.out
              have HSZ : Hid (w.heap.size ≤ w8.heap.size) := BW8.out.size
              have HPO9 : Hid (placeO f c ins = outsTo nv ins gn c.outs on) := placeO_eq f c ins nv gn on HNV.out HLG.out HON.out
              have HRES : Hid (PlacePost b0 (placeR f c ins) (placeOuts f c ins) (placeErr f c ins) w (.returned (.tuple #[.agg #[.int .i64 ((nv : Int) + (gn : Int)), .slice XA xn xc], .slice XB on xd, .int .i64 0])) (World.setCell (World.setCell wr ⟨w.heap.size + 1 + 1, 0, none⟩ (.int .i64 ((nv : Int) + (gn : Int)))) ⟨w.heap.size + 1 + 1, 1, none⟩ (.slice XA xn xc))) := by
                have Z1 := RZ9.out.set 0 (.int .i64 ((nv : Int) + (gn : Int)))
                obtain ⟨q1, q2, q3⟩ := HCE.out
                show PlacePost _ _ _ _ _ _ _
                rw [q1, q2, q3, HPF.out, HPO9.out]
                refine ⟨XA, xn, xc, sl', XB, on, xd, rfl, ⟨HXN.out, by unfold maxLen; omega⟩, ?_, ?_, by unfold maxLen; omega, ?_⟩
                · exact ((EO9.out.far (p := ⟨w.heap.size + 1 + 1, 0, none⟩) RZ9.out (by decide) (by decide) (by show _ ≤ w.heap.size + 1 + 1; omega) (.int .i64 ((nv : Int) + (gn : Int)))).far (p := ⟨w.heap.size + 1 + 1, 1, none⟩) Z1 (by decide) (by decide) (by show _ ≤ w.heap.size + 1 + 1; omega) (.slice XA xn xc)).lo' HS4.out.2
                · exact own_base (own_set (p := ⟨w.heap.size + 1 + 1, 1, none⟩) (own_set (p := ⟨w.heap.size + 1 + 1, 0, none⟩) OW.out RZ9.out (by decide) (.int .i64 ((nv : Int) + (gn : Int)))) Z1 (by decide) (.slice XA xn xc)) HSZ.out
                · exact (HBr.out.setCell (p := ⟨w.heap.size + 1 + 1, 0, none⟩) (by show _ ≤ w.heap.size + 1 + 1; omega) (.int .i64 ((nv : Int) + (gn : Int)))).setCell (p := ⟨w.heap.size + 1 + 1, 1, none⟩) (by show _ ≤ w.heap.size + 1 + 1; omega) (.slice XA xn xc)
              have Z9 := (RZ9.out.set 0 (.int .i64 ((nv : Int) + (gn : Int)))).set 1 (.slice XA xn xc)
              have q0 := Z9.cell 0
              have q1 := Z9.cell 1
              simp only [List.getElem?_cons_zero, List.getElem?_cons_succ, List.set_cons_zero, List.set_cons_succ] at q0 q1
              clear Z9 HPO9 EO9 HSZ HBr BN OW HNV HKI HLG HON HC HPO HPF
              have d0 := RZ9.out.cell 0
              have d1 := RZ9.out.cell 1
              have dl := RZ9.out.lt
              simp only [List.getElem?_cons_zero, List.getElem?_cons_succ] at d0 d1
              have df0 := RZ9.out.frozen 0
              have df1 := RZ9.out.frozen 1
              clear RZ9
              go_wp2
              refine bodyPost_ret (v := .tuple #[.agg #[.int .i64 ((nv : Int) + (gn : Int)), .slice XA xn xc], .slice XB on xd, .int .i64 0]) (by simp [results, Try.results14, go_sem, q0, q1]) rfl ?_
              exact HRES.out
        · have HCE : Hid (placeR f c ins = noFml ∧ placeOuts f c ins = [] ∧ placeErr f c ins = 6) := placeBig HOK.out (by
            rw [HPF.out]; unfold fitsErr; rw [if_neg]; dsimp only; rw [HXN.out]; exact hft)
          rw [if_neg hft, if_neg hft] at HCT
          clear hft
          with_reducible refine HCT.mono ?_
          clear HCT
          rintro e w7 ⟨rfl, hG⟩
          have hb := grown_below hG
          have RZ7 : Hid (Row w7 (w.heap.size + 1 + 1) 30 [.int .i64 ((nv : Int) + (gn : Int)), .slice XA xn xc]) := (by show Row _ _ _ _; have := rowCells RZ.out hb; rw [show ((nv + gn : Nat) : Int) = (nv : Int) + (gn : Int) by omega] at this; exact this)
          have BW7 : Hid (Below w.heap.size w w7) := below_on2 BW.out hb
          clear RZ RC EO HV BW hsz hb hG d0 d1 dl
          have d0 := RZ7.out.cell 0
          have d1 := RZ7.out.cell 1
          have dl := RZ7.out.lt
          simp only [List.getElem?_cons_zero, List.getElem?_cons_succ] at d0 d1
          have df0 := RZ7.out.frozen 0
          have df1 := RZ7.out.frozen 1
          have BB := BW7.out
          clear BW7
          have Z9 := (((RZ7.out.set 0 (.int .i64 0)).set 1 (.slice none 0 0)).set 0 (.int .i64 0)).set 1 (.slice none 0 0)
          have q0 := Z9.cell 0
          have q1 := Z9.cell 1
          simp only [List.getElem?_cons_zero, List.getElem?_cons_succ, List.set_cons_zero, List.set_cons_succ] at q0 q1
          clear Z9
          go_wp2
          exact bodyPost_ret (v := .tuple #[.agg #[.int .i64 0, .slice none 0 0], .slice none 0 0, .int .i64 6]) (by simp [results, Try.results14, go_sem, q0, q1]) rfl (placePost_err HCE.out.1 HCE.out.2.1 HCE.out.2.2 (by go_grown))
  · have hne : ((k : Int) != c.inputs) = true := by simpa using hl
    have HCE : Hid (placeR f c ins = noFml ∧ placeOuts f c ins = [] ∧ placeErr f c ins = 2) := placeBad (by
      unfold placeOk
      rw [decide_eq_false (p := (ins.length : Int) = c.inputs) (by rw [HLI.out]; exact hl)]; simp)
    clear hr1 hr2 hl
    have qR : Hid (Row w2 (w.heap.size + 1) 25 [.int .i64 c.inputs, .slice GA gn gc, .slice OA on oc]) := (rowCells RC.out B_wa.out)
    have q0 := qR.out.cell 0
    have q1 := qR.out.cell 1
    have q2 := qR.out.cell 2
    have ql := qR.out.lt
    simp only [List.getElem?_cons_zero, List.getElem?_cons_succ] at q0 q1 q2
    clear qR
    have RZb : Hid (Row w2 (w.heap.size + 1 + 1) 30 [.int .i64 0, .slice none 0 0]) := (rowCells RZ.out B_wa.out)
    have d0 := RZb.out.cell 0
    have d1 := RZb.out.cell 1
    have dl := RZb.out.lt
    simp only [List.getElem?_cons_zero, List.getElem?_cons_succ] at d0 d1
    have df0 := RZb.out.frozen 0
    have df1 := RZb.out.frozen 1
    have BB := B_w.out
    go_wp2
    exact bodyPost_ret (v := .tuple #[.agg #[.int .i64 0, .slice none 0 0], .slice none 0 0, .int .i64 2]) (by simp [results, Try.results14, go_sem, d0, d1]) rfl (placePost_err HCE.out.1 HCE.out.2.1 HCE.out.2.2 (by go_grown))
end Go.Proofs.Ytofflkfkakddkaa
