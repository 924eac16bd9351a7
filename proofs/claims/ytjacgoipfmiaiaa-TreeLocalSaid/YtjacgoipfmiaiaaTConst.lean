/-
  tree.Constant and the reference's Constant, walked.
-/
import Derived.Test.YtjacgoipfmiaiaaTAll
import Derived.Test.YtjacgoipfmiaiaaTHood
namespace Go.Proofs.Ytjacgoipfmiaiaa
open Go.RowKit
set_option linter.unusedSimpArgs false
set_option linter.unusedVariables false
section
variable {B b r : Nat} {w w' : World} {ns : List Nd} {NA : Option Addr} {nc : Nat} {sl : List Sl}
/-- The nodes of a tree that has been built. -/
def TSl (w : World) (ns : List Nd) (NA : Option Addr) (nc : Nat) (sl : List Sl) : Prop :=
  w.ownsRow 0 41 2 (.slice NA ns.length nc) ns.length (nodesCells ns sl) ∧ sl.length = ns.length ∧ NextAt w ns sl none
theorem TFr.ownA {base sz n : Nat} {e : TypeId} {v : Value} {xs : List Value} (h : TFr w.heap.size b w w') (ho : w.ownsRow base e sz v n xs) (h1 : e ≠ 25) : w'.ownsRow base e sz v n xs :=
  ⟨ho.1, ho.2.imp id (fun ⟨g, cap, cur, a, c, d, r⟩ => ⟨g, cap, cur, a, c, h.keep g cur e (0, 0) h1 (fun _ => heap_lt d) d, r⟩)⟩
theorem TSl.frm (h : TSl w ns NA nc sl) (f : TFr w.heap.size r w w') : TSl w' ns NA nc sl :=
  ⟨f.ownA h.1 (by decide), h.2.1, fun i hi => ⟨f.ownA (h.2.2 i hi).1 (by decide), fun k hk => by cases hk⟩⟩
theorem TSl.at_ {HA : Option Addr} {hn : Nat} {hood : List Pt} {st : Int} (h : TSl w ns NA nc sl) (hh : Rd w w.heap.size 2 HA hn (hoodCells hood)) (h63 : hn ≤ maxLen) (hl : ns.length ≤ 5000) (hx : ∀ x ∈ ns, x.next.length ≤ 20) : TAt w ⟨st, hood, ns⟩ HA NA hn ns.length sl := by
  obtain ⟨h2, h3, h5⟩ := h
  refine ⟨hh, Rd.of_own h2, h3, fun i hi => ?_, h63, by unfold maxLen; show ns.length ≤ _; omega⟩
  have h6 := (h5 i hi).1
  refine ⟨Rd.of_own h6, ?_⟩
  have h7 := h6.1
  rw [ints_length] at h7
  have h8 : (ns.getD i default) ∈ ns := by
    rw [List.getD_eq_getElem?_getD, List.getElem?_eq_getElem hi]; exact List.getElem_mem hi
  have := hx _ h8
  unfold maxLen
  omega
theorem TSt.opl {st : Int} {hv : Value} {q : Option Nat} (h : TSt w B b st hv ns q) : ∃ NA nc sl, Row w b 25 [.int .i64 st, hv, .slice NA ns.length nc] ∧ TSl w ns NA nc sl := by
  obtain ⟨NA, nc, sl, h1, h2, h3, _, h5⟩ := h.op
  exact ⟨NA, nc, sl, h1, own_base h2 (Nat.zero_le _), h3, fun i hi => ⟨(h5 i hi).1, fun k hk => by cases hk⟩⟩
/-- Three cells of a tree's struct are written. -/
theorem TFr.store3 {a0 a1 a2 : Value} (h : Row w r 25 [a0, a1, a2]) (x0 x1 x2 : Value) :
    TFr w.heap.size r w (((w.setCell ⟨r, 0, none⟩ x0).setCell ⟨r, 1, none⟩ x1).setCell ⟨r, 2, none⟩ x2) ∧ Row (((w.setCell ⟨r, 0, none⟩ x0).setCell ⟨r, 1, none⟩ x1).setCell ⟨r, 2, none⟩ x2) r 25 [x0, x1, x2] := by
  have h1 := h.set 0 x0
  have h2 := h1.set 1 x1
  have f0 : TFr w.heap.size r w w := TFr.refl _ _ _
  have f1 := TFr.set (p := ⟨r, 0, none⟩) f0 h (Nat.le_refl _) x0
  have f2 := TFr.set (p := ⟨r, 1, none⟩) f1 h1 (Nat.le_refl _) x1
  exact ⟨TFr.set (p := ⟨r, 2, none⟩) f2 h2 (Nat.le_refl _) x2, h2.set 2 x2⟩
end
theorem chain_at (B b S lo c : Nat) (below to from_ : Int) (hv : Value) (ns : List Nd) (q : Option Nat) (w : World) (st : Int) (hst : st = (S : Int)) (hS : 2 ≤ S ∧ S ≤ 8) (hf : from_ = (lo : Int)) (ht : to = (lo : Int) + c - 1) (hlo : lo ≤ 100) (hc : c ≤ 100) (hl : ns.length ≤ 1000)
    (h : TSt w B b st hv ns q) (hBw : B ≤ w.heap.size) (hqw : ∀ k, q = some k → k < w.heap.size) :
    Calls Try.prog 33 #[.pointer (some ⟨b, 0, none⟩), .int .i64 from_, .int .i64 to, .int .i64 below] w fun e w' =>
      e = .returned (.int .i64 (nodesIn S ns lo below c).2) ∧ TSt w' B b st hv (nodesIn S ns lo below c).1 q ∧ TFr B b w w' := by
  subst hf
  exact chain_any B b S lo c below to hv ns q w st hst hS ht hlo hc hl h hBw hqw
theorem constErr_ok {st s : Int} {l : List Pt} (h1 : statesOk st = true) (h2 : hoodOk l = true) (h3 : 0 ≤ s ∧ s < st) : constErr st l s = 0 := by
  unfold constErr; rw [if_pos ⟨h1, h2⟩, if_pos h3]
theorem const_bad {st s : Int} {l : List Pt} (h : ¬ (statesOk st = true ∧ hoodOk l = true)) : constR st l s = noTre ∧ constErr st l s = 2 := by
  have e : constErr st l s = 2 := by unfold constErr; rw [if_neg h]
  exact ⟨by unfold constR; rw [e]; rfl, e⟩
theorem const_state {st s : Int} {l : List Pt} (h : statesOk st = true ∧ hoodOk l = true) (hs : ¬ (0 ≤ s ∧ s < st)) : constR st l s = noTre ∧ constErr st l s = 10 := by
  have e : constErr st l s = 10 := by unfold constErr; rw [if_pos h, if_neg hs]
  exact ⟨by unfold constR; rw [e]; rfl, e⟩

set_option maxRecDepth 100000 in
set_option maxHeartbeats 4000000 in
theorem tConst_any (st s : Int) (l : List Pt) (HA : Option Addr) (hn hc : Nat) (w : World) (hr : Rd w w.heap.size 2 HA hn (hoodCells l)) (hm : hn ≤ maxLen) :
    Calls Try.prog 20 #[.int .i64 st, .slice HA hn hc, .int .i64 s] w (TPost (constR st l s) (constErr st l s) w) := by
  have HR : Hid (Rd w w.heap.size 2 HA hn (hoodCells l)) := hr
  have HL : Hid (l.length = hn) := by have := hr.1; rw [hoodCells, flat2_length _ (fun _ => rfl)] at this; show _ = _; omega
  clear hr
  unfold maxLen at hm
  by_cases q1 : st < 2
  · have hd : decide (st < 2) = true := by simpa using q1
    have HCE : Hid (constR st l s = noTre ∧ constErr st l s = 2) := const_bad (fun h => by have := of_decide_eq_true h.1; omega)
    clear q1
    go_enter Try.func20, Try.ntmps20
    go_wp2
    exact bodyPost_ret (v := .tuple #[.agg #[.int .i64 0, .slice none 0 0, .slice none 0 0], .int .i64 2]) (by simp [results, Try.results20, go_sem]) rfl (by rw [HCE.out.2]; exact tpost_err HCE.out.1 (by go_grown))
  have hd1 : decide (st < 2) = false := by simpa using q1
  by_cases q2 : 8 < st
  · have hd : decide (8 < st) = true := by simpa using q2
    have HCE : Hid (constR st l s = noTre ∧ constErr st l s = 2) := const_bad (fun h => by have := of_decide_eq_true h.1; omega)
    clear q1 q2
    go_enter Try.func20, Try.ntmps20
    go_wp2
    exact bodyPost_ret (v := .tuple #[.agg #[.int .i64 0, .slice none 0 0, .slice none 0 0], .int .i64 2]) (by simp [results, Try.results20, go_sem]) rfl (by rw [HCE.out.2]; exact tpost_err HCE.out.1 (by go_grown))
  have hd2 : decide (8 < st) = false := by simpa using q2
  have HSO : Hid (statesOk st = true) := decide_eq_true (by omega)
  cases hh : hoodOk l
  · clear q1 q2
    have HCE : Hid (constR st l s = noTre ∧ constErr st l s = 2) := const_bad (fun h => by rw [hh] at h; cases h.2)

    go_enter Try.func20, Try.ntmps20
    go_wp2_with fail
    refine (hoodRight_any l HA hn hc _ (HR.out.up (by go_grown)) (by unfold maxLen; omega)).mono ?_
    rw [hh]
    rintro e w1 ⟨rfl, hb⟩
    have HB : Hid (Below w.heap.size w w1) := below_next hb (by go_grown)
    have RZ : Hid (Row w1 w.heap.size 25 [.int .i64 0, .slice none 0 0, .slice none 0 0]) := rowCells (Row.new w 25 [.int .i64 0, .slice none 0 0, .slice none 0 0]) hb
    clear hb
    have d0 := RZ.out.cell 0
    have d1 := RZ.out.cell 1
    have d2 := RZ.out.cell 2
    have dl := RZ.out.lt
    simp only [List.getElem?_cons_zero, List.getElem?_cons_succ] at d0 d1 d2
    have f0 := RZ.out.frozen 0
    have f1 := RZ.out.frozen 1
    have f2 := RZ.out.frozen 2
    have BB := HB.out
    go_wp2
    exact bodyPost_ret (v := .tuple #[.agg #[.int .i64 0, .slice none 0 0, .slice none 0 0], .int .i64 2]) (by simp [results, Try.results20, go_sem, d0, d1, d2]) rfl (by rw [HCE.out.2]; exact tpost_err HCE.out.1 (by go_grown))
  by_cases q3 : s < 0
  · have hd : decide (s < 0) = true := by simpa using q3
    clear q1 q2
    have HCE : Hid (constR st l s = noTre ∧ constErr st l s = 10) := const_state ⟨HSO.out, hh⟩ (by omega)
    clear q3
    go_enter Try.func20, Try.ntmps20
    go_wp2_with fail
    refine (hoodRight_any l HA hn hc _ (HR.out.up (by go_grown)) (by unfold maxLen; omega)).mono ?_
    rw [hh]
    rintro e w1 ⟨rfl, hb⟩
    have HB : Hid (Below w.heap.size w w1) := below_next hb (by go_grown)
    have RZ : Hid (Row w1 w.heap.size 25 [.int .i64 0, .slice none 0 0, .slice none 0 0]) := rowCells (Row.new w 25 [.int .i64 0, .slice none 0 0, .slice none 0 0]) hb
    clear hb
    have d0 := RZ.out.cell 0
    have d1 := RZ.out.cell 1
    have d2 := RZ.out.cell 2
    have dl := RZ.out.lt
    simp only [List.getElem?_cons_zero, List.getElem?_cons_succ] at d0 d1 d2
    have f0 := RZ.out.frozen 0
    have f1 := RZ.out.frozen 1
    have f2 := RZ.out.frozen 2
    have BB := HB.out
    go_wp2
    exact bodyPost_ret (v := .tuple #[.agg #[.int .i64 0, .slice none 0 0, .slice none 0 0], .int .i64 10]) (by simp [results, Try.results20, go_sem, d0, d1, d2]) rfl (by rw [HCE.out.2]; exact tpost_err HCE.out.1 (by go_grown))
  have hd3 : decide (s < 0) = false := by simpa using q3
  by_cases q4 : st ≤ s
  · have hd : decide (st ≤ s) = true := by simpa using q4
    clear q1 q2
    have HCE : Hid (constR st l s = noTre ∧ constErr st l s = 10) := const_state ⟨HSO.out, hh⟩ (by omega)
    clear q3 q4
    go_enter Try.func20, Try.ntmps20
    go_wp2_with fail
    refine (hoodRight_any l HA hn hc _ (HR.out.up (by go_grown)) (by unfold maxLen; omega)).mono ?_
    rw [hh]
    rintro e w1 ⟨rfl, hb⟩
    have HB : Hid (Below w.heap.size w w1) := below_next hb (by go_grown)
    have RZ : Hid (Row w1 w.heap.size 25 [.int .i64 0, .slice none 0 0, .slice none 0 0]) := rowCells (Row.new w 25 [.int .i64 0, .slice none 0 0, .slice none 0 0]) hb
    clear hb
    have d0 := RZ.out.cell 0
    have d1 := RZ.out.cell 1
    have d2 := RZ.out.cell 2
    have dl := RZ.out.lt
    simp only [List.getElem?_cons_zero, List.getElem?_cons_succ] at d0 d1 d2
    have f0 := RZ.out.frozen 0
    have f1 := RZ.out.frozen 1
    have f2 := RZ.out.frozen 2
    have BB := HB.out
    go_wp2
    exact bodyPost_ret (v := .tuple #[.agg #[.int .i64 0, .slice none 0 0, .slice none 0 0], .int .i64 10]) (by simp [results, Try.results20, go_sem, d0, d1, d2]) rfl (by rw [HCE.out.2]; exact tpost_err HCE.out.1 (by go_grown))
  have hd4 : decide (st ≤ s) = false := by simpa using q4
  have HE : Hid (constErr st l s = 0) := constErr_ok HSO.out hh ⟨by omega, by omega⟩
  have HRR : Hid (constR st l s = constT st l s) := by show _ = _; unfold constR; rw [HE.out]; rfl
  obtain ⟨l1, l25⟩ := hoodOk_len hh
  rw [HL.out] at l1 l25
  obtain ⟨S, hS⟩ : ∃ S : Nat, st = (S : Int) := ⟨st.toNat, by omega⟩
  have HST : Hid (st = (S : Int)) := hS
  have hS2 : 2 ≤ S := by omega
  have hS8 : S ≤ 8 := by omega
  have HNS : Hid (constT st l s = ⟨st, l, (nodesIn S [] 1 s hn).1⟩) := by show _ = _; rw [constT, HL.out, hS, Int.toNat_natCast]
  have HNL : Hid ((nodesIn S [] 1 s hn).1.length = hn) := by show _ = _; rw [nodesIn_length]; simp
  have HNX : Hid (∀ x ∈ (nodesIn S [] 1 s hn).1, x.next.length ≤ 20) := fun x hx => by
    rcases nodesIn_next _ _ _ _ _ _ hx with h | h
    · cases h
    · omega
  clear q1 q2 q3 q4 hS
  go_enter Try.func20, Try.ntmps20
  go_wp2_with fail
  refine (hoodRight_any l HA hn hc _ (HR.out.up (by go_grown)) (by unfold maxLen; omega)).mono ?_
  rw [hh]
  rintro e w1 ⟨rfl, hb⟩
  have HB : Hid (Below w.heap.size w w1) := below_next hb (by go_grown)
  have RZ : Hid (Row w1 w.heap.size 25 [.int .i64 0, .slice none 0 0, .slice none 0 0]) := rowCells (Row.new w 25 [.int .i64 0, .slice none 0 0, .slice none 0 0]) hb
  clear hb
  have d0 := RZ.out.cell 0
  have d1 := RZ.out.cell 1
  have d2 := RZ.out.cell 2
  have dl := RZ.out.lt
  simp only [List.getElem?_cons_zero, List.getElem?_cons_succ] at d0 d1 d2
  have f0 := RZ.out.frozen 0
  have f1 := RZ.out.frozen 1
  have f2 := RZ.out.frozen 2
  go_wp2_with fail
  refine (clone_pts HA hn hc l _ (HR.out.up HB.out) (by omega)).mono ?_
  rintro e w2 ⟨CA, cc, rfl, ho, hb⟩
  have HB := (show Hid (Below w.heap.size w w2) from below_on2 HB.out hb)
  have RZ := (show Hid (Row w2 _ _ _) from rowCells RZ.out hb)
  have HO : Hid (w2.ownsRow 0 43 2 (.slice CA hn cc) hn (hoodCells l)) := own_base ho (Nat.zero_le _)
  clear hb ho d0 d1 d2 dl f0 f1 f2
  have d0 := RZ.out.cell 0
  have d1 := RZ.out.cell 1
  have d2 := RZ.out.cell 2
  have dl := RZ.out.lt
  simp only [List.getElem?_cons_zero, List.getElem?_cons_succ] at d0 d1 d2
  have f0 := RZ.out.frozen 0
  have f1 := RZ.out.frozen 1
  have f2 := RZ.out.frozen 2
  go_wp2_with fail
  obtain ⟨bx, hbx⟩ : ∃ bx : Nat, bx = w2.heap.size := ⟨_, rfl⟩
  have HTB : Hid (TSt (World.alloc w2 (.cells #[.int .i64 st, .slice CA hn cc, .slice none 0 0] 25)) (bx + 1) bx st (.slice CA hn cc) [] none) := TSt.new _ _ _ _ (by rw [hbx]; exact Row.new w2 25 [.int .i64 st, .slice CA hn cc, .slice none 0 0]) (Nat.le_succ _)
  have hn3 : Below w2.heap.size w2 (World.alloc w2 (.cells #[.int .i64 st, .slice CA hn cc, .slice none 0 0] 25)) := by go_grown
  have HSZ : Hid (bx + 1 ≤ (World.alloc w2 (.cells #[.int .i64 st, .slice CA hn cc, .slice none 0 0] 25)).heap.size) := by show _ ≤ _; rw [World.size_alloc]; omega
  have HB := (show Hid (Below w.heap.size w _) from below_on2 HB.out hn3)
  have RZ := (show Hid (Row _ _ _ _) from rowCells RZ.out hn3)
  have HO := (show Hid (World.ownsRow _ _ _ _ _ _ _) from own_below HO.out hn3 (Nat.le_refl _))
  have HZB : Hid (w.heap.size < bx) := by show _ < _; rw [hbx]; exact dl
  clear hn3 d0 d1 d2 dl f0 f1 f2
  rw [← hbx]
  clear hbx
  revert HTB HSZ HB RZ HO
  generalize World.alloc w2 (.cells #[.int .i64 st, .slice CA hn cc, .slice none 0 0] 25) = w3
  intro HTB HSZ HB RZ HO
  refine (chain_at (bx + 1) bx S 1 hn s hn 1 (.slice CA hn cc) [] none _ st HST.out ⟨hS2, hS8⟩ (by simp) (by omega) (by omega) (by omega) (by simp) HTB.out HSZ.out (fun k hk => by cases hk)).mono ?_
  rintro e w4 ⟨rfl, hts, htf⟩
  have RZ := (show Hid (Row w4 _ _ _) from RZ.out.below htf.below HZB.out)
  have HB := (show Hid (Below w.heap.size w w4) from HB.out.trans (htf.below.mono (Nat.le_of_lt HZB.out)))
  have HO := (show Hid (World.ownsRow w4 _ _ _ _ _ _) from htf.own HO.out (by decide) (by decide))
  obtain ⟨NA, nc, sl, hrow, htl⟩ := hts.opl
  rw [HNL.out] at hrow
  have HROW : Hid (Row w4 bx 25 [.int .i64 st, .slice CA hn cc, .slice NA hn nc]) := hrow
  have HTS : Hid (TSl w4 (nodesIn S [] 1 s hn).1 NA nc sl) := htl
  have HOK : Hid (∀ wz, TFr w4.heap.size w.heap.size w4 wz → World.ownsRow wz 0 43 2 (.slice CA hn cc) hn (hoodCells l)) := fun wz f => f.own HO.out (by decide) (by decide)
  clear hts htf hrow htl
  have d0 := RZ.out.cell 0
  have d1 := RZ.out.cell 1
  have d2 := RZ.out.cell 2
  have dl := RZ.out.lt
  simp only [List.getElem?_cons_zero, List.getElem?_cons_succ] at d0 d1 d2
  have f0 := RZ.out.frozen 0
  have f1 := RZ.out.frozen 1
  have f2 := RZ.out.frozen 2
  have e0 := HROW.out.cell 0
  have e1 := HROW.out.cell 1
  have e2 := HROW.out.cell 2
  have el := HROW.out.lt
  simp only [List.getElem?_cons_zero, List.getElem?_cons_succ] at e0 e1 e2
  have hbz : ¬ bx = w.heap.size := by have := HZB.out; omega
  have hbz2 : ¬ w.heap.size = bx := by have := HZB.out; omega
  go_wp2
  clear d0 d1 d2 dl f0 f1 f2 e0 e1 e2 el
  obtain ⟨g1, g2⟩ := TFr.store3 RZ.out (.int .i64 st) (.slice CA hn cc) (.slice NA hn nc)
  have HOO := HOK.out _ g1
  have HTL := TSl.frm HTS.out g1
  have r0 := g2.cell 0
  have r1 := g2.cell 1
  have r2 := g2.cell 2
  simp only [List.getElem?_cons_zero, List.getElem?_cons_succ] at r0 r1 r2
  have hbl : Below w.heap.size w _ := HB.out.trans g1.below
  clear g1 g2
  revert HOO HTL r0 r1 r2 hbl
  generalize (World.setCell (World.setCell (World.setCell _ ⟨w.heap.size, 0, none⟩ (.int .i64 st)) ⟨w.heap.size, 1, none⟩ _) ⟨w.heap.size, 2, none⟩ (.slice NA hn nc)) = wz
  intro HOO HTL r0 r1 r2 hbl
  refine bodyPost_ret (v := .tuple #[.agg #[.int .i64 st, .slice CA hn cc, .slice NA hn nc], .int .i64 0]) (by simp [results, Try.results20, go_sem, r0, r1, r2]) rfl ?_
  rw [HE.out, HRR.out, HNS.out]
  have hTA := HTL.at_ (st := st) (Rd.of_own HOO) (by unfold maxLen; omega) (by rw [HNL.out]; omega) HNX.out
  rw [HNL.out] at hTA
  exact ⟨CA, NA, hn, cc, hn, nc, sl, rfl, hTA, hbl⟩


set_option maxRecDepth 100000 in
set_option maxHeartbeats 4000000 in
theorem rConst_any (st s : Int) (l : List Pt) (HA : Option Addr) (hn hc : Nat) (w : World) (hr : Rd w w.heap.size 2 HA hn (hoodCells l)) (hm : hn ≤ maxLen) :
    Calls Try.prog 21 #[.int .i64 st, .slice HA hn hc, .int .i64 s] w (TPost (constR st l s) (constErr st l s) w) := by
  have HR : Hid (Rd w w.heap.size 2 HA hn (hoodCells l)) := hr
  have HL : Hid (l.length = hn) := by have := hr.1; rw [hoodCells, flat2_length _ (fun _ => rfl)] at this; show _ = _; omega
  clear hr
  unfold maxLen at hm
  by_cases q1 : st < 2
  · have hd : decide (st < 2) = true := by simpa using q1
    have HCE : Hid (constR st l s = noTre ∧ constErr st l s = 2) := const_bad (fun h => by have := of_decide_eq_true h.1; omega)
    clear q1
    go_enter Try.func21, Try.ntmps21
    go_wp2
    exact bodyPost_ret (v := .tuple #[.agg #[.int .i64 0, .slice none 0 0, .slice none 0 0], .int .i64 2]) (by simp [results, Try.results21, go_sem]) rfl (by rw [HCE.out.2]; exact tpost_err HCE.out.1 (by go_grown))
  have hd1 : decide (st < 2) = false := by simpa using q1
  by_cases q2 : 8 < st
  · have hd : decide (8 < st) = true := by simpa using q2
    have HCE : Hid (constR st l s = noTre ∧ constErr st l s = 2) := const_bad (fun h => by have := of_decide_eq_true h.1; omega)
    clear q1 q2
    go_enter Try.func21, Try.ntmps21
    go_wp2
    exact bodyPost_ret (v := .tuple #[.agg #[.int .i64 0, .slice none 0 0, .slice none 0 0], .int .i64 2]) (by simp [results, Try.results21, go_sem]) rfl (by rw [HCE.out.2]; exact tpost_err HCE.out.1 (by go_grown))
  have hd2 : decide (8 < st) = false := by simpa using q2
  have HSO : Hid (statesOk st = true) := decide_eq_true (by omega)
  cases hh : hoodOk l
  · clear q1 q2
    have HCE : Hid (constR st l s = noTre ∧ constErr st l s = 2) := const_bad (fun h => by rw [hh] at h; cases h.2)

    go_enter Try.func21, Try.ntmps21
    go_wp2_with fail
    refine (rHoodRight_any l HA hn hc _ (HR.out.up (by go_grown)) (by unfold maxLen; omega)).mono ?_
    rw [hh]
    rintro e w1 ⟨rfl, hb⟩
    have HB : Hid (Below w.heap.size w w1) := below_next hb (by go_grown)
    have RZ : Hid (Row w1 w.heap.size 25 [.int .i64 0, .slice none 0 0, .slice none 0 0]) := rowCells (Row.new w 25 [.int .i64 0, .slice none 0 0, .slice none 0 0]) hb
    clear hb
    have d0 := RZ.out.cell 0
    have d1 := RZ.out.cell 1
    have d2 := RZ.out.cell 2
    have dl := RZ.out.lt
    simp only [List.getElem?_cons_zero, List.getElem?_cons_succ] at d0 d1 d2
    have f0 := RZ.out.frozen 0
    have f1 := RZ.out.frozen 1
    have f2 := RZ.out.frozen 2
    have BB := HB.out
    go_wp2
    exact bodyPost_ret (v := .tuple #[.agg #[.int .i64 0, .slice none 0 0, .slice none 0 0], .int .i64 2]) (by simp [results, Try.results21, go_sem, d0, d1, d2]) rfl (by rw [HCE.out.2]; exact tpost_err HCE.out.1 (by go_grown))
  by_cases q3 : s < 0
  · have hd : decide (s < 0) = true := by simpa using q3
    clear q1 q2
    have HCE : Hid (constR st l s = noTre ∧ constErr st l s = 10) := const_state ⟨HSO.out, hh⟩ (by omega)
    clear q3
    go_enter Try.func21, Try.ntmps21
    go_wp2_with fail
    refine (rHoodRight_any l HA hn hc _ (HR.out.up (by go_grown)) (by unfold maxLen; omega)).mono ?_
    rw [hh]
    rintro e w1 ⟨rfl, hb⟩
    have HB : Hid (Below w.heap.size w w1) := below_next hb (by go_grown)
    have RZ : Hid (Row w1 w.heap.size 25 [.int .i64 0, .slice none 0 0, .slice none 0 0]) := rowCells (Row.new w 25 [.int .i64 0, .slice none 0 0, .slice none 0 0]) hb
    clear hb
    have d0 := RZ.out.cell 0
    have d1 := RZ.out.cell 1
    have d2 := RZ.out.cell 2
    have dl := RZ.out.lt
    simp only [List.getElem?_cons_zero, List.getElem?_cons_succ] at d0 d1 d2
    have f0 := RZ.out.frozen 0
    have f1 := RZ.out.frozen 1
    have f2 := RZ.out.frozen 2
    have BB := HB.out
    go_wp2
    exact bodyPost_ret (v := .tuple #[.agg #[.int .i64 0, .slice none 0 0, .slice none 0 0], .int .i64 10]) (by simp [results, Try.results21, go_sem, d0, d1, d2]) rfl (by rw [HCE.out.2]; exact tpost_err HCE.out.1 (by go_grown))
  have hd3 : decide (s < 0) = false := by simpa using q3
  by_cases q4 : st ≤ s
  · have hd : decide (st ≤ s) = true := by simpa using q4
    clear q1 q2
    have HCE : Hid (constR st l s = noTre ∧ constErr st l s = 10) := const_state ⟨HSO.out, hh⟩ (by omega)
    clear q3 q4
    go_enter Try.func21, Try.ntmps21
    go_wp2_with fail
    refine (rHoodRight_any l HA hn hc _ (HR.out.up (by go_grown)) (by unfold maxLen; omega)).mono ?_
    rw [hh]
    rintro e w1 ⟨rfl, hb⟩
    have HB : Hid (Below w.heap.size w w1) := below_next hb (by go_grown)
    have RZ : Hid (Row w1 w.heap.size 25 [.int .i64 0, .slice none 0 0, .slice none 0 0]) := rowCells (Row.new w 25 [.int .i64 0, .slice none 0 0, .slice none 0 0]) hb
    clear hb
    have d0 := RZ.out.cell 0
    have d1 := RZ.out.cell 1
    have d2 := RZ.out.cell 2
    have dl := RZ.out.lt
    simp only [List.getElem?_cons_zero, List.getElem?_cons_succ] at d0 d1 d2
    have f0 := RZ.out.frozen 0
    have f1 := RZ.out.frozen 1
    have f2 := RZ.out.frozen 2
    have BB := HB.out
    go_wp2
    exact bodyPost_ret (v := .tuple #[.agg #[.int .i64 0, .slice none 0 0, .slice none 0 0], .int .i64 10]) (by simp [results, Try.results21, go_sem, d0, d1, d2]) rfl (by rw [HCE.out.2]; exact tpost_err HCE.out.1 (by go_grown))
  have hd4 : decide (st ≤ s) = false := by simpa using q4
  have HE : Hid (constErr st l s = 0) := constErr_ok HSO.out hh ⟨by omega, by omega⟩
  have HRR : Hid (constR st l s = constT st l s) := by show _ = _; unfold constR; rw [HE.out]; rfl
  obtain ⟨l1, l25⟩ := hoodOk_len hh
  rw [HL.out] at l1 l25
  obtain ⟨S, hS⟩ : ∃ S : Nat, st = (S : Int) := ⟨st.toNat, by omega⟩
  have HST : Hid (st = (S : Int)) := hS
  have hS2 : 2 ≤ S := by omega
  have hS8 : S ≤ 8 := by omega
  have HNS : Hid (constT st l s = ⟨st, l, (nodesIn S [] 1 s hn).1⟩) := by show _ = _; rw [constT, HL.out, hS, Int.toNat_natCast]
  have HNL : Hid ((nodesIn S [] 1 s hn).1.length = hn) := by show _ = _; rw [nodesIn_length]; simp
  have HNX : Hid (∀ x ∈ (nodesIn S [] 1 s hn).1, x.next.length ≤ 20) := fun x hx => by
    rcases nodesIn_next _ _ _ _ _ _ hx with h | h
    · cases h
    · omega
  clear q1 q2 q3 q4 hS
  go_enter Try.func21, Try.ntmps21
  go_wp2_with fail
  refine (rHoodRight_any l HA hn hc _ (HR.out.up (by go_grown)) (by unfold maxLen; omega)).mono ?_
  rw [hh]
  rintro e w1 ⟨rfl, hb⟩
  have HB : Hid (Below w.heap.size w w1) := below_next hb (by go_grown)
  have RZ : Hid (Row w1 w.heap.size 25 [.int .i64 0, .slice none 0 0, .slice none 0 0]) := rowCells (Row.new w 25 [.int .i64 0, .slice none 0 0, .slice none 0 0]) hb
  clear hb
  have d0 := RZ.out.cell 0
  have d1 := RZ.out.cell 1
  have d2 := RZ.out.cell 2
  have dl := RZ.out.lt
  simp only [List.getElem?_cons_zero, List.getElem?_cons_succ] at d0 d1 d2
  have f0 := RZ.out.frozen 0
  have f1 := RZ.out.frozen 1
  have f2 := RZ.out.frozen 2
  go_wp2
  have HTB0 : Hid (Row (World.alloc w1 _) w1.heap.size 25 [.int .i64 st, .slice HA hn hc, .slice none 0 0]) := Row.new w1 25 [.int .i64 st, .slice HA hn hc, .slice none 0 0]
  have hn3 : Below w1.heap.size w1 (World.alloc w1 (.cells #[.int .i64 st, .slice HA hn hc, .slice none 0 0] 25)) := by go_grown
  have HSZ0 : Hid (w1.heap.size + 1 ≤ (World.alloc w1 (.cells #[.int .i64 st, .slice HA hn hc, .slice none 0 0] 25)).heap.size) := by show _ ≤ _; rw [World.size_alloc]; omega
  have HB := (show Hid (Below w.heap.size w _) from below_on2 HB.out hn3)
  have HZB0 : Hid (w.heap.size < w1.heap.size) := dl
  have RZ := (show Hid (Row _ _ _ _) from rowCells RZ.out hn3)
  clear hn3 d0 d1 d2 dl f0 f1 f2
  revert HTB0 HSZ0 HB RZ HZB0
  generalize World.alloc w1 (.cells #[.int .i64 st, .slice HA hn hc, .slice none 0 0] 25) = w3
  generalize w1.heap.size = b
  intro HTB0 HSZ0 HB HZB RZ
  obtain ⟨B, hBB⟩ : ∃ B : Nat, B = b + 1 := ⟨_, rfl⟩
  obtain ⟨hv, hhv⟩ : ∃ hv : Value, hv = .slice HA hn hc := ⟨_, rfl⟩
  obtain ⟨q, hq⟩ : ∃ q : Option Nat, q = none := ⟨_, rfl⟩
  have HHV : Hid (hv = .slice HA hn hc) := hhv
  have HTB : Hid (TSt w3 B b st hv [] q) := TSt.new _ _ _ _ (by rw [hhv]; exact HTB0.out) (by omega)
  have hbB : Hid (b ≤ B) := (by show _ ≤ _; omega)
  have HSZ : Hid (B ≤ w3.heap.size) := (by show _ ≤ _; have := HSZ0.out; omega)
  have HQ : Hid (q = none) := hq
  clear hBB hhv hq HTB0 HSZ0
  go_loopg [9, 10] hn (fun gg s9 s10 wr => ∃ (kk : Nat) (z : Int), kk ≤ hn ∧ hn - kk ≤ gg ∧ s10 = .int .i64 ((kk : Int) + 1) ∧ s9 = .int .i64 z ∧ Aside (z = (nodesIn S [] 1 s kk).2) ∧ Aside (TFr B b w3 wr) ∧ Aside (TSt wr B b st hv (nodesIn S [] 1 s kk).1 q))
  case atStart => exact ⟨0, s, Nat.zero_le _, by omega, by go_num, rfl, rfl, TFr.refl _ _ _, HTB.out⟩
  case round =>
    obtain ⟨kk, z, hkk, hgg, rfl, rfl, HZ, FF, RS⟩ := hrel
    have hlen := nodesIn_length S [] 1 s kk
    have hszr : B ≤ wr.heap.size := Nat.le_trans HSZ.out FF.out.below.size
    by_cases hlt : kk < hn
    · have hltz : (kk : Int) + 1 ≤ (hn : Int) := by omega
      have HSU : Hid (nodesIn S [] 1 s (kk + 1) = ((nodesIn S [] 1 s kk).1 ++ [⟨((1 + kk : Nat) : Int), List.replicate S (nodesIn S [] 1 s kk).2⟩], (((nodesIn S [] 1 s kk).1.length : Nat) : Int))) := rfl
      generalize nodesIn S [] 1 s kk = p at HZ RS HSU hlen
      obtain ⟨ms, pz⟩ := p
      dsimp only [List.length_nil] at hlen
      have HZ' : Hid (z = pz) := HZ.out
      have RS : Hid (TSt wr B b st hv ms q) := RS.out
      obtain ⟨NA, nc, sl, hrow9, hown9, hsl9, _, hx9⟩ := RS.out.op
      generalize hnn : ms.length = n at hrow9 hown9 hsl9 hlen
      have HMN : Hid (ms.length = n) := hnn
      have HSL : Hid (sl.length = ms.length) := hsl9.trans hnn.symm
      have HROW : Hid (Row wr b 25 [.int .i64 st, hv, .slice NA n nc]) := hrow9
      have HOG : Hid (wr.ownsRow B 41 2 (.slice NA n nc) n (nodesCells ms sl)) := hown9
      have HX : Hid (NextAt wr ms sl q) := hx9
      clear hrow9 hown9 hsl9 hx9 hnn
      have hqr : Hid (∀ k, q = some k → k < wr.heap.size) := fun k hk => by rw [HQ.out] at hk; cases hk
      have hn5 : n ≤ 2000 := by omega
      have HNK : Hid (n = kk) := (by show _ = _; omega)
      clear HZ hlen
      have e0 := HROW.out.cell 0
      have e1 := HROW.out.cell 1
      have e2 := HROW.out.cell 2
      have el := HROW.out.lt
      simp only [List.getElem?_cons_zero, List.getElem?_cons_succ] at e0 e1 e2
      go_wp2_with fail
      refine wp_region_L (fun w' => Row w' b 25 [.int .i64 st, hv, .slice NA n nc]) [7, 8, 9] (by kernel_rfl) (by exact HROW.out.drew) (fun hHeld => ?_)
      have HROWd : Hid (Row wr.drew b 25 [.int .i64 st, hv, .slice NA n nc]) := hHeld
      have HOGd : Hid (wr.drew.ownsRow B 41 2 (.slice NA n nc) n (nodesCells ms sl)) := HOG.out
      have HXd : Hid (NextAt wr.drew ms sl q) := HX.out
      have Fd : Hid (TFr B b w3 wr.drew) := FF.out.drew
      have hszd : Hid (B ≤ wr.drew.heap.size) := hszr
      have hqd : Hid (∀ k, q = some k → k < wr.drew.heap.size) := hqr.out
      clear HROW HOG HX FF hqr e0 e1 e2 el 
      revert hHeld HROWd HOGd HXd Fd hszd hqd
      generalize wr.drew = wQ
      intro hHeld HROWd HOGd HXd Fd hszd hqd
      have hszd2 := hszd.out
      refine restL_pure (i := 0) (v := ?vb1) rfl (by kernel_rfl) (by kernel_rfl) (by kernel_rfl) (fun _ _ _ h => h) (Or.inl ⟨by rfl, ?yb1⟩) ?rb1
      case yb1 => intro w' hSw; clear hSw; go_simp; try (with_reducible rfl)
      go_simp
      refine restL_pure (i := 2) (v := ?vb2) rfl (by kernel_rfl) (by kernel_rfl) (by kernel_rfl) (fun _ _ _ h => h) (Or.inl ⟨by rfl, ?yb2⟩) ?rb2
      case yb2 => intro w' hSw; clear hSw; go_simp; try (with_reducible rfl)
      go_simp
      refine restL_pure (i := 3) (v := ?vb3) rfl (by kernel_rfl) (by kernel_rfl) (by kernel_rfl) (fun _ _ _ h => h) (Or.inl ⟨by rfl, ?yb3⟩) ?rb3
      case yb3 => intro w' hSw; clear hSw; go_simp; try (with_reducible rfl)
      go_simp
      refine restL_pure (i := 4) (v := ?vb4) rfl (by kernel_rfl) (by kernel_rfl) (by kernel_rfl) (fun _ _ _ h => h) (Or.inl ⟨by rfl, ?yb4⟩) ?rb4
      case yb4 => intro w' hSw; clear hSw; go_simp; try (with_reducible rfl)
      go_simp
      refine restL_take (i := 1) (v := ?vb5) [[7], [8], [9]] rfl (by kernel_rfl) (by kernel_rfl) (by kernel_rfl) (by kernel_rfl) (fun _ _ _ h => h) (Or.inl ⟨by rfl, ?yb5⟩) hHeld ?rb5
      case yb5 =>
        intro w' hSw
        have hSh : Hid (Row w' b 25 [.int .i64 st, hv, .slice NA n nc]) := hSw
        clear hSw
        have z0 := hSh.out.cell 0
        have z1 := hSh.out.cell 1
        have z2 := hSh.out.cell 2
        have zl := hSh.out.lt
        simp only [List.getElem?_cons_zero, List.getElem?_cons_succ] at z0 z1 z2
        go_simp
        try (with_reducible rfl)
      go_simp
      refine restL_one (i := 5) (by kernel_rfl) rfl (fun K hK => ?_)
      go_simp
      go_at_call 34
      refine (all_any ((kk : Int) + 1) st z S _ HST.out hS8).mono ?_
      rintro e w4 ⟨AA, ac, rfl, HR4, hb4⟩
      have hn4 : Below wQ.heap.size wQ w4 := below_next hb4 (by go_grown)
      have HROWp : Hid (Row w4 b 25 [.int .i64 st, hv, .slice NA n nc]) := rowCells HROWd.out hn4
      have HOGp : Hid (w4.ownsRow B 41 2 (.slice NA n nc) n (nodesCells ms sl)) := own_below HOGd.out hn4 (Nat.le_refl _)
      have HXp : Hid (NextAt w4 ms sl q) := NextAt.keep HXd.out (fun k cs hk _ _ _ => (hn4.block k (heap_lt hk)).trans hk)
      have Fp : Hid (TFr B b w3 w4) := Fd.out.trans (TFr.ofBelow hn4 (Nat.le_trans hbB.out hszd.out))
      have hsz4 : Hid (B ≤ w4.heap.size) := Nat.le_trans hszd.out hn4.size
      have HRp : Hid (w4.ownsRow 0 3 1 (.slice AA S ac) S (ints (List.replicate S z))) := own_base HR4 (Nat.zero_le _)
      have hqp : Hid (∀ k, q = some k → (Value.slice AA S ac).ownBlock ≠ some k) := fun k hk e => by have h1 := hqd.out k hk; have h2 := (HR4.lt k e).1; omega
      have hbl4 := HROWp.out.lt
      clear HR4 hb4 hn4 hHeld HROWd HOGd HXd Fd hqd
      refine hK.out _ _ (fun _ => ?keep) (fun hHeld => ?_)
      case keep => exact HROWp.out
      have hHeld := hHeld rfl
      clear hK K
      try go_simp
      refine restL_one (i := 6) (by kernel_rfl) rfl (fun K hK => ?_)
      go_simp
      refine hK.out _ _ (fun _ => ?keep) (fun hHeld => ?_)
      case keep => exact HROWp.out.alloc _
      have hHeld := hHeld rfl
      clear hK K
      try go_simp
      refine restL_one (i := 7) (by kernel_rfl) rfl (fun K hK => ?_)
      refine step_app rfl (.tmp 42) (.tmp 47) 23 rfl B 41 (.agg #[.int .i64 0, .slice none 0 0]) 2 32 Try.underlying23 node_info rfl (by decide) (by decide) (.slice NA n nc) n (nodesCells ms sl) rfl ?own (w4.heap.size + 1) (some ⟨w4.heap.size, 0, none⟩) 1 1 [.int .i64 ((kk : Int) + 1), .slice AA S ac] rfl ?rd ?one ?hb ?hbase ?_
      case own => exact HOGp.out.alloc _
      case rd => exact Rd.lit w4 #[.int .i64 ((kk : Int) + 1), .slice AA S ac] 41 (sz := 2) (m := 1) rfl
      case one => first | exact nd_one _ _ _ _ | rfl
      case hb => omega
      case hbase => first | (have := hsz4.out; simp; omega) | (have := hsz4.out; omega)
      intro v' w' hown' hgrow' hat'
      obtain ⟨p1, p2, p3, p4⟩ := TSt.push (x := ⟨((kk : Int) + 1), List.replicate S z⟩) (s := ⟨AA, S, ac⟩) (HROWp.out.alloc _) (HOGp.out.alloc _) HMN.out HSL.out hbB.out (NextAt.keep HXp.out (fun k cs hk _ _ _ => (Below.heap_alloc _ _ k (heap_lt hk)).trans hk)) (HRp.out.alloc _) hqp.out hgrow' hown' (Fp.out.alloc (Nat.le_trans hbB.out hsz4.out) _)
      obtain ⟨VA, vc, rfl, _⟩ := Rd.own hown'
      have PR : Hid (Row w' b 25 [.int .i64 st, hv, .slice NA n nc]) := p1
      have PS : Hid (TSt (w'.setCell ⟨b, 2, none⟩ (.slice VA (n + 1) vc)) B b st hv (ms ++ [⟨((kk : Int) + 1), List.replicate S z⟩]) q) := p2
      have PF : Hid (TFr B b w3 (w'.setCell ⟨b, 2, none⟩ (.slice VA (n + 1) vc))) := p3
      clear p1 p2 p3 p4
      have q2 := PR.out.cell 2
      have qf := PR.out.frozen 2
      simp only [List.getElem?_cons_zero, List.getElem?_cons_succ] at q2
      clear hown' hgrow' hat' HROWp HOGp HXp Fp hsz4 HRp hqp
      refine hK.out _ _ (fun h => absurd h (by decide)) (fun _ => ?_)
      clear hK K
      try go_simp
      refine restL_pure (i := 8) (v := ?vb6) rfl (by kernel_rfl) (by kernel_rfl) (by kernel_rfl) (fun _ _ _ h => h) (Or.inl ⟨by rfl, ?yb6⟩) ?rb6
      case yb6 => intro w' hSw; clear hSw; go_simp; try (with_reducible rfl)
      go_simp
      refine restL_one (i := 9) (by kernel_rfl) rfl (fun K hK => ?_)
      go_simp
      refine hK.out _ _ (fun h => absurd h (by decide)) (fun _ => ?_)
      clear hK K
      try go_simp
      refine restL_done (by kernel_rfl) ?_ _
      have HR8 : Hid (Row (World.setCell w' ⟨b, 2, none⟩ (.slice VA (n + 1) vc)) b 25 [.int .i64 st, hv, .slice VA (n + 1) vc]) := PR.out.set 2 (.slice VA (n + 1) vc)
      clear q2 qf PR
      revert HR8 PS PF
      generalize World.setCell w' ⟨b, 2, none⟩ (.slice VA (n + 1) vc) = w8
      intro PS PF HR8
      have e0 := HR8.out.cell 0
      have e1 := HR8.out.cell 1
      have e2 := HR8.out.cell 2
      have el := HR8.out.lt
      simp only [List.getElem?_cons_zero, List.getElem?_cons_succ] at e0 e1 e2
      go_wp2
      go_roundg (hn - (kk + 1))
      case measure => omega
      case rel =>
        refine ⟨kk + 1, (kk : Int), by omega, by omega, by go_num, by go_num, ?_, PF.out, ?_⟩
        · show (kk : Int) = _
          rw [HSU.out, HMN.out, HNK.out]
        · show TSt _ _ _ _ _ _ _
          rw [HSU.out]
          have h := PS.out
          rw [HZ'.out, show (kk : Int) + 1 = ((1 + kk : Nat) : Int) by omega] at h
          exact h
    · have hltz : ¬ (kk : Int) + 1 ≤ (hn : Int) := by omega
      obtain rfl : hn = kk := by omega
      have RZ := (show Hid (Row wr _ _ _) from RZ.out.below FF.out.below HZB.out)
      have HB := (show Hid (Below w.heap.size w wr) from HB.out.trans (FF.out.below.mono (Nat.le_of_lt HZB.out)))
      obtain ⟨NA, nc, sl, hrow, htl⟩ := RS.out.opl
      rw [HNL.out] at hrow
      have HROW : Hid (Row wr b 25 [.int .i64 st, hv, .slice NA hn nc]) := hrow
      have HTS : Hid (TSl wr (nodesIn S [] 1 s hn).1 NA nc sl) := htl
      have HOK : Hid (∀ wz, TFr wr.heap.size w.heap.size wr wz → True) := fun wz f => trivial
      have hszx : Hid (b ≤ wr.heap.size) := Nat.le_trans hbB.out hszr
      clear hrow htl HZ RS FF hlen hszr
      rw [HHV.out] at HROW
      have d0 := RZ.out.cell 0
      have d1 := RZ.out.cell 1
      have d2 := RZ.out.cell 2
      have dl := RZ.out.lt
      simp only [List.getElem?_cons_zero, List.getElem?_cons_succ] at d0 d1 d2
      have f0 := RZ.out.frozen 0
      have f1 := RZ.out.frozen 1
      have f2 := RZ.out.frozen 2
      have e0 := HROW.out.cell 0
      have e1 := HROW.out.cell 1
      have e2 := HROW.out.cell 2
      have el := HROW.out.lt
      simp only [List.getElem?_cons_zero, List.getElem?_cons_succ] at e0 e1 e2
      have hbz : ¬ b = w.heap.size := by have := HZB.out; omega
      have hbz2 : ¬ w.heap.size = b := by have := HZB.out; omega
      go_wp2
      clear d0 d1 d2 dl f0 f1 f2 e0 e1 e2 el
      obtain ⟨g1, g2⟩ := TFr.store3 RZ.out (.int .i64 st) (.slice HA hn hc) (.slice NA hn nc)
      have HOO := HOK.out _ g1
      have HTL := TSl.frm HTS.out g1
      have r0 := g2.cell 0
      have r1 := g2.cell 1
      have r2 := g2.cell 2
      simp only [List.getElem?_cons_zero, List.getElem?_cons_succ] at r0 r1 r2
      have hbl : Below w.heap.size w _ := HB.out.trans g1.below
      clear g1 g2
      revert HOO HTL r0 r1 r2 hbl
      generalize (World.setCell (World.setCell (World.setCell _ ⟨w.heap.size, 0, none⟩ (.int .i64 st)) ⟨w.heap.size, 1, none⟩ _) ⟨w.heap.size, 2, none⟩ (.slice NA hn nc)) = wz
      intro HOO HTL r0 r1 r2 hbl

      refine bodyPost_ret (v := .tuple #[.agg #[.int .i64 st, .slice HA hn hc, .slice NA hn nc], .int .i64 0]) (by simp [results, Try.results21, go_sem, r0, r1, r2]) rfl ?_
      rw [HE.out, HRR.out, HNS.out]
      have hTA := HTL.at_ (st := st) (HR.out.up hbl) (by unfold maxLen; omega) (by rw [HNL.out]; omega) HNX.out
      rw [HNL.out] at hTA
      exact ⟨HA, NA, hn, hc, hn, nc, sl, rfl, hTA, hbl⟩

end Go.Proofs.Ytjacgoipfmiaiaa
