/-
 A part.
-/
import Derived.Test.YtiemhbogbaamlaaYE5
import Derived.Test.YtiemhbogbaamlaaYE2
import Derived.Test.YtiemhbogbaamlaaYE3
import Derived.Test.YtiemhbogbaamlaaYE1
import Derived.Maps.AppendAt
import Derived.RegionTactic
namespace Go.Proofs.Ytiemhbogbaamlaa
open Go.RowKit
set_option linter.unusedSimpArgs false
set_option linter.unusedVariables false
theorem fold_idem {c : Circ} (h : rightC c = true) (k : Nat) (hk : k ≤ c.gates.length) : Idem c.inputs (foldTo c k) k := by
 obtain ⟨⟨h0, h1, _⟩, _⟩ := rightC_parts h
 refine (foldChain c).idem h0 c.gates.length (fun i hi hI => ?_) k hk
 have hs := foldTo_ok h i (by omega)
 obtain ⟨l1, l2⟩ := foldTo_len c i
 have hg := gateAt_ok h hi
 have hm := moveG_ok hs hg (by omega) (fun _ => trivial) (fun _ => trivial)
 obtain ⟨ho, ha, hb, _, _⟩ := gateOk_parts hg
 refine foldG_P hm (fun h2 => ?_) (fun h3 => ?_) (fun x hx hw hlt => ?_)
 ·have h2 : 2 ≤ (gateAt c i).op := h2
  have := ha h2
  rw [moveG_a ho h2]; exact hI.to _ (by omega)
 ·have h3 : 3 ≤ (gateAt c i).op := h3
  have := hb h3
  rw [moveG_b ho h3]; exact hI.to _ (by omega)
 ·obtain ⟨j, rfl, hj, hjo, hja⟩ := isW_gate hw hlt
  rw [hja]; exact hI.ga j (by omega) (by omega)
theorem swapG_P {P : Int → Prop} {g : Gt} (pa : 2 ≤ g.op → P g.a) (pb : 3 ≤ g.op → P g.b) (ho : g.op = 0 ∨ g.op = 1 ∨ g.op = 2 ∨ g.op = 3 ∨ g.op = 4 ∨ g.op = 5) : (2 ≤ (swapG g).op → P (swapG g).a) ∧ (3 ≤ (swapG g).op → P (swapG g).b) := by
 unfold swapG
 split
 ·rename_i h
  have h2 := h.1
  rw [operandsO_of ho] at h2
  have h3 : 3 ≤ g.op := by split at h2 <;> (try split at h2) <;> omega
  exact ⟨fun _ => pb h3, fun _ => pa (by omega)⟩
 ·exact ⟨pa, pb⟩
theorem knownW_none {n : Int} {gs : List Gt} {g : Gt} (h : ∀ i, i < gs.length → gs.getD i default ≠ g) : knownW n gs g = -1 := by
 unfold knownW
 have : gs.findIdx? (fun x => gtEq x g) = none := by
  rw [List.findIdx?_eq_none_iff]
  intro x hx
  obtain ⟨i, hi, rfl⟩ := List.getElem_of_mem hx
  have h2 := h i hi
  rw [List.getD_eq_getElem?_getD, List.getElem?_eq_getElem hi] at h2
  rw [Bool.eq_false_iff]
  exact fun e => h2 ((gtEq_iff _ _).1 e)
 rw [this]
theorem knownW_some {n : Int} {gs : List Gt} {g : Gt} (h0 : 0 ≤ n) (h : 0 ≤ knownW n gs g) : ∃ j : Nat, knownW n gs g = n + (j : Int) ∧ j < gs.length ∧ gs.getD j default = g ∧ ∀ i, i < j → gs.getD i default ≠ g := by
 unfold knownW at h ⊢
 split at h
 ·rename_i k hk
  obtain ⟨hlt, he, hbef⟩ := List.findIdx?_eq_some_iff_getElem.1 hk
  refine ⟨k, rfl, hlt, ?_, fun i hi e => ?_⟩
  ·rw [List.getD_eq_getElem?_getD, List.getElem?_eq_getElem hlt]; exact (gtEq_iff _ _).1 he
  ·have := hbef i hi
   rw [List.getD_eq_getElem?_getD, List.getElem?_eq_getElem (by omega)] at e
   exact absurd ((gtEq_iff _ _).2 e) (by simpa using this)
 ·omega
theorem share_g_at (c : Circ) {k i : Nat} (hi : i < k) : (shareTo c k).gates.getD i default = swapG (moveG (shareTo c i).to (gateAt c i)) := (shareChain c).g_at hi
theorem share_to_at (c : Circ) {k i : Nat} (hi : i < k) : (shareTo c k).to.getD (c.inputs.toNat + i) 0 = if knownW c.inputs (shareTo c i).gates (swapG (moveG (shareTo c i).to (gateAt c i))) < 0 then c.inputs + (i : Int) else knownW c.inputs (shareTo c i).gates (swapG (moveG (shareTo c i).to (gateAt c i))) := (shareChain c).to_at hi
theorem share_idem {c : Circ} (h : rightC c = true) (k : Nat) (hk : k ≤ c.gates.length) : Idem c.inputs (shareTo c k) k := by
 obtain ⟨⟨h0, h1, _⟩, _⟩ := rightC_parts h
 have hch := shareChain c
 refine hch.idem h0 c.gates.length (fun i hi hI => ?_) k hk
 have hs := shareTo_ok h i (by omega)
 obtain ⟨l1, l2⟩ := shareTo_len c i
 have hg := gateAt_ok h hi
 have hm := moveG_ok hs hg (by omega) (fun _ => trivial) (fun _ => trivial)
 obtain ⟨ho, ha, hb, _, _⟩ := gateOk_parts hg
 have hop := (gateOk_parts hm).1
 have hsw := swapG_P (P := Fx c.inputs (shareTo c i) i) (g := moveG (shareTo c i).to (gateAt c i)) (fun h2 => by
  have h2 : 2 ≤ (gateAt c i).op := h2
  have := ha h2
  rw [moveG_a ho h2]; exact hI.to _ (by omega)) (fun h3 => by
  have h3 : 3 ≤ (gateAt c i).op := h3
  have := hb h3
  rw [moveG_b ho h3]; exact hI.to _ (by omega)) hop
 refine ⟨hsw.1, hsw.2, fun hz => ?_⟩
 show Fx c.inputs (shareTo c i) i (knownW c.inputs (shareTo c i).gates (swapG (moveG (shareTo c i).to (gateAt c i))))
 obtain ⟨j, hj, hjl, hje, hjb⟩ := knownW_some h0 (show 0 ≤ knownW c.inputs (shareTo c i).gates (swapG (moveG (shareTo c i).to (gateAt c i))) from hz)
 rw [hj]
 clear hj hz hsw hI hs hm
 have hji : j < i := by omega
 refine ⟨by omega, by omega, ?_⟩
 have e : (c.inputs + (j : Int)).toNat = c.inputs.toNat + j := by omega
 rw [e, share_to_at c hji, if_pos]
 have hgj : swapG (moveG (shareTo c j).to (gateAt c j)) = swapG (moveG (shareTo c i).to (gateAt c i)) := (share_g_at c hji).symm.trans hje
 rw [hgj, knownW_none]
 ·decide
 ·intro d hd
  rw [(hch.len j).1] at hd
  rw [← hch.g_keep (Nat.le_of_lt hji) hd]
  exact hjb d hd
theorem idem_closed {c : Circ} (h : rightC c = true) {s : Wk} (hs : Idem c.inputs s c.gates.length) (hl : s.gates.length = c.gates.length) : Closed (doneW c s) (Fx c.inputs s c.gates.length) := by
 obtain ⟨⟨h0, h1, _⟩, _, ho⟩ := rightC_parts h
 refine ⟨fun k hk => ?_, fun k hk _ h2 => hs.ga k (by rw [← hl]; exact hk) h2, fun k hk _ h3 => hs.gb k (by rw [← hl]; exact hk) h3⟩
 have hk' : k < c.outs.length := by simpa [doneW] using hk
 have e : (doneW c s).outs.getD k 0 = toAt s.to (c.outs.getD k 0) := by
  simp [doneW, List.getD_eq_getElem?_getD, List.getElem?_map, List.getElem?_eq_getElem hk']
 have hb := outOk_at ho hk'
 rw [e]
 exact hs.to _ (by omega)
structure FixC (c : Circ) : Prop where
 fold_eq : foldC c = c
 share_eq : shareC c = c
 trim_eq : trimC c = c
 need : ∀ i, i < c.gates.length → ndg c i = true
 fold : ∀ i, i < c.gates.length → foldG c.inputs (c.gates.take i) (gateAt c i) = (gateAt c i, -1)
 known : ∀ i, i < c.gates.length → ∀ j, j < i → gateAt c j ≠ gateAt c i
theorem all_id {c : Circ} (h : rightC c = true) {s : Wk} (hr : rightC (doneW c s) = true) (hs : Idem c.inputs s c.gates.length) (hl : s.gates.length = c.gates.length) (hin : ∀ w, w < c.inputs.toNat → s.to.getD w 0 = (w : Int)) (hn : ∀ i, i < c.gates.length → ndg (doneW c s) i = true) :
 ∀ w, w < c.inputs.toNat + c.gates.length → s.to.getD w 0 = (w : Int) := fun w hw => by
 obtain ⟨⟨h0, h1, _⟩, _, ho⟩ := rightC_parts h
 rcases Nat.lt_or_ge w c.inputs.toNat with h2 | h2
 ·exact hin w h2
 ·obtain ⟨i, rfl⟩ : ∃ i, w = c.inputs.toNat + i := ⟨w - c.inputs.toNat, by omega⟩
  have e : (c.inputs + (i : Int)).toNat = c.inputs.toNat + i := by omega
  have hni : (needC (doneW c s)).getD (c.inputs.toNat + i) false = true := by
   have := hn i (by omega)
   unfold ndg needAt at this
   rw [show ((doneW c s).inputs + (i : Int)).toNat = c.inputs.toNat + i from e] at this
   exact this
  have := need_min hr (idem_closed h hs hl) _ hni
  have e2 := this.2.2
  rw [Int.toNat_natCast] at e2
  exact e2
theorem gates_take {c : Circ} {s : Wk} {k : Nat} (hk : k ≤ c.gates.length) (hl : s.gates.length = k) (h : ∀ i, i < k → s.gates.getD i default = gateAt c i) : s.gates = c.gates.take k := by
 apply gates_ext (by rw [hl, List.length_take]; omega)
 intro i hi
 rw [h i (by omega), List.getD_eq_getElem?_getD, List.getElem?_take, if_pos (by omega), ← List.getD_eq_getElem?_getD]; rfl
theorem foldC_eq {c : Circ} (h : rightC c = true) : foldC c = doneW c (foldTo c c.gates.length) := by rw [foldC, if_pos h]
theorem shareC_eq {c : Circ} (h : rightC c = true) : shareC c = doneW c (shareTo c c.gates.length) := by rw [shareC, if_pos h]
theorem trimC_eq {c : Circ} (h : rightC c = true) : trimC c = doneW c (trimTo c c.gates.length) := by rw [trimC, if_pos h]
theorem foldC_gl {c : Circ} (h : rightC c = true) : (foldC c).gates.length = c.gates.length := by rw [foldC_eq h]; exact (foldTo_len c _).1
theorem shareC_gl {c : Circ} (h : rightC c = true) : (shareC c).gates.length = c.gates.length := by rw [shareC_eq h]; exact (shareTo_len c _).1
theorem fold_gate {c : Circ} (h : rightC c = true) {i : Nat} (hi : i < c.gates.length) : gateAt (foldC c) i = (foldG c.inputs (foldTo c i).gates (moveG (foldTo c i).to (gateAt c i))).1 := by
 rw [foldC_eq h]; exact (foldChain c).g_at hi
theorem share_gate {c : Circ} (h : rightC c = true) {i : Nat} (hi : i < c.gates.length) : gateAt (shareC c) i = swapG (moveG (shareTo c i).to (gateAt c i)) := by
 rw [shareC_eq h]; exact (shareChain c).g_at hi
theorem circ_ext {c d : Circ} (p : c.inputs = d.inputs) (q : c.gates = d.gates) (r : c.outs = d.outs) : c = d := by
 cases c; cases d; cases p; cases q; cases r; rfl
theorem fix_or_less {c : Circ} (h : rightC c = true) : FixC c ∨ measC (oneC c) < measC c := by
 obtain ⟨⟨h0, h1, _⟩, _, ho⟩ := rightC_parts h
 have hF := fold_right h
 have hS := share_right hF
 have lF := foldC_gl h
 have lS : (shareC (foldC c)).gates.length = c.gates.length := (shareC_gl hF).trans lF
 have inF : (foldC c).inputs = c.inputs := by rw [foldC_eq h]; rfl
 have inS : (shareC (foldC c)).inputs = c.inputs := by rw [shareC_eq hF]; exact inF
 have hm1 := trim_meas hS
 rw [lS] at hm1
 -- the weights
 have hwF : ∀ i, i < c.gates.length → baseW (gateAt (foldC c) i) ≤ baseW (gateAt c i) ∧ (baseW (gateAt (foldC c) i) = baseW (gateAt c i) → gateAt (foldC c) i = moveG (foldTo c i).to (gateAt c i)) := fun i hi => by
  rw [fold_gate h hi]
  have hs := foldTo_ok h i (by omega)
  obtain ⟨l1, l2⟩ := foldTo_len c i
  exact foldG_wt (moveG_ok hs (gateAt_ok h hi) (by omega) (fun _ => trivial) (fun _ => trivial))
 have hwS : ∀ i, i < c.gates.length → gateWt (gateAt (shareC (foldC c)) i) = baseW (gateAt (foldC c) i) := fun i hi => by
  rw [share_gate hF (by omega), swapG_wt, baseW_move]
 have hle : ∀ i, i < c.gates.length → gateWt (gateAt (shareC (foldC c)) i) ≤ gateWt (gateAt c i) := fun i hi => by
  rw [hwS i hi]; exact Nat.le_trans (hwF i hi).1 (baseW_le _)
 obtain ⟨s1, s2⟩ := sum_range_le (fun i => gateWt (gateAt (shareC (foldC c)) i)) (fun i => gateWt (gateAt c i)) c.gates.length hle
 have mS := meas_sum (shareC (foldC c))
 rw [lS] at mS
 have mC := meas_sum c
 rw [← mS, ← mC] at s1 s2
 by_cases hlt : measC (oneC c) < measC c
 ·exact .inr hlt
 refine .inl ?_
 have hlt : ¬ measC (trimC (shareC (foldC c))) < measC c := hlt
 have hr := rank_le (shareC (foldC c)) c.gates.length
 have hrk : rank (shareC (foldC c)) c.gates.length = c.gates.length := by omega
 have hnS := rank_all _ hrk
 have hwt := s2 (by omega)
 -- sharing changes no wire
 have hSd := shareC_eq hF
 have hidS : ∀ w, w < c.inputs.toNat + c.gates.length → (shareTo (foldC c) c.gates.length).to.getD w 0 = (w : Int) := by
  have hI := share_idem hF _ (Nat.le_refl _)
  have hc := all_id hF (by rw [← hSd]; exact hS) hI (shareTo_len _ _).1 (fun w hw => (shareChain _).to_in _ hw) (fun i hi => by rw [← hSd]; exact hnS i (by omega))
  rw [lF, inF] at hc
  exact hc
 have hgS : ∀ i, i < c.gates.length → gateAt (shareC (foldC c)) i = swapG (gateAt (foldC c) i) := fun i hi => by
  rw [share_gate hF (by omega)]
  congr 1
  exact moveG_id (L := c.inputs.toNat + i) (fun w hw => by rw [← (shareChain (foldC c)).to_keep (Nat.le_of_lt hi) (by rw [inF]; exact hw)]; exact hidS w (by omega)) (gateAt_ok hF (show i < (foldC c).gates.length by omega)) (by rw [inF]; omega)
 have hoS : (shareC (foldC c)).outs = (foldC c).outs := by
  rw [hSd]
  exact outs_id hF (fun w hw => by rw [lF]; exact hidS w (by rw [inF, lF] at hw; exact hw))
 -- all gates of the folded circuit are needed
 have hnF : ∀ i, i < c.gates.length → ndg (foldC c) i = true := fun i hi => by
  have hclF := need_closed hF
  have hcl : Closed (shareC (foldC c)) (Ned (foldC c)) := by
   refine ⟨fun k hk => ?_, fun k hk hP h2 => ?_, fun k hk hP h3 => ?_⟩
   ·rw [hoS] at hk ⊢; exact hclF.outs k hk
   ·rw [lS] at hk
    rw [inS, ← inF] at hP
    rw [hgS k hk] at h2 ⊢
    exact (swapG_P (P := Ned (foldC c)) (hclF.fst k (by omega) hP) (hclF.snd k (by omega) hP) (gateOk_parts (gateAt_ok hF (show k < (foldC c).gates.length by omega))).1).1 h2
   ·rw [lS] at hk
    rw [inS, ← inF] at hP
    rw [hgS k hk] at h3 ⊢
    exact (swapG_P (P := Ned (foldC c)) (hclF.fst k (by omega) hP) (hclF.snd k (by omega) hP) (gateOk_parts (gateAt_ok hF (show k < (foldC c).gates.length by omega))).1).2 h3
  have hni := hnS i hi
  unfold ndg needAt at hni
  have := need_min hS hcl _ hni
  rw [Int.toNat_of_nonneg (by rw [inS]; omega), inS] at this
  unfold ndg
  rw [inF]; exact this
 have hFd := foldC_eq h
 have hidF : ∀ w, w < c.inputs.toNat + c.gates.length → (foldTo c c.gates.length).to.getD w 0 = (w : Int) :=
  all_id h (by rw [← hFd]; exact hF) (fold_idem h _ (Nat.le_refl _)) (foldTo_len c _).1 (fun w hw => (foldChain c).to_in _ hw) (fun i hi => by rw [← hFd]; exact hnF i hi)
 have hmv : ∀ i, i < c.gates.length → moveG (foldTo c i).to (gateAt c i) = gateAt c i := fun i hi =>
  moveG_id (L := c.inputs.toNat + i) (fun w hw => by rw [← (foldChain c).to_keep (Nat.le_of_lt hi) hw]; exact hidF w (by omega)) (gateAt_ok h hi) (by omega)
 have hbase : ∀ i, i < c.gates.length → baseW (gateAt (foldC c) i) = baseW (gateAt c i) ∧ gateWt (gateAt c i) = baseW (gateAt c i) := fun i hi => by
  have a1 := hwt i hi
  have a1 : gateWt (gateAt (shareC (foldC c)) i) = gateWt (gateAt c i) := a1
  have a2 := hwS i hi
  have a3 := (hwF i hi).1
  have a4 := baseW_le (gateAt c i)
  omega
 have hgF : ∀ i, i < c.gates.length → gateAt (foldC c) i = gateAt c i := fun i hi => ((hwF i hi).2 (hbase i hi).1).trans (hmv i hi)
 have eF : foldC c = c := by
  refine circ_ext inF (gates_ext lF (fun i hi => hgF i (by omega))) ?_
  rw [hFd]; exact outs_id h hidF
 have hsw : ∀ i, i < c.gates.length → swapG (gateAt c i) = gateAt c i := fun i hi => sorted_of_wt (hbase i hi).2
 rw [eF] at hgS hoS lS inS hidS
 have eS : shareC c = c := circ_ext inS (gates_ext lS (fun i hi => (hgS i (by omega)).trans (hsw i (by omega)))) hoS
 have hnC : ∀ i, i < c.gates.length → ndg c i = true := fun i hi => by have := hnF i hi; rwa [eF] at this
 have htk : ∀ i, i ≤ c.gates.length → (foldTo c i).gates = c.gates.take i := fun i hi => gates_take hi (foldTo_len c i).1 (fun j hj => by
  rw [← (foldChain c).g_keep hi hj]
  have := hgF j (by omega)
  rw [hFd] at this
  exact this)
 have htkS : ∀ i, i ≤ c.gates.length → (shareTo c i).gates = c.gates.take i := fun i hi => gates_take hi (shareTo_len c i).1 (fun j hj => by
  rw [← (shareChain c).g_keep hi hj]
  have := (hgS j (by omega)).trans (hsw j (by omega))
  rw [shareC_eq h] at this
  exact this)
 refine ⟨eF, eS, trim_all h hnC, hnC, fun i hi => ?_, fun i hi j hj e => ?_⟩
 ·have hto := hidF (c.inputs.toNat + i) (by omega)
  rw [(foldChain c).to_at hi] at hto
  have hs := foldTo_ok h i (by omega)
  obtain ⟨l1, l2⟩ := foldTo_len c i
  obtain ⟨f1, f2, f3⟩ := foldG_ok hs.gok h0 (moveG_ok hs (gateAt_ok h hi) (by omega) (fun _ => trivial) (fun _ => trivial))
  have g1 := fold_gate h hi
  rw [hgF i hi] at g1
  rw [hmv i hi, htk i (by omega)] at g1 f2 f3 hto
  rw [List.length_take] at f3
  have e2 : (foldG c.inputs (c.gates.take i) (gateAt c i)).2 = -1 := by
   split at hto
   ·omega
   ·omega
  exact Prod.ext g1.symm e2
 ·have hto := hidS (c.inputs.toNat + i) (by omega)
  rw [(shareChain c).to_at hi] at hto
  have hmS : moveG (shareTo c i).to (gateAt c i) = gateAt c i :=
   moveG_id (L := c.inputs.toNat + i) (fun w hw => by rw [← (shareChain c).to_keep (Nat.le_of_lt hi) hw]; exact hidS w (by omega)) (gateAt_ok h hi) (by omega)
  have hk : (shareG c.inputs (shareTo c i) (gateAt c i)).2 = knownW c.inputs (c.gates.take i) (gateAt c i) := by
   show knownW c.inputs (shareTo c i).gates (swapG (moveG (shareTo c i).to (gateAt c i))) = _
   rw [hmS, hsw i hi, htkS i (by omega)]
  rw [hk] at hto
  have hbd := knownW_bd c.inputs (c.gates.take i) (gateAt c i) h0
  rw [List.length_take] at hbd
  have hneg : knownW c.inputs (c.gates.take i) (gateAt c i) = -1 := by
   split at hto
   ·omega
   ·omega
  unfold knownW at hneg
  split at hneg
  ·omega
  ·rename_i hnone
   have hj2 : j < (c.gates.take i).length := by rw [List.length_take]; omega
   have hmem : gateAt c j ∈ c.gates.take i := by
    have : gateAt c j = (c.gates.take i)[j] := by
     rw [List.getElem_take]
     unfold gateAt
     rw [List.getD_eq_getElem?_getD, List.getElem?_eq_getElem (by omega)]; rfl
    rw [this]; exact List.getElem_mem hj2
   have := List.findIdx?_eq_none_iff.1 hnone _ hmem
   rw [(gtEq_iff _ _).2 e] at this
   cases this
theorem FixC.one {c : Circ} (h : FixC c) : oneC c = c := by unfold oneC; rw [h.fold_eq, h.share_eq, h.trim_eq]
theorem sameC_iff (c d : Circ) : sameC c d = true ↔ c = d := by
 constructor
 ·intro h
  simp only [sameC, Bool.and_eq_true, beq_iff_eq, decide_eq_true_eq] at h
  exact circ_ext h.1 h.2.1 h.2.2
 ·rintro rfl; simp [sameC]
theorem FixC.of_same {c : Circ} (h : rightC c = true) (hs : sameC (oneC c) c = true) : FixC c := by
 rcases fix_or_less h with h1 | h1
 ·exact h1
 ·rw [(sameC_iff _ _).1 hs] at h1; omega
theorem one_right {c : Circ} (h : rightC c = true) : rightC (oneC c) = true := trim_right (share_right (fold_right h))
theorem iter_stop {m : Nat} {c : Circ} (hs : sameC (oneC c) c = true) : iterC m c = c := by
 cases m with
 | zero => rfl
 | succ m => rw [iterC, if_pos hs]
theorem iter_go {m : Nat} {c : Circ} (h : rightC c = true) (hm : measC c ≤ m) (hs : sameC (oneC c) c = false) : ∃ m', m = m' + 1 ∧ measC (oneC c) ≤ m' ∧ iterC m c = iterC m' (oneC c) := by
 have hlt : measC (oneC c) < measC c := by
  rcases fix_or_less h with h1 | h1
  ·rw [h1.one, (sameC_iff _ _).2 rfl] at hs; cases hs
  ·exact h1
 obtain ⟨m', rfl⟩ : ∃ m', m = m' + 1 := ⟨m - 1, by omega⟩
 exact ⟨m', rfl, by omega, by rw [iterC, if_neg (by rw [hs]; decide)]⟩
theorem iter_ind {P : Circ → Prop} (hP : ∀ c, rightC c = true → P c → P (oneC c)) (m : Nat) {c : Circ} (h : rightC c = true) (hm : measC c ≤ m) (hc : P c) : rightC (iterC m c) = true ∧ FixC (iterC m c) ∧ P (iterC m c) := by
 induction m generalizing c with
 | zero =>
  rcases fix_or_less h with h1 | h1
  ·exact ⟨h, h1, hc⟩
  ·omega
 | succ m ih =>
  cases hs : sameC (oneC c) c with
  | true => rw [iter_stop hs]; exact ⟨h, FixC.of_same h hs, hc⟩
  | false =>
   obtain ⟨m', e, h2, h3⟩ := iter_go h hm hs
   obtain rfl : m = m' := by omega
   rw [h3]
   exact ih (one_right h) h2 (hP c h hc)
theorem all_ind {P : Circ → Prop} {c : Circ} (h : rightC c = true) (hP : ∀ c, rightC c = true → P c → P (oneC c)) (hc : P c) : rightC (allC c) = true ∧ FixC (allC c) ∧ P (allC c) := by
 rw [allC, if_pos h]
 exact iter_ind hP _ h (Nat.le_refl _) hc
theorem one_io {c : Circ} (h : rightC c = true) : (oneC c).inputs = c.inputs ∧ (oneC c).outs.length = c.outs.length := by
 have hF := fold_right h
 have hS := share_right hF
 unfold oneC
 rw [trimC_eq hS, shareC_eq hF, foldC_eq h]
 simp [doneW]
theorem one_sem {c : Circ} (h : rightC c = true) {vs : List Bool} (hv : (vs.length : Int) = c.inputs) : outsG evalB false (oneC c) vs = outsG evalB false c vs := by
 have hF := fold_right h
 have hS := share_right hF
 have inF : (foldC c).inputs = c.inputs := by rw [foldC_eq h]; rfl
 have inS : (shareC (foldC c)).inputs = c.inputs := by rw [shareC_eq hF]; exact inF
 unfold oneC
 rw [trim_sem hS (by rw [inS]; exact hv), share_sem hF (by rw [inF]; exact hv), fold_sem h hv]
theorem all_io {c : Circ} (h : rightC c = true) : (allC c).inputs = c.inputs ∧ (allC c).outs.length = c.outs.length :=
 (all_ind (P := fun d => d.inputs = c.inputs ∧ d.outs.length = c.outs.length) h (fun d hd hP => by rw [(one_io hd).1, (one_io hd).2]; exact hP) ⟨rfl, rfl⟩).2.2
theorem all_right {c : Circ} (h : rightC c = true) : rightC (allC c) = true := (all_ind (P := fun _ => True) h (fun _ _ _ => trivial) trivial).1
theorem all_sem {c : Circ} (h : rightC c = true) {vs : List Bool} (hv : (vs.length : Int) = c.inputs) : outsG evalB false (allC c) vs = outsG evalB false c vs :=
 (all_ind (P := fun d => d.inputs = c.inputs ∧ outsG evalB false d vs = outsG evalB false c vs) h (fun d hd hP => ⟨by rw [(one_io hd).1]; exact hP.1, by rw [one_sem hd (by rw [hP.1]; exact hv)]; exact hP.2⟩) ⟨rfl, rfl⟩).2.2.2
theorem FixC.all {c : Circ} (h : rightC c = true) (hf : FixC c) : allC c = c := by
 rw [allC, if_pos h]
 exact iter_stop ((sameC_iff _ _).2 hf.one)
end Go.Proofs.Ytiemhbogbaamlaa

/-
 A part.
-/
namespace Go.Proofs.Ytiemhbogbaamlaa
open Go.RowKit
set_option linter.unusedSimpArgs false
set_option linter.unusedVariables false
def bitOf (b : Nat) (x : BitVec 64) : Bool := x.getLsbD b
theorem evalW_bit (op : Int) (x y : BitVec 64) (b : Nat) (hb : b < 64) : bitOf b (evalW op x y) = evalB op (bitOf b x) (bitOf b y) := by
 unfold bitOf evalW evalB
 split
 ·rw [BitVec.getLsbD_allOnes]; simp [hb]
 ·split
  ·simp [hb]
  ·split
   ·simp
   ·split
    ·simp
    ·split
     ·simp
     ·simp
theorem getD_map_bit (vs : List (BitVec 64)) (b k : Nat) : (vs.map (bitOf b)).getD k false = bitOf b (vs.getD k 0) := by
 simp only [List.getD_eq_getElem?_getD, List.getElem?_map]
 cases vs[k]? <;> simp [bitOf]
theorem runG_bit (gs : List Gt) (vs : List (BitVec 64)) (b : Nat) (hb : b < 64) : (runG evalW 0 gs vs).map (bitOf b) = runG evalB false gs (vs.map (bitOf b)) := by
 induction gs generalizing vs with
 | nil => rfl
 | cons g l ih =>
  have h1 : runG evalW 0 (g :: l) vs = runG evalW 0 l (vs ++ [evalW g.op (vs.getD g.a.toNat 0) (vs.getD g.b.toNat 0)]) := rfl
  have h2 : runG evalB false (g :: l) (vs.map (bitOf b)) = runG evalB false l (vs.map (bitOf b) ++ [evalB g.op ((vs.map (bitOf b)).getD g.a.toNat false) ((vs.map (bitOf b)).getD g.b.toNat false)]) := rfl
  rw [h1, h2, ih, List.map_append, List.map_cons, List.map_nil, evalW_bit _ _ _ _ hb, getD_map_bit, getD_map_bit]
theorem outsG_bit (c : Circ) (vs : List (BitVec 64)) (b : Nat) (hb : b < 64) : (outsG evalW 0 c vs).map (bitOf b) = outsG evalB false c (vs.map (bitOf b)) := by
 simp only [outsG, List.map_map]
 apply List.map_congr_left
 intro o _
 simp only [Function.comp]
 rw [← runG_bit _ _ _ hb, getD_map_bit]
def low (b : Nat) (x : BitVec 64) : BitVec 64 := BitVec.ofNat 64 (x.toNat % 2 ^ b)
section
variable {α β : Type} (f g : α → β) (h : β → Value) (l : List α) (d : α)
end
end Go.Proofs.Ytiemhbogbaamlaa

/-
 A part.
-/
namespace Go.Proofs.Ytiemhbogbaamlaa
open Go.RowKit
set_option linter.unusedSimpArgs false
set_option linter.unusedVariables false
def circT (t : Tre) : Circ := allC (lowR t)
def inRows (t : Tre) (p : Pln) : List (List (BitVec 64)) := t.hood.flatMap (fun o => (moveP p o.x o.y).words)
def inAt (rows : List (List (BitVec 64))) (k : Nat) : List (BitVec 64) := rows.map (fun l => l.getD k 0#64)
def maskF (W k : Nat) : BitVec 64 := if k % wpr W = wpr W - 1 ∧ 0 < W % 64 then 1#64 <<< (W % 64) - 1#64 else BitVec.allOnes 64
def nextWord (t : Tre) (p : Pln) (b k : Nat) : BitVec 64 := (outsG evalW 0 (circT t) (inAt (inRows t p) k)).getD b 0#64 &&& maskF p.w.toNat k
def nextRow (t : Tre) (p : Pln) (b : Nat) : List (BitVec 64) := (List.range (wpr p.w.toNat * p.h.toNat)).map (nextWord t p b)
def nextPl (t : Tre) (p : Pln) : Pln := ⟨p.w, p.h, p.edge, (List.range p.words.length).map (nextRow t p)⟩
structure OkTP (t : Tre) (p : Pln) : Prop where
 ok : OkTG t (unpackG p)
 rp : rightPl p = true
 nb : p.words.length = bitsF t.states
 few : t.nodes.length ≤ 400
theorem maskLow (r : Nat) (hr : r < 64) (j : Nat) (hj : j < 64) : (1#64 <<< r - 1#64).getLsbD j = decide (j < r) := by
 have e : (1#64 <<< r - 1#64) = BitVec.ofNat 64 (2 ^ r - 1) := by
  apply BitVec.eq_of_toNat_eq
  have hp : 2 ^ r < 2 ^ 64 := Nat.pow_lt_pow_right (by omega) hr
  have h1 : 1 ≤ 2 ^ r := Nat.one_le_two_pow
  rw [BitVec.toNat_sub, BitVec.toNat_shiftLeft, BitVec.toNat_ofNat, BitVec.toNat_ofNat, Nat.shiftLeft_eq]
  have h2 : 1 % 2 ^ 64 = 1 := by decide
  have h3 : (2 ^ r - 1) % 2 ^ 64 = 2 ^ r - 1 := Nat.mod_eq_of_lt (by omega)
  rw [h2, Nat.one_mul, Nat.mod_eq_of_lt hp]
  rw [show 2 ^ 64 - 1 + 2 ^ r = 2 ^ 64 + (2 ^ r - 1) by omega, Nat.add_mod_left]
 rw [e, BitVec.getLsbD_ofNat, Nat.testBit_two_pow_sub_one]
 simp [hj]
theorem maskY_bit {W k : Nat} (hW : 1 ≤ W) (j : Nat) (hj : j < 64) : (maskF W k).getLsbD j = decide (64 * (k % wpr W) + j < W) := by
 obtain ⟨n1, n2, n3⟩ := wpr_bd hW
 have hm : k % wpr W < wpr W := Nat.mod_lt _ (by omega)
 unfold maskF
 generalize k % wpr W = i at *
 split
 ·rename_i h
  rw [maskLow _ (by omega) _ hj]
  rw [Bool.eq_iff_iff, decide_eq_true_iff, decide_eq_true_iff]
  have : wpr W = (W + 63) / 64 := rfl
  omega
 ·rename_i h
  rw [BitVec.getLsbD_allOnes, decide_eq_true hj]
  symm
  rw [decide_eq_true_iff]
  have : wpr W = (W + 63) / 64 := rfl
  omega
theorem tbit_bitI (v : Int) (b : Nat) : tbit v b = bitI v b := by
 unfold tbit bitI
 rw [Bool.eq_iff_iff, decide_eq_true_iff, beq_iff_eq]
section
variable {t : Tre} {p : Pln}
theorem OkTP.sizes (h : OkTP t p) : (1 ≤ p.w ∧ p.w ≤ 256) ∧ (1 ≤ p.h ∧ p.h ≤ 256) ∧ p.w * p.h ≤ 4096 ∧ 0 ≤ p.edge ∧ p.edge ≤ 2 := by
 obtain ⟨a, b, c, d⟩ := sizedF_parts (rightPl_parts h.rp).1
 exact ⟨a, b, c, d.1, d.2⟩
theorem moved_bits (h : rightPl p = true) (dx dy : Int) {k j : Nat} (hk : k < p.h.toNat * wpr p.w.toNat) (hx : 64 * (k % wpr p.w.toNat) + j < p.w.toNat) (hj : j < 64) :
 (moveP p dx dy).words.map (fun l => (l.getD k 0#64).getLsbD j) = bitsOf p.words.length (getF (unpackG p) (((64 * (k % wpr p.w.toNat) + j : Nat) : Int) + dx) (((k / wpr p.w.toNat : Nat) : Int) + dy)) := by
 obtain ⟨hs, _, _⟩ := rightPl_parts h
 obtain ⟨s1, s2, _⟩ := sizedF_parts hs
 have hW : 1 ≤ p.w.toNat := by omega
 have hy : k / wpr p.w.toNat < p.h.toNat := Nat.div_lt_of_lt_mul (by rw [Nat.mul_comm]; exact hk)
 unfold moveP packP bitsOf
 rw [List.map_map]
 apply List.map_congr_left
 intro b hb
 show ((planeF p.w.toNat p.h.toNat (movedG p dx dy).cells b).getD k 0#64).getLsbD j = _
 rw [planeF_get _ _ _ _ _ hk, mkW_get, decide_eq_true hj, decide_eq_true hx, Bool.true_and, Bool.true_and, movedG_get p dx dy _ _ hx hy, tbit_bitI]
theorem in_bits (h : OkTP t p) {k j : Nat} (hk : k < p.h.toNat * wpr p.w.toNat) (hx : 64 * (k % wpr p.w.toNat) + j < p.w.toNat) (hj : j < 64) :
 (inAt (inRows t p) k).map (bitOf j) = inputsB t (hoodIn (unpackG p) t.hood ((64 * (k % wpr p.w.toNat) + j : Nat) : Int) ((k / wpr p.w.toNat : Nat) : Int)) := by
 unfold inAt inRows inputsB hoodIn
 rw [List.map_map, List.map_flatMap, List.flatMap_map]
 congr 1
 funext o
 rw [← h.nb, ← moved_bits h.rp o.x o.y hk hx hj]
 rfl
theorem evalErr_hood (h : OkTG t (unpackG p)) (x y : Int) : evalErr t (hoodIn (unpackG p) t.hood x y) = 0 := by
 rw [evalErr, if_pos h.rt, if_pos (hoodIn_length _ _ _ _), if_pos (hoodIn_all h _ _ _)]
theorem circT_right (h : rightT t = true) (hm : t.nodes.length ≤ 400) : rightC (circT t) = true := all_right (lowR_right h hm)
theorem circT_io (h : rightT t = true) (hm : t.nodes.length ≤ 400) : (circT t).inputs = (lowN t : Int) ∧ (circT t).outs.length = bitsF t.states := by
 obtain ⟨h1, h2⟩ := all_io (lowR_right h hm)
 have hn : 0 < t.nodes.length := by have := (rightT_parts h).2.1; omega
 refine ⟨h1.trans (by rw [lowR, if_pos h]), h2.trans ?_⟩
 rw [lowR, if_pos h]
 exact lowM_row _ _ (by omega)
theorem inRows_length (h : OkTP t p) : (inRows t p).length = lowN t := by
 unfold inRows lowN
 rw [List.length_flatMap]
 have e : (t.hood.map (fun o : Pt => (moveP p o.x o.y).words.length)) = List.replicate t.hood.length (bitsF t.states) := by
  rw [List.eq_replicate_iff]
  refine ⟨by simp, fun n hn => ?_⟩
  obtain ⟨o, _, rfl⟩ := List.mem_map.1 hn
  rw [moveP, pack_len, h.nb]
 rw [e, List.sum_replicate_nat]
theorem next_bit (h : OkTP t p) {b k j : Nat} (hb : b < p.words.length) (hk : k < p.h.toNat * wpr p.w.toNat) (hx : 64 * (k % wpr p.w.toNat) + j < p.w.toNat) (hj : j < 64) :
 ((outsG evalW 0 (circT t) (inAt (inRows t p) k)).getD b 0#64).getLsbD j = tbit (nextAt t (unpackG p) ((64 * (k % wpr p.w.toNat) + j : Nat) : Int) ((k / wpr p.w.toNat : Nat) : Int)) b := by
 have e1 : ((outsG evalW 0 (circT t) (inAt (inRows t p) k)).map (bitOf j)).getD b false = ((outsG evalW 0 (circT t) (inAt (inRows t p) k)).getD b 0#64).getLsbD j := getD_map_bit _ _ _
 have he := evalErr_hood h.ok ((64 * (k % wpr p.w.toNat) + j : Nat) : Int) ((k / wpr p.w.toNat : Nat) : Int)
 rw [← e1, outsG_bit _ _ _ hj, in_bits h hk hx hj]
 unfold circT
 rw [all_sem (lowR_right h.ok.rt h.few) (by rw [inputs_len he, lowR, if_pos h.ok.rt]), (low_same he).1, bitsOf_get _ _ _ (by rw [← h.nb]; exact hb), tbit_bitI]
 rfl
theorem OkTP.hw (h : OkTP t p) : (unpackG p).cells.length = p.h.toNat * p.w.toNat := cellsP_length p
theorem next_cells (h : OkTP t p) {x y : Nat} (hx : x < p.w.toNat) (hy : y < p.h.toNat) : (nextG t (unpackG p)).cells.getD (y * p.w.toNat + x) 0 = nextAt t (unpackG p) (x : Int) (y : Int) := by
 obtain ⟨e1, e2⟩ := row_at (y := y) hx
 show ((List.range _).map _).getD _ 0 = _
 rw [List.getD_eq_getElem?_getD, List.getElem?_map, List.getElem?_range (by rw [h.hw]; exact row_ltP hx hy), Option.map_some, Option.getD_some]
 show nextAt t (unpackG p) (((y * p.w.toNat + x) % p.w.toNat : Nat) : Int) (((y * p.w.toNat + x) / p.w.toNat : Nat) : Int) = _
 rw [e1, e2]
theorem next_pl (h : OkTP t p) : nextPl t p = packP (nextG t (unpackG p)) p.words.length := by
 obtain ⟨⟨s1, s2⟩, ⟨s3, s4⟩, s5, s6⟩ := h.sizes
 have hW : 1 ≤ p.w.toNat := by omega
 obtain ⟨n1, n2, n3⟩ := wpr_bd hW
 show (⟨p.w, p.h, p.edge, (List.range p.words.length).map (nextRow t p)⟩ : Pln) = ⟨p.w, p.h, p.edge, (List.range p.words.length).map (planeF p.w.toNat p.h.toNat (nextG t (unpackG p)).cells)⟩
 congr 1
 apply List.map_congr_left
 intro b hb
 have hb := List.mem_range.1 hb
 apply List.ext_getElem
 ·simp [nextRow, planeF, Nat.mul_comm]
 intro k hk hk'
 have hk2 : k < p.h.toNat * wpr p.w.toNat := by rw [planeF_length] at hk'; exact hk'
 have hy : k / wpr p.w.toNat < p.h.toNat := Nat.div_lt_of_lt_mul (by rw [Nat.mul_comm]; exact hk2)
 have g1 : (planeF p.w.toNat p.h.toNat (nextG t (unpackG p)).cells b)[k] = (planeF p.w.toNat p.h.toNat (nextG t (unpackG p)).cells b).getD k 0#64 := by rw [List.getD_eq_getElem?_getD, List.getElem?_eq_getElem hk']; rfl
 rw [g1, planeF_get _ _ _ _ _ hk2]
 have e2 : (nextRow t p b)[k] = nextWord t p b k := by simp [nextRow]
 rw [e2]
 unfold nextWord
 apply word_ext
 intro j hj
 rw [BitVec.getLsbD_and, maskY_bit hW j hj, mkW_get, decide_eq_true hj, Bool.true_and]
 by_cases hx : 64 * (k % wpr p.w.toNat) + j < p.w.toNat
 ·rw [decide_eq_true hx, Bool.and_true, Bool.true_and, next_bit h hb hk2 hx hj, next_cells h hx hy]
 ·rw [decide_eq_false hx, Bool.and_false, Bool.false_and]
theorem next_packErr (h : OkTP t p) : packErr (nextG t (unpackG p)) p.words.length = 0 := by
 have hn := h.ok.next
 have hb := (rightPl_parts h.rp).2.1
 have hs := states_bd h.ok.rt
 have hp := bitsF_pow hs
 unfold packErr
 rw [if_pos ⟨hn.rg, by omega, by omega⟩, if_pos]
 rw [List.all_eq_true]
 intro s hs'
 have := (List.all_eq_true.1 hn.lt) s hs'
 simp only [ltStates, decide_eq_true_eq] at this
 rw [decide_eq_true_iff, Int.toNat_natCast, h.nb]
 omega
theorem next_unpack (h : OkTP t p) : unpackG (nextPl t p) = nextG t (unpackG p) := by
 have := unpack_pack (next_packErr h)
 rw [Int.toNat_natCast] at this
 rw [next_pl h]; exact this
theorem next_len (t : Tre) (p : Pln) : (nextPl t p).words.length = p.words.length := by simp [nextPl]
theorem OkTP.next (h : OkTP t p) : OkTP t (nextPl t p) := by
 refine ⟨by rw [next_unpack h]; exact h.ok.next, ?_, by rw [next_len]; exact h.nb, h.few⟩
 rw [next_pl h]
 have := pack_right (next_packErr h)
 rw [Int.toNat_natCast] at this
 exact this
end
def genPl (t : Tre) (p : Pln) : Nat → Pln
 | 0 => p
 | k + 1 => nextPl t (genPl t p k)
theorem OkTP.gen {t : Tre} {p : Pln} (h : OkTP t p) (k : Nat) : OkTP t (genPl t p k) := by
 induction k with
 | zero => exact h
 | succ k ih => exact ih.next
theorem gen_shape (t : Tre) (p : Pln) (k : Nat) : (genPl t p k).w = p.w ∧ (genPl t p k).h = p.h ∧ (genPl t p k).edge = p.edge ∧ (genPl t p k).words.length = p.words.length := by
 induction k with
 | zero => exact ⟨rfl, rfl, rfl, rfl⟩
 | succ k ih =>
  obtain ⟨a, b, c, d⟩ := ih
  exact ⟨a, b, c, by show (nextPl t _).words.length = _; rw [next_len, d]⟩
def checkPl (t : Tre) (p : Pln) : Int := if rightPl p = true ∧ p.words.length = bitsF t.states then (if (cellsP p).all (ltStates t) = true then 0 else 10) else 2
theorem check_ok {t : Tre} {p : Pln} (hr : rightT t = true) (hm : t.nodes.length ≤ 400) (h : checkPl t p = 0) : OkTP t p := by
 unfold checkPl at h
 split at h
 ·rename_i h1
  split at h
  ·rename_i h2
   exact ⟨⟨hr, unpack_right h1.1, h2⟩, h1.1, h1.2, hm⟩
  ·exact absurd h (by decide)
 ·exact absurd h (by decide)
theorem ok_check {t : Tre} {p : Pln} (h : OkTP t p) : checkPl t p = 0 := by
 unfold checkPl
 rw [if_pos ⟨h.rp, h.nb⟩]
 exact if_pos h.ok.lt
theorem check_cases (t : Tre) (p : Pln) : checkPl t p = 0 ∨ checkPl t p = 2 ∨ checkPl t p = 10 := by
 unfold checkPl
 split
 ·split
  ·exact .inl rfl
  ·exact .inr (.inr rfl)
 ·exact .inr (.inl rfl)
def runErr (t : Tre) (p : Pln) (n : Int) : Int := if checkPl t p = 0 then (if 0 ≤ n ∧ n ≤ 10000 then 0 else 2) else checkPl t p
def runPl (t : Tre) (p : Pln) (n : Int) : Pln := if runErr t p n = 0 then genPl t p n.toNat else noPln
end Go.Proofs.Ytiemhbogbaamlaa

/-
 A part.
-/
namespace Go.Proofs.Ytiemhbogbaamlaa
open Go.RowKit
set_option linter.unusedSimpArgs false
set_option linter.unusedVariables false
theorem run_app_empty {P : Program} {w : World} {base : Nat} {t ty e : TypeId} {i : TypeInfo} {size : Nat} (ht : P.underlying t = some (.slice e)) (hi : P.info? e = some i)
 {v : Value} {n : Nat} {xs : List Value} (hown : w.ownsRow base e size v n xs) (c : Nat) : (Builtin.append_ #[t, t] ty #[v, .slice none 0 c]).run P w = .ok v w := by
 rcases hown.2 with ⟨rfl, rfl⟩ | ⟨g, cap, cur, rfl, _, _, hnc, _⟩
 ·simp [Builtin.append_, run_underlying ht, sizeOf, typeInfo, hi, Builtin.lenOf, Builtin.firstCells]
 ·simp [Builtin.append_, run_underlying ht, sizeOf, typeInfo, hi, Builtin.lenOf, Builtin.firstCells, hnc, storeCells]
theorem run_app {P : Program} {w : World} {base : Nat} {t ty e : TypeId} {z : Value} {size bytes : Nat} (ht : P.underlying t = some (.slice e)) (hi : (P.info? e).map (fun i => (i.zero, i.size, i.bytes)) = some (some z, size, bytes))
 (hzs : z.cells.size = size) (hsz : 0 < size) (hb1 : 1 ≤ bytes) {v : Value} {n : Nat} {xs : List Value} (hown : w.ownsRow base e size v n xs)
 {B : Nat} {A : Option Addr} {m c : Nat} {news : List Value} (hr : Rd w B size A m news) (h1 : ∀ u ∈ news, u.oneCell' = true) (hbytes : (n + m) * bytes ≤ 140737488355328) (hbase : base ≤ w.heap.size) :
 ∃ v' w', (Builtin.append_ #[t, t] ty #[v, .slice A m c]).run P w = .ok v' w' ∧ w'.ownsRow base e size v' (n + m) (xs ++ news) ∧ w.grownBy w' v.ownBlock ∧ (v'.ownBlock = v.ownBlock ∨ v'.ownBlock = some w.heap.size) := by
 obtain ⟨i, g1, g2, g3, g4⟩ := info_parts hi
 have h63 : n + m ≤ maxLen := by
  have : n + m ≤ (n + m) * bytes := Nat.le_mul_of_pos_right _ hb1
  unfold maxLen; omega
 have key : ∀ ad : Addr, A = some ad → (∀ j u, news[j]? = some u → w.cell? (ad.add j) = some u) →
  ∃ v' w', (Builtin.append_ #[t, t] ty #[v, .slice A m c]).run P w = .ok v' w' ∧ w'.ownsRow base e size v' (n + m) (xs ++ news) ∧ w.grownBy w' v.ownBlock ∧ (v'.ownBlock = v.ownBlock ∨ v'.ownBlock = some w.heap.size) := fun ad e hc => by
  subst e
  obtain ⟨v', w', hrun, h2, h3, _, h5⟩ := run_append_own_at (P := P) w base t ty e i z size bytes ht g1 g2 g3 g4 hzs hsz v n xs hown ad m c news hr.1 hc h1 h63 hbytes hbase
  exact ⟨v', w', hrun, h2, h3, h5⟩
 rcases Nat.eq_zero_or_pos m with h0 | h0
 ·subst h0
  have hn : news = [] := List.eq_nil_of_length_eq_zero (by simpa using hr.1)
  subst hn
  cases A with
  | none => exact ⟨v, w, run_app_empty ht g1 hown c, by simpa using hown, World.grownBy.refl w _, .inl rfl⟩
  | some ad =>
   exact key ad rfl (by simp)
 ·obtain ⟨ad, e, _, hc⟩ := hr.2 h0
  exact key ad e hc
section
variable {P : Program} {w : World} {o : Oper} {a : Act} {Q : Exit → Act → World → Prop}
theorem wp_app {K : Act → World → Prop} (s x : Operand) (t : TypeId) (ho : o.op = .call { callee := .builtin .append, args := #[s, x], argTypes := #[t, t] })
 (base : Nat) (e : TypeId) (z : Value) (size bytes : Nat) (ht : P.underlying t = some (.slice e)) (hi : (P.info? e).map (fun i => (i.zero, i.size, i.bytes)) = some (some z, size, bytes))
 (hzs : z.cells.size = size) (hsz : 0 < size) (hb1 : 1 ≤ bytes) (v : Value) (n : Nat) (xs : List Value) (hs : a.eval s = v) (hown : w.ownsRow base e size v n xs)
 (B : Nat) (A : Option Addr) (m c : Nat) (news : List Value) (hx : a.eval x = .slice A m c) (hr : Rd w B size A m news) (h1 : ∀ u ∈ news, u.oneCell' = true) (hbytes : (n + m) * bytes ≤ 140737488355328) (hbase : base ≤ w.heap.size)
 (h : ∀ v' w', w'.ownsRow base e size v' (n + m) (xs ++ news) → w.grownBy w' v.ownBlock → (v'.ownBlock = v.ownBlock ∨ v'.ownBlock = some w.heap.size) → K (a.put o.dst v') w') : o.wp P a w K Q := by
 obtain ⟨v', w', hrun, h2, h3, h4⟩ := run_app (P := P) (ty := o.type) (c := c) ht hi hzs hsz hb1 hown hr h1 hbytes hbase
 unfold Oper.wp execOp
 simp only [ho, resolve, invoke, builtin, Sem.run_bind, Sem.run_pure, Result.andThen_ok, List.map_toArray, List.map_cons, List.map_nil, hs, hx, hrun]
 exact h v' w' h2 h3 h4
theorem wpList_app {ops : Array Oper} {rest : List Oper} (hgd : o.guard = none) (s x : Operand) (t : TypeId) (ho : o.op = .call { callee := .builtin .append, args := #[s, x], argTypes := #[t, t] })
 (base : Nat) (e : TypeId) (z : Value) (size bytes : Nat) (ht : P.underlying t = some (.slice e)) (hi : (P.info? e).map (fun i => (i.zero, i.size, i.bytes)) = some (some z, size, bytes))
 (hzs : z.cells.size = size) (hsz : 0 < size) (hb1 : 1 ≤ bytes) (v : Value) (n : Nat) (xs : List Value) (hs : a.eval s = v) (hown : w.ownsRow base e size v n xs)
 (B : Nat) (A : Option Addr) (m c : Nat) (news : List Value) (hx : a.eval x = .slice A m c) (hr : Rd w B size A m news) (h1 : ∀ u ∈ news, u.oneCell' = true) (hbytes : (n + m) * bytes ≤ 140737488355328) (hbase : base ≤ w.heap.size)
 (h : ∀ v' w', w'.ownsRow base e size v' (n + m) (xs ++ news) → w.grownBy w' v.ownBlock → (v'.ownBlock = v.ownBlock ∨ v'.ownBlock = some w.heap.size) → wpList P ops Q rest (a.put o.dst v') w') : wpList P ops Q (o :: rest) a w :=
 wpList_plain hgd fun _ hK => wp_app s x t ho base e z size bytes ht hi hzs hsz hb1 v n xs hs hown B A m c news hx hr h1 hbytes hbase fun v' w' h2 h3 h4 => hK _ _ (h v' w' h2 h3 h4)
theorem step_app {ops : Array Oper} {K : Act → World → Prop} {E : Prop} (hgd : o.guard = none) (s x : Operand) (t : TypeId) (ho : o.op = .call { callee := .builtin .append, args := #[s, x], argTypes := #[t, t] })
 (base : Nat) (e : TypeId) (z : Value) (size bytes : Nat) (ht : P.underlying t = some (.slice e)) (hi : (P.info? e).map (fun i => (i.zero, i.size, i.bytes)) = some (some z, size, bytes))
 (hzs : z.cells.size = size) (hsz : 0 < size) (hb1 : 1 ≤ bytes) (v : Value) (n : Nat) (xs : List Value) (hs : a.eval s = v) (hown : w.ownsRow base e size v n xs)
 (B : Nat) (A : Option Addr) (m c : Nat) (news : List Value) (hx : a.eval x = .slice A m c) (hr : Rd w B size A m news) (h1 : ∀ u ∈ news, u.oneCell' = true) (hbytes : (n + m) * bytes ≤ 140737488355328) (hbase : base ≤ w.heap.size)
 (h : ∀ v' w', w'.ownsRow base e size v' (n + m) (xs ++ news) → w.grownBy w' v.ownBlock → (v'.ownBlock = v.ownBlock ∨ v'.ownBlock = some w.heap.size) → K (a.put o.dst v') w') :
 if Region.wanted o (yielded ops a.tmps) = true then Oper.wp P o a w K Q else E := by
 have hw : Region.wanted o (yielded ops a.tmps) = true := by simp [Region.wanted, hgd]
 rw [if_pos hw]
 exact wp_app s x t ho base e z size bytes ht hi hzs hsz hb1 v n xs hs hown B A m c news hx hr h1 hbytes hbase h
end
theorem Rd.lit (w : World) (cs : Array Value) (T : TypeId) {sz m : Nat} (h : cs.size = m * sz) : Rd (w.alloc (.cells cs T)) (w.heap.size + 1) sz (some ⟨w.heap.size, 0, none⟩) m cs.toList :=
 ⟨by simpa using h, fun _ => ⟨_, rfl, Nat.lt_succ_self _, fun j u hu => by
  rw [add_zero_off, World.cell?_alloc_new]; simpa using hu⟩⟩
theorem own_far {w : World} {base : Nat} {e : TypeId} {sz n : Nat} {v : Value} {xs : List Value} (h : w.ownsRow base e sz v n xs) {p : Addr} (hp : v.ownBlock ≠ some p.block) (u : Value) : (w.setCell p u).ownsRow base e sz v n xs := by
 refine ⟨h.1, ?_⟩
 rcases h.2 with hn | ⟨g, cap, cur, rfl, hb, hg, rest⟩
 ·exact .inl hn
 ·exact .inr ⟨g, cap, cur, rfl, hb, by rw [Below.heap_setCell _ _ _ _ (fun e => hp (by simp [Value.ownBlock, e]))]; exact hg, rest⟩
theorem own_ne_row {w : World} {base : Nat} {e T : TypeId} {sz n g : Nat} {v : Value} {xs cs : List Value} (h : w.ownsRow base e sz v n xs) (hr : Row w g T cs) (hne : e ≠ T) : v.ownBlock ≠ some g := by
 rcases h.2 with ⟨rfl, _⟩ | ⟨g', cap, cur, rfl, _, hg, _⟩
 ·simp [Value.ownBlock]
 ·intro he
  obtain rfl : g' = g := by simpa [Value.ownBlock] using he
  unfold Row at hr
  rw [hg] at hr
  injection hr with hr
  injection hr with _ ht
  exact hne ht
theorem own_ne_own {w : World} {b b' : Nat} {e e' : TypeId} {sz sz' n n' : Nat} {v v' : Value} {xs xs' : List Value} (h : w.ownsRow b e sz v n xs) (h' : w.ownsRow b' e' sz' v' n' xs') (hne : e ≠ e') : v.ownBlock = none ∨ v.ownBlock ≠ v'.ownBlock := by
 rcases h.2 with ⟨rfl, _⟩ | ⟨g, cap, cur, rfl, _, hg, _⟩
 ·exact .inl rfl
 ·refine .inr ?_
  rcases h'.2 with ⟨rfl, _⟩ | ⟨g', cap', cur', rfl, _, hg', _⟩
  ·simp [Value.ownBlock]
  ·intro he
   obtain rfl : g = g' := by simpa [Value.ownBlock] using he
   rw [hg] at hg'
   injection hg' with hg'
   injection hg' with _ ht
   exact hne ht
theorem own_base {w : World} {base base' : Nat} {e : TypeId} {sz n : Nat} {v : Value} {xs : List Value} (h : w.ownsRow base e sz v n xs) (hb : base' ≤ base) : w.ownsRow base' e sz v n xs :=
 ⟨h.1, h.2.imp id (fun ⟨g, cap, cur, a, b, c⟩ => ⟨g, cap, cur, a, Nat.le_trans hb b, c⟩)⟩
theorem own_below {w w' : World} {base B : Nat} {e : TypeId} {sz n : Nat} {v : Value} {xs : List Value} (h : w.ownsRow base e sz v n xs) (hb : Below B w w') (hB : w.heap.size ≤ B) : w'.ownsRow base e sz v n xs := by
 refine ⟨h.1, ?_⟩
 rcases h.2 with hn | ⟨g, cap, cur, rfl, hbb, hg, rest⟩
 ·exact .inl hn
 ·have hlt : g < w.heap.size := (h.lt g rfl).2
  exact .inr ⟨g, cap, cur, rfl, hbb, by rw [hb.block g (by omega)]; exact hg, rest⟩
theorem Rd.own {w : World} {base : Nat} {e : TypeId} {sz n : Nat} {v : Value} {xs : List Value} (h : w.ownsRow base e sz v n xs) : ∃ A c, v = .slice A n c ∧ Rd w w.heap.size sz A n xs := by
 rcases h.2 with ⟨rfl, rfl⟩ | ⟨g, cap, cur, rfl, hb, hg, hc⟩
 ·refine ⟨none, 0, rfl, ?_⟩
  have : xs = [] := List.eq_nil_of_length_eq_zero (by simpa using h.1)
  rw [this]; exact Rd.empty none
 ·exact ⟨_, _, rfl, Rd.of_own h⟩
@[simp] theorem bools_length (bs : List Bool) : (bools bs).length = bs.length := by simp [bools]
theorem bools_get (bs : List Bool) (k : Nat) (h : k < bs.length) : (bools bs)[k]? = some (.bool (bs.getD k false)) := by
 simp [bools, List.getElem?_map, List.getElem?_eq_getElem h, List.getD_eq_getElem?_getD]
theorem Rd.bool {w : World} {B n : Nat} {A : Option Addr} {bs : List Bool} (h : Rd w B 1 A n (bools bs)) {k : Nat} (hk : k < n) :
 ∃ ad, A = some ad ∧ ad.block < B ∧ w.cell? (ad.add k) = some (.bool (bs.getD k false)) := by
 obtain ⟨ad, u, e, hb, hu, hc⟩ := h.get1 hk
 have hl : k < bs.length := by have := h.1; simp at this; omega
 rw [bools_get bs k hl] at hu
 injection hu with hu
 exact ⟨ad, e, hb, by rw [hc, hu]⟩
theorem w64s_get (bs : List (BitVec 64)) (k : Nat) (h : k < bs.length) : (w64s bs)[k]? = some (w64 (bs.getD k 0)) := by
 simp [w64s, List.getElem?_map, List.getElem?_eq_getElem h, List.getD_eq_getElem?_getD]
theorem Rd.word {w : World} {B n : Nat} {A : Option Addr} {bs : List (BitVec 64)} (h : Rd w B 1 A n (w64s bs)) {k : Nat} (hk : k < n) :
 ∃ ad, A = some ad ∧ ad.block < B ∧ w.cell? (ad.add k) = some (w64 (bs.getD k 0)) := by
 obtain ⟨ad, u, e, hb, hu, hc⟩ := h.get1 hk
 have hl : k < bs.length := by have := h.1; simp [w64s] at this; omega
 rw [w64s_get bs k hl] at hu
 injection hu with hu
 exact ⟨ad, e, hb, by rw [hc, hu]⟩
theorem w64s_one (zs : List (BitVec 64)) : ∀ u ∈ w64s zs, u.oneCell' = true := by
 intro u hu
 simp only [w64s, List.mem_map] at hu
 obtain ⟨x, _, rfl⟩ := hu
 rfl
end Go.Proofs.Ytiemhbogbaamlaa
