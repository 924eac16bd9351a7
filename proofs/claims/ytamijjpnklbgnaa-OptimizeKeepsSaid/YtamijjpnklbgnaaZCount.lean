/-
  How many gates are left; removing twice. Plain.
-/
import Derived.Test.YtamijjpnklbgnaaZFix2
namespace Go.Proofs.Ytamijjpnklbgnaa
open Go.RowKit
set_option linter.unusedSimpArgs false
set_option linter.unusedVariables false
theorem rank_imp {c d : Circ} (k : Nat) (h : ∀ i, i < k → ndg d i = true → ndg c i = true) : rank d k ≤ rank c k := by
  induction k with
  | zero => exact Nat.le_refl _
  | succ k ih =>
    have := ih (fun i hi => h i (by omega))
    rw [rank_succ, rank_succ]
    split
    · rename_i hn
      rw [if_pos (h k (by omega) hn)]; omega
    · split <;> omega
theorem rank_onto {c : Circ} (K : Nat) : ∀ m, m < rank c K → ∃ i, i < K ∧ ndg c i = true ∧ rank c i = m := by
  induction K with
  | zero => intro m hm; exact absurd hm (Nat.not_lt_zero _)
  | succ K ih =>
    intro m hm
    rw [rank_succ] at hm
    split at hm
    · rename_i hn
      rcases Nat.lt_or_ge m (rank c K) with h1 | h1
      · obtain ⟨i, a, b, e⟩ := ih m h1
        exact ⟨i, by omega, b, e⟩
      · exact ⟨K, by omega, hn, by omega⟩
    · obtain ⟨i, a, b, e⟩ := ih m hm
      exact ⟨i, by omega, b, e⟩
theorem filter_at {c : Circ} (K : Nat) : ∀ i, i < K → ndg c i = true → ((List.range K).filter (ndg c))[rank c i]? = some i := by
  induction K with
  | zero => intro i hi; omega
  | succ K ih =>
    intro i hi hn
    rw [List.range_succ, List.filter_append]
    rcases Nat.lt_or_ge i K with h1 | h1
    · have h2 := ih i h1 hn
      have h3 : rank c i < ((List.range K).filter (ndg c)).length := (List.getElem?_eq_some_iff.1 h2).1
      rw [List.getElem?_append_left h3]; exact h2
    · obtain rfl : i = K := by omega
      have e : List.filter (ndg c) [i] = [i] := by simp [hn]
      rw [e, List.getElem?_append_right (show ((List.range i).filter (ndg c)).length ≤ rank c i from Nat.le_refl _)]
      show [i][rank c i - rank c i]? = _
      rw [Nat.sub_self]; rfl
theorem trim_gate {c : Circ} (h : rightC c = true) {i : Nat} (hi : i < c.gates.length) (hn : ndg c i = true) : gateAt (trimC c) (rank c i) = moveG (trimTo c c.gates.length).to (gateAt c i) := by
  have e : (trimC c).gates = ((List.range c.gates.length).filter (ndg c)).map (fun i => moveG (trimTo c c.gates.length).to (gateAt c i)) := by
    rw [trimC_eq h]; exact trim_gates h _ (Nat.le_refl _)
  unfold gateAt
  rw [e, List.getD_eq_getElem?_getD, List.getElem?_map, filter_at _ i hi hn]; rfl
theorem trim_need {c : Circ} (h : rightC c = true) {w : Nat} (hw : Ned c (w : Int)) : Ned (trimC c) (toAt (trimTo c c.gates.length).to (w : Int)) := by
  obtain ⟨⟨h0, h1, _⟩, _, ho⟩ := rightC_parts h
  have hcl := need_closed h
  have hT := trim_right h
  have hclT := need_closed hT
  have hin : (trimC c).inputs = c.inputs := by rw [trimC_eq h]; rfl
  have hgl := trimC_gl h
  have hto : ∀ k, k < c.gates.length → ndg c k = true → toAt (trimTo c c.gates.length).to (c.inputs + (k : Int)) = c.inputs + (rank c k : Int) := fun k hk hn => by
    show (trimTo c c.gates.length).to.getD _ 0 = _
    have e : (c.inputs + (k : Int)).toNat = c.inputs.toNat + k := by omega
    rw [e, trim_to_gate c h0 hk, if_pos hn]
  have hrk : ∀ k, k < c.gates.length → ndg c k = true → rank c k < (trimC c).gates.length := fun k hk hn => by
    have := rank_mono c (show k + 1 ≤ c.gates.length by omega)
    rw [rank_succ, if_pos hn] at this
    omega
  have hP : Closed c (fun w => Ned c w ∧ Ned (trimC c) (toAt (trimTo c c.gates.length).to w)) := by
    refine ⟨fun k hk => ⟨hcl.outs k hk, ?_⟩, fun k hk hp h2 => ⟨hcl.fst k hk hp.1 h2, ?_⟩, fun k hk hp h3 => ⟨hcl.snd k hk hp.1 h3, ?_⟩⟩
    · have e : (trimC c).outs = c.outs.map (toAt (trimTo c c.gates.length).to) := by rw [trimC_eq h]; rfl
      have := hclT.outs k (by rw [e, List.length_map]; exact hk)
      rw [e, List.getD_eq_getElem?_getD, List.getElem?_map, List.getElem?_eq_getElem hk] at this
      rw [List.getD_eq_getElem?_getD, List.getElem?_eq_getElem hk]; exact this
    · have hn : ndg c k = true := hp.1
      have ho2 := (gateOk_parts (gateAt_ok h hk)).1
      have q := hp.2
      rw [hto k hk hn] at q
      have := hclT.fst (rank c k) (hrk k hk hn) (by rw [hin]; exact q)
      rw [trim_gate h hk hn] at this
      rw [← moveG_a ho2 h2]; exact this h2
    · have hn : ndg c k = true := hp.1
      have ho2 := (gateOk_parts (gateAt_ok h hk)).1
      have q := hp.2
      rw [hto k hk hn] at q
      have := hclT.snd (rank c k) (hrk k hk hn) (by rw [hin]; exact q)
      rw [trim_gate h hk hn] at this
      rw [← moveG_b ho2 h3]; exact this h3
  have hw2 : (needC c).getD w false = true := by
    unfold Ned needAt at hw
    rwa [Int.toNat_natCast] at hw
  exact (need_min h hP w hw2).2
theorem trim_trim {c : Circ} (h : rightC c = true) : trimC (trimC c) = trimC c := by
  obtain ⟨⟨h0, h1, _⟩, _, ho⟩ := rightC_parts h
  refine trim_all (trim_right h) (fun m hm => ?_)
  rw [trimC_gl h] at hm
  obtain ⟨i, hi, hn, rfl⟩ := rank_onto _ m hm
  have hin : (trimC c).inputs = c.inputs := by rw [trimC_eq h]; rfl
  have hw : Ned c (((c.inputs.toNat + i : Nat) : Nat) : Int) := by
    have e : ((c.inputs.toNat + i : Nat) : Int) = c.inputs + (i : Int) := by omega
    rw [e]; exact hn
  have := trim_need h hw
  have e : toAt (trimTo c c.gates.length).to (((c.inputs.toNat + i : Nat) : Nat) : Int) = c.inputs + (rank c i : Int) := by
    show (trimTo c c.gates.length).to.getD _ 0 = _
    rw [Int.toNat_natCast, trim_to_gate c h0 hi, if_pos hn]
  rw [e] at this
  show needAt _ _ = true
  rw [hin]; exact this
/-- What the folded circuit needs is needed. -/
theorem fold_need {c : Circ} (h : rightC c = true) {w : Nat} (hw : Ned (foldC c) (w : Int)) : Ned c (w : Int) := by
  obtain ⟨⟨h0, h1, _⟩, _, ho⟩ := rightC_parts h
  have hcl := need_closed h
  have hch := foldChain c
  have key : ∀ k, k ≤ c.gates.length → (∀ w, w < c.inputs.toNat + k → Ned c (w : Int) → Ned c ((foldTo c k).to.getD w 0)) ∧ (∀ i, i < k → Ned c (c.inputs + (i : Int)) → (2 ≤ (gateAt (foldC c) i).op → Ned c (gateAt (foldC c) i).a) ∧ (3 ≤ (gateAt (foldC c) i).op → Ned c (gateAt (foldC c) i).b)) := fun k => by
    induction k with
    | zero =>
      intro _
      refine ⟨fun w hw hn => ?_, fun i hi => by omega⟩
      rw [hch.to_in 0 (by omega)]; exact hn
    | succ k ih =>
      intro hk
      obtain ⟨i1, i2⟩ := ih (by omega)
      have hs := foldTo_ok h k (by omega)
      obtain ⟨l1, l2⟩ := foldTo_len c k
      have hg := gateAt_ok h (show k < c.gates.length by omega)
      have hm := moveG_ok hs hg (by omega) (fun _ => trivial) (fun _ => trivial)
      obtain ⟨ho, ha, hb, _, _⟩ := gateOk_parts hg
      have hstep : Ned c (c.inputs + (k : Int)) → (2 ≤ (foldG c.inputs (foldTo c k).gates (moveG (foldTo c k).to (gateAt c k))).1.op → Ned c (foldG c.inputs (foldTo c k).gates (moveG (foldTo c k).to (gateAt c k))).1.a) ∧ (3 ≤ (foldG c.inputs (foldTo c k).gates (moveG (foldTo c k).to (gateAt c k))).1.op → Ned c (foldG c.inputs (foldTo c k).gates (moveG (foldTo c k).to (gateAt c k))).1.b) ∧ (0 ≤ (foldG c.inputs (foldTo c k).gates (moveG (foldTo c k).to (gateAt c k))).2 → Ned c (foldG c.inputs (foldTo c k).gates (moveG (foldTo c k).to (gateAt c k))).2) := fun hn => by
        refine foldG_P (P := Ned c) hm (fun h2 => ?_) (fun h3 => ?_) (fun x hx hw hlt => ?_)
        · have h2 : 2 ≤ (gateAt c k).op := h2
          have := ha h2
          rw [moveG_a ho h2]
          exact i1 _ (by omega) (by rw [Int.toNat_of_nonneg this.1]; exact hcl.fst k (by omega) hn h2)
        · have h3 : 3 ≤ (gateAt c k).op := h3
          have := hb h3
          rw [moveG_b ho h3]
          exact i1 _ (by omega) (by rw [Int.toNat_of_nonneg this.1]; exact hcl.snd k (by omega) hn h3)
        · obtain ⟨j, rfl, hj, hjo, hja⟩ := isW_gate hw hlt
          have e : gateAt (foldC c) j = (foldTo c k).gates.getD j default := by
            rw [foldC_eq h]; exact hch.g_keep (show k ≤ c.gates.length by omega) (by omega)
          rw [hja, ← e]
          exact (i2 j (by omega) hx).1 (by rw [e, hjo]; omega)
      refine ⟨fun w hw hn => ?_, fun i hi hn => ?_⟩
      · rcases Nat.lt_or_ge w (c.inputs.toNat + k) with h2 | h2
        · rw [hch.to_keep (Nat.le_succ k) h2]; exact i1 w h2 hn
        · obtain rfl : w = c.inputs.toNat + k := by omega
          have e : ((c.inputs.toNat + k : Nat) : Int) = c.inputs + (k : Int) := by omega
          rw [e] at hn
          rw [hch.to_at (Nat.lt_succ_self k)]
          split
          · exact hn
          · rename_i hz
            exact (hstep hn).2.2 (Int.not_lt.1 hz)
      · rcases Nat.lt_or_ge i k with h2 | h2
        · exact i2 i h2 hn
        · obtain rfl : i = k := by omega
          rw [fold_gate h (show i < c.gates.length by omega)]
          exact ⟨(hstep hn).1, (hstep hn).2.1⟩
  obtain ⟨k1, k2⟩ := key _ (Nat.le_refl _)
  have hF := fold_right h
  have lF := foldC_gl h
  have inF : (foldC c).inputs = c.inputs := by rw [foldC_eq h]; rfl
  have hP : Closed (foldC c) (Ned c) := by
    refine ⟨fun k hk => ?_, fun k hk hp h2 => ?_, fun k hk hp h3 => ?_⟩
    · have e : (foldC c).outs = c.outs.map (toAt (foldTo c c.gates.length).to) := by rw [foldC_eq h]; rfl
      rw [e, List.length_map] at hk
      have hb := outOk_at ho hk
      have e2 : ((foldC c).outs).getD k 0 = (foldTo c c.gates.length).to.getD (c.outs.getD k 0).toNat 0 := by
        rw [e, List.getD_eq_getElem?_getD, List.getElem?_map, List.getElem?_eq_getElem hk, List.getD_eq_getElem?_getD (l := c.outs), List.getElem?_eq_getElem hk]; rfl
      rw [e2]
      exact k1 _ (by omega) (by rw [Int.toNat_of_nonneg hb.1]; exact hcl.outs k hk)
    · rw [lF] at hk; rw [inF] at hp
      exact (k2 k hk hp).1 h2
    · rw [lF] at hk; rw [inF] at hp
      exact (k2 k hk hp).2 h3
  unfold Ned needAt at hw
  rw [Int.toNat_natCast] at hw
  exact need_min hF hP w hw
theorem nodup_le {l m : List Nat} (hl : l.Nodup) (h : ∀ x ∈ l, x ∈ m) : l.length ≤ m.length := by
  induction l generalizing m with
  | nil => exact Nat.zero_le _
  | cons a l ih =>
    rw [List.nodup_cons] at hl
    have ha : a ∈ m := h a (by simp)
    have := ih (m := m.erase a) hl.2 (fun x hx => by
      have hxa : x ≠ a := fun e => hl.1 (e ▸ hx)
      exact (List.mem_erase_of_ne hxa).2 (h x (by simp [hx])))
    rw [List.length_erase_of_mem ha] at this
    have hp : 0 < m.length := List.length_pos_of_mem ha
    rw [List.length_cons]; omega
/-- Sharing needs no more gates. -/
theorem share_rank {c : Circ} (h : rightC c = true) : rank (shareC c) c.gates.length ≤ rank c c.gates.length := by
  obtain ⟨⟨h0, h1, _⟩, _, ho⟩ := rightC_parts h
  have hcl := need_closed h
  have hch := shareChain c
  have hS := share_right h
  have lS := shareC_gl h
  have inS : (shareC c).inputs = c.inputs := by rw [shareC_eq h]; rfl
  have hQ : Closed (shareC c) (fun x => ∃ w : Nat, w < c.inputs.toNat + c.gates.length ∧ Ned c (w : Int) ∧ x = (shareTo c c.gates.length).to.getD w 0) := by
    have hgate : ∀ k, k < c.gates.length → (∃ w : Nat, w < c.inputs.toNat + c.gates.length ∧ Ned c (w : Int) ∧ c.inputs + (k : Int) = (shareTo c c.gates.length).to.getD w 0) → ∃ i, i < c.gates.length ∧ Ned c (c.inputs + (i : Int)) ∧ gateAt (shareC c) k = swapG (moveG (shareTo c i).to (gateAt c i)) := fun k hk ⟨w, hw, hn, e⟩ => by
      rcases Nat.lt_or_ge w c.inputs.toNat with h2 | h2
      · rw [hch.to_in _ h2] at e; omega
      · obtain ⟨i, rfl⟩ : ∃ i, w = c.inputs.toNat + i := ⟨w - c.inputs.toNat, by omega⟩
        have hi : i < c.gates.length := by omega
        have e2 : ((c.inputs.toNat + i : Nat) : Int) = c.inputs + (i : Int) := by omega
        rw [e2] at hn
        refine ⟨i, hi, hn, ?_⟩
        rw [share_to_at c hi] at e
        split at e
        · obtain rfl : k = i := by omega
          exact share_gate h hk
        · rename_i hz
          obtain ⟨j, hj, hjl, hje, _⟩ := knownW_some h0 (Int.not_lt.1 hz)
          rw [hj] at e
          rw [(hch.len i).1] at hjl
          clear hj hz
          obtain rfl : k = j := by omega
          rw [← hje, shareC_eq h]
          exact hch.g_keep (Nat.le_of_lt hi) hjl
    have hops : ∀ i, i < c.gates.length → Ned c (c.inputs + (i : Int)) → (2 ≤ (swapG (moveG (shareTo c i).to (gateAt c i))).op → ∃ w : Nat, w < c.inputs.toNat + c.gates.length ∧ Ned c (w : Int) ∧ (swapG (moveG (shareTo c i).to (gateAt c i))).a = (shareTo c c.gates.length).to.getD w 0) ∧ (3 ≤ (swapG (moveG (shareTo c i).to (gateAt c i))).op → ∃ w : Nat, w < c.inputs.toNat + c.gates.length ∧ Ned c (w : Int) ∧ (swapG (moveG (shareTo c i).to (gateAt c i))).b = (shareTo c c.gates.length).to.getD w 0) := fun i hi hn => by
      have hg := gateAt_ok h hi
      obtain ⟨ho, ha, hb, _, _⟩ := gateOk_parts hg
      refine swapG_P (P := fun x => ∃ w : Nat, w < c.inputs.toNat + c.gates.length ∧ Ned c (w : Int) ∧ x = (shareTo c c.gates.length).to.getD w 0) (fun h2 => ?_) (fun h3 => ?_) ho
      · have h2 : 2 ≤ (gateAt c i).op := h2
        have := ha h2
        rw [moveG_a ho h2]
        exact ⟨(gateAt c i).a.toNat, by omega, by rw [Int.toNat_of_nonneg this.1]; exact hcl.fst i hi hn h2, (hch.to_keep (Nat.le_of_lt hi) (by omega)).symm⟩
      · have h3 : 3 ≤ (gateAt c i).op := h3
        have := hb h3
        rw [moveG_b ho h3]
        exact ⟨(gateAt c i).b.toNat, by omega, by rw [Int.toNat_of_nonneg this.1]; exact hcl.snd i hi hn h3, (hch.to_keep (Nat.le_of_lt hi) (by omega)).symm⟩
    refine ⟨fun k hk => ?_, fun k hk hp h2 => ?_, fun k hk hp h3 => ?_⟩
    · have e : (shareC c).outs = c.outs.map (toAt (shareTo c c.gates.length).to) := by rw [shareC_eq h]; rfl
      rw [e, List.length_map] at hk
      have hb := outOk_at ho hk
      refine ⟨(c.outs.getD k 0).toNat, by omega, by rw [Int.toNat_of_nonneg hb.1]; exact hcl.outs k hk, ?_⟩
      rw [e, List.getD_eq_getElem?_getD, List.getElem?_map, List.getElem?_eq_getElem hk, List.getD_eq_getElem?_getD (l := c.outs), List.getElem?_eq_getElem hk]; rfl
    · rw [lS] at hk; rw [inS] at hp
      obtain ⟨i, hi, hn, e⟩ := hgate k hk hp
      rw [e] at h2 ⊢
      exact (hops i hi hn).1 h2
    · rw [lS] at hk; rw [inS] at hp
      obtain ⟨i, hi, hn, e⟩ := hgate k hk hp
      rw [e] at h3 ⊢
      exact (hops i hi hn).2 h3
  have hsub : ∀ x ∈ (List.range c.gates.length).filter (ndg (shareC c)), x ∈ ((List.range c.gates.length).filter (ndg c)).map (fun i => ((shareTo c c.gates.length).to.getD (c.inputs.toNat + i) 0 - c.inputs).toNat) := fun x hx => by
    rw [List.mem_filter, List.mem_range] at hx
    obtain ⟨hx1, hx2⟩ := hx
    unfold ndg needAt at hx2
    rw [inS] at hx2
    obtain ⟨w, hw, hn, e⟩ := need_min hS hQ _ hx2
    rcases Nat.lt_or_ge w c.inputs.toNat with h2 | h2
    · rw [hch.to_in _ h2] at e; omega
    · obtain ⟨i, rfl⟩ : ∃ i, w = c.inputs.toNat + i := ⟨w - c.inputs.toNat, by omega⟩
      have e2 : ((c.inputs.toNat + i : Nat) : Int) = c.inputs + (i : Int) := by omega
      rw [e2] at hn
      rw [List.mem_map]
      refine ⟨i, ?_, ?_⟩
      · rw [List.mem_filter, List.mem_range]
        exact ⟨by omega, hn⟩
      · rw [← e]; omega
  have := nodup_le (List.Nodup.sublist List.filter_sublist List.nodup_range) hsub
  rw [List.length_map] at this
  exact this
/-- A round leaves at most the gates that are needed. -/
theorem one_gates {c : Circ} (h : rightC c = true) : (oneC c).gates.length ≤ (trimC c).gates.length := by
  obtain ⟨⟨h0, h1, _⟩, _⟩ := rightC_parts h
  have hF := fold_right h
  have hS := share_right hF
  have lF := foldC_gl h
  have lS : (shareC (foldC c)).gates.length = c.gates.length := (shareC_gl hF).trans lF
  have inF : (foldC c).inputs = c.inputs := by rw [foldC_eq h]; rfl
  unfold oneC
  rw [trimC_gl hS, trimC_gl h, lS]
  have a := share_rank hF
  rw [lF] at a
  have b : rank (foldC c) c.gates.length ≤ rank c c.gates.length := rank_imp _ (fun i hi hn => by
    have e : ((c.inputs.toNat + i : Nat) : Int) = c.inputs + (i : Int) := by omega
    have := fold_need h (w := c.inputs.toNat + i) (by rw [e, ← inF]; exact hn)
    rw [e] at this
    exact this)
  omega
theorem trim_le {c : Circ} (h : rightC c = true) : (trimC c).gates.length ≤ c.gates.length := by rw [trimC_gl h]; exact rank_le _ _
theorem all_gates {c : Circ} (h : rightC c = true) : (allC c).gates.length ≤ (trimC c).gates.length := by
  cases hs : sameC (oneC c) c with
  | true =>
    have hf := FixC.of_same h hs
    rw [hf.all h, hf.trim_eq]; exact Nat.le_refl _
  | false =>
    obtain ⟨m', _, h2, h3⟩ := iter_go h (Nat.le_refl _) hs
    rw [allC, if_pos h, h3]
    exact (iter_ind (P := fun d => d.gates.length ≤ (trimC c).gates.length) (fun d hd hP => Nat.le_trans (Nat.le_trans (one_gates hd) (trim_le hd)) hP) m' (one_right h) h2 (one_gates h)).2.2
end Go.Proofs.Ytamijjpnklbgnaa
