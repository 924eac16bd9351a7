/-
  How many gates are left; removing twice. Plain.
-/
import Derived.Test.YtamijjpnklbgnaaZCR14
import Derived.Test.YtamijjpnklbgnaaZCR2
import Derived.Test.YtamijjpnklbgnaaProg
import Derived.Laws.CopyOwn
import Derived.StillTailTactics
import Derived.BigQuiet
import Derived.Test.YtamijjpnklbgnaaZCR9
import Derived.Deep.Light
namespace Go.Proofs.Ytamijjpnklbgnaa
open Go.RowKit
set_option linter.unusedSimpArgs false
set_option linter.unusedVariables false
theorem rank_imp {c d : Circ} (k : Nat) (h : ∀ i, i < k → ndg d i = true → ndg c i = true) : rank d k ≤ rank c k := by
  induction k with
  | zero => exact Nat.le_refl _
  | succ k ih =>
    have := ih (fun i hi => h i (by omega))
    rw [rank_succ, rank_succ]
    split
    · rename_i hn
      rw [if_pos (h k (by omega) hn)]; omega
    · split <;> omega
theorem rank_onto {c : Circ} (K : Nat) : ∀ m, m < rank c K → ∃ i, i < K ∧ ndg c i = true ∧ rank c i = m := by
  induction K with
  | zero => intro m hm; exact absurd hm (Nat.not_lt_zero _)
  | succ K ih =>
    intro m hm
    rw [rank_succ] at hm
    split at hm
    · rename_i hn
      rcases Nat.lt_or_ge m (rank c K) with h1 | h1
      · obtain ⟨i, a, b, e⟩ := ih m h1
        exact ⟨i, by omega, b, e⟩
      · exact ⟨K, by omega, hn, by omega⟩
    · obtain ⟨i, a, b, e⟩ := ih m hm
      exact ⟨i, by omega, b, e⟩
theorem filter_at {c : Circ} (K : Nat) : ∀ i, i < K → ndg c i = true → ((List.range K).filter (ndg c))[rank c i]? = some i := by
  induction K with
  | zero => intro i hi; omega
  | succ K ih =>
    intro i hi hn
    rw [List.range_succ, List.filter_append]
    rcases Nat.lt_or_ge i K with h1 | h1
    · have h2 := ih i h1 hn
      have h3 : rank c i < ((List.range K).filter (ndg c)).length := (List.getElem?_eq_some_iff.1 h2).1
      rw [List.getElem?_append_left h3]; exact h2
    · obtain rfl : i = K := by omega
      have e : List.filter (ndg c) [i] = [i] := by simp [hn]
      rw [e, List.getElem?_append_right (show ((List.range i).filter (ndg c)).length ≤ rank c i from Nat.le_refl _)]
      show [i][rank c i - rank c i]? = _
      rw [Nat.sub_self]; rfl
theorem trim_gate {c : Circ} (h : rightC c = true) {i : Nat} (hi : i < c.gates.length) (hn : ndg c i = true) : gateAt (trimC c) (rank c i) = moveG (trimTo c c.gates.length).to (gateAt c i) := by
  have e : (trimC c).gates = ((List.range c.gates.length).filter (ndg c)).map (fun i => moveG (trimTo c c.gates.length).to (gateAt c i)) := by
    rw [trimC_eq h]; exact trim_gates h _ (Nat.le_refl _)
  unfold gateAt
  rw [e, List.getD_eq_getElem?_getD, List.getElem?_map, filter_at _ i hi hn]; rfl
theorem trim_need {c : Circ} (h : rightC c = true) {w : Nat} (hw : Ned c (w : Int)) : Ned (trimC c) (toAt (trimTo c c.gates.length).to (w : Int)) := by
  obtain ⟨⟨h0, h1, _⟩, _, ho⟩ := rightC_parts h
  have hcl := need_closed h
  have hT := trim_right h
  have hclT := need_closed hT
  have hin : (trimC c).inputs = c.inputs := by rw [trimC_eq h]; rfl
  have hgl := trimC_gl h
  have hto : ∀ k, k < c.gates.length → ndg c k = true → toAt (trimTo c c.gates.length).to (c.inputs + (k : Int)) = c.inputs + (rank c k : Int) := fun k hk hn => by
    show (trimTo c c.gates.length).to.getD _ 0 = _
    have e : (c.inputs + (k : Int)).toNat = c.inputs.toNat + k := by omega
    rw [e, trim_to_gate c h0 hk, if_pos hn]
  have hrk : ∀ k, k < c.gates.length → ndg c k = true → rank c k < (trimC c).gates.length := fun k hk hn => by
    have := rank_mono c (show k + 1 ≤ c.gates.length by omega)
    rw [rank_succ, if_pos hn] at this
    omega
  have hP : Closed c (fun w => Ned c w ∧ Ned (trimC c) (toAt (trimTo c c.gates.length).to w)) := by
    refine ⟨fun k hk => ⟨hcl.outs k hk, ?_⟩, fun k hk hp h2 => ⟨hcl.fst k hk hp.1 h2, ?_⟩, fun k hk hp h3 => ⟨hcl.snd k hk hp.1 h3, ?_⟩⟩
    · have e : (trimC c).outs = c.outs.map (toAt (trimTo c c.gates.length).to) := by rw [trimC_eq h]; rfl
      have := hclT.outs k (by rw [e, List.length_map]; exact hk)
      rw [e, List.getD_eq_getElem?_getD, List.getElem?_map, List.getElem?_eq_getElem hk] at this
      rw [List.getD_eq_getElem?_getD, List.getElem?_eq_getElem hk]; exact this
    · have hn : ndg c k = true := hp.1
      have ho2 := (gateOk_parts (gateAt_ok h hk)).1
      have q := hp.2
      rw [hto k hk hn] at q
      have := hclT.fst (rank c k) (hrk k hk hn) (by rw [hin]; exact q)
      rw [trim_gate h hk hn] at this
      rw [← moveG_a ho2 h2]; exact this h2
    · have hn : ndg c k = true := hp.1
      have ho2 := (gateOk_parts (gateAt_ok h hk)).1
      have q := hp.2
      rw [hto k hk hn] at q
      have := hclT.snd (rank c k) (hrk k hk hn) (by rw [hin]; exact q)
      rw [trim_gate h hk hn] at this
      rw [← moveG_b ho2 h3]; exact this h3
  have hw2 : (needC c).getD w false = true := by
    unfold Ned needAt at hw
    rwa [Int.toNat_natCast] at hw
  exact (need_min h hP w hw2).2
theorem trim_trim {c : Circ} (h : rightC c = true) : trimC (trimC c) = trimC c := by
  obtain ⟨⟨h0, h1, _⟩, _, ho⟩ := rightC_parts h
  refine trim_all (trim_right h) (fun m hm => ?_)
  rw [trimC_gl h] at hm
  obtain ⟨i, hi, hn, rfl⟩ := rank_onto _ m hm
  have hin : (trimC c).inputs = c.inputs := by rw [trimC_eq h]; rfl
  have hw : Ned c (((c.inputs.toNat + i : Nat) : Nat) : Int) := by
    have e : ((c.inputs.toNat + i : Nat) : Int) = c.inputs + (i : Int) := by omega
    rw [e]; exact hn
  have := trim_need h hw
  have e : toAt (trimTo c c.gates.length).to (((c.inputs.toNat + i : Nat) : Nat) : Int) = c.inputs + (rank c i : Int) := by
    show (trimTo c c.gates.length).to.getD _ 0 = _
    rw [Int.toNat_natCast, trim_to_gate c h0 hi, if_pos hn]
  rw [e] at this
  show needAt _ _ = true
  rw [hin]; exact this
/-- What the folded circuit needs is needed. -/
theorem fold_need {c : Circ} (h : rightC c = true) {w : Nat} (hw : Ned (foldC c) (w : Int)) : Ned c (w : Int) := by
  obtain ⟨⟨h0, h1, _⟩, _, ho⟩ := rightC_parts h
  have hcl := need_closed h
  have hch := foldChain c
  have key : ∀ k, k ≤ c.gates.length → (∀ w, w < c.inputs.toNat + k → Ned c (w : Int) → Ned c ((foldTo c k).to.getD w 0)) ∧ (∀ i, i < k → Ned c (c.inputs + (i : Int)) → (2 ≤ (gateAt (foldC c) i).op → Ned c (gateAt (foldC c) i).a) ∧ (3 ≤ (gateAt (foldC c) i).op → Ned c (gateAt (foldC c) i).b)) := fun k => by
    induction k with
    | zero =>
      intro _
      refine ⟨fun w hw hn => ?_, fun i hi => by omega⟩
      rw [hch.to_in 0 (by omega)]; exact hn
    | succ k ih =>
      intro hk
      obtain ⟨i1, i2⟩ := ih (by omega)
      have hs := foldTo_ok h k (by omega)
      obtain ⟨l1, l2⟩ := foldTo_len c k
      have hg := gateAt_ok h (show k < c.gates.length by omega)
      have hm := moveG_ok hs hg (by omega) (fun _ => trivial) (fun _ => trivial)
      obtain ⟨ho, ha, hb, _, _⟩ := gateOk_parts hg
      have hstep : Ned c (c.inputs + (k : Int)) → (2 ≤ (foldG c.inputs (foldTo c k).gates (moveG (foldTo c k).to (gateAt c k))).1.op → Ned c (foldG c.inputs (foldTo c k).gates (moveG (foldTo c k).to (gateAt c k))).1.a) ∧ (3 ≤ (foldG c.inputs (foldTo c k).gates (moveG (foldTo c k).to (gateAt c k))).1.op → Ned c (foldG c.inputs (foldTo c k).gates (moveG (foldTo c k).to (gateAt c k))).1.b) ∧ (0 ≤ (foldG c.inputs (foldTo c k).gates (moveG (foldTo c k).to (gateAt c k))).2 → Ned c (foldG c.inputs (foldTo c k).gates (moveG (foldTo c k).to (gateAt c k))).2) := fun hn => by
        refine foldG_P (P := Ned c) hm (fun h2 => ?_) (fun h3 => ?_) (fun x hx hw hlt => ?_)
        · have h2 : 2 ≤ (gateAt c k).op := h2
          have := ha h2
          rw [moveG_a ho h2]
          exact i1 _ (by omega) (by rw [Int.toNat_of_nonneg this.1]; exact hcl.fst k (by omega) hn h2)
        · have h3 : 3 ≤ (gateAt c k).op := h3
          have := hb h3
          rw [moveG_b ho h3]
          exact i1 _ (by omega) (by rw [Int.toNat_of_nonneg this.1]; exact hcl.snd k (by omega) hn h3)
        · obtain ⟨j, rfl, hj, hjo, hja⟩ := isW_gate hw hlt
          have e : gateAt (foldC c) j = (foldTo c k).gates.getD j default := by
            rw [foldC_eq h]; exact hch.g_keep (show k ≤ c.gates.length by omega) (by omega)
          rw [hja, ← e]
          exact (i2 j (by omega) hx).1 (by rw [e, hjo]; omega)
      refine ⟨fun w hw hn => ?_, fun i hi hn => ?_⟩
      · rcases Nat.lt_or_ge w (c.inputs.toNat + k) with h2 | h2
        · rw [hch.to_keep (Nat.le_succ k) h2]; exact i1 w h2 hn
        · obtain rfl : w = c.inputs.toNat + k := by omega
          have e : ((c.inputs.toNat + k : Nat) : Int) = c.inputs + (k : Int) := by omega
          rw [e] at hn
          rw [hch.to_at (Nat.lt_succ_self k)]
          split
          · exact hn
          · rename_i hz
            exact (hstep hn).2.2 (Int.not_lt.1 hz)
      · rcases Nat.lt_or_ge i k with h2 | h2
        · exact i2 i h2 hn
        · obtain rfl : i = k := by omega
          rw [fold_gate h (show i < c.gates.length by omega)]
          exact ⟨(hstep hn).1, (hstep hn).2.1⟩
  obtain ⟨k1, k2⟩ := key _ (Nat.le_refl _)
  have hF := fold_right h
  have lF := foldC_gl h
  have inF : (foldC c).inputs = c.inputs := by rw [foldC_eq h]; rfl
  have hP : Closed (foldC c) (Ned c) := by
    refine ⟨fun k hk => ?_, fun k hk hp h2 => ?_, fun k hk hp h3 => ?_⟩
    · have e : (foldC c).outs = c.outs.map (toAt (foldTo c c.gates.length).to) := by rw [foldC_eq h]; rfl
      rw [e, List.length_map] at hk
      have hb := outOk_at ho hk
      have e2 : ((foldC c).outs).getD k 0 = (foldTo c c.gates.length).to.getD (c.outs.getD k 0).toNat 0 := by
        rw [e, List.getD_eq_getElem?_getD, List.getElem?_map, List.getElem?_eq_getElem hk, List.getD_eq_getElem?_getD (l := c.outs), List.getElem?_eq_getElem hk]; rfl
      rw [e2]
      exact k1 _ (by omega) (by rw [Int.toNat_of_nonneg hb.1]; exact hcl.outs k hk)
    · rw [lF] at hk; rw [inF] at hp
      exact (k2 k hk hp).1 h2
    · rw [lF] at hk; rw [inF] at hp
      exact (k2 k hk hp).2 h3
  unfold Ned needAt at hw
  rw [Int.toNat_natCast] at hw
  exact need_min hF hP w hw
theorem nodup_le {l m : List Nat} (hl : l.Nodup) (h : ∀ x ∈ l, x ∈ m) : l.length ≤ m.length := by
  induction l generalizing m with
  | nil => exact Nat.zero_le _
  | cons a l ih =>
    rw [List.nodup_cons] at hl
    have ha : a ∈ m := h a (by simp)
    have := ih (m := m.erase a) hl.2 (fun x hx => by
      have hxa : x ≠ a := fun e => hl.1 (e ▸ hx)
      exact (List.mem_erase_of_ne hxa).2 (h x (by simp [hx])))
    rw [List.length_erase_of_mem ha] at this
    have hp : 0 < m.length := List.length_pos_of_mem ha
    rw [List.length_cons]; omega
/-- Sharing needs no more gates. -/
theorem share_rank {c : Circ} (h : rightC c = true) : rank (shareC c) c.gates.length ≤ rank c c.gates.length := by
  obtain ⟨⟨h0, h1, _⟩, _, ho⟩ := rightC_parts h
  have hcl := need_closed h
  have hch := shareChain c
  have hS := share_right h
  have lS := shareC_gl h
  have inS : (shareC c).inputs = c.inputs := by rw [shareC_eq h]; rfl
  have hQ : Closed (shareC c) (fun x => ∃ w : Nat, w < c.inputs.toNat + c.gates.length ∧ Ned c (w : Int) ∧ x = (shareTo c c.gates.length).to.getD w 0) := by
    have hgate : ∀ k, k < c.gates.length → (∃ w : Nat, w < c.inputs.toNat + c.gates.length ∧ Ned c (w : Int) ∧ c.inputs + (k : Int) = (shareTo c c.gates.length).to.getD w 0) → ∃ i, i < c.gates.length ∧ Ned c (c.inputs + (i : Int)) ∧ gateAt (shareC c) k = swapG (moveG (shareTo c i).to (gateAt c i)) := fun k hk ⟨w, hw, hn, e⟩ => by
      rcases Nat.lt_or_ge w c.inputs.toNat with h2 | h2
      · rw [hch.to_in _ h2] at e; omega
      · obtain ⟨i, rfl⟩ : ∃ i, w = c.inputs.toNat + i := ⟨w - c.inputs.toNat, by omega⟩
        have hi : i < c.gates.length := by omega
        have e2 : ((c.inputs.toNat + i : Nat) : Int) = c.inputs + (i : Int) := by omega
        rw [e2] at hn
        refine ⟨i, hi, hn, ?_⟩
        rw [share_to_at c hi] at e
        split at e
        · obtain rfl : k = i := by omega
          exact share_gate h hk
        · rename_i hz
          obtain ⟨j, hj, hjl, hje, _⟩ := knownW_some h0 (Int.not_lt.1 hz)
          rw [hj] at e
          rw [(hch.len i).1] at hjl
          clear hj hz
          obtain rfl : k = j := by omega
          rw [← hje, shareC_eq h]
          exact hch.g_keep (Nat.le_of_lt hi) hjl
    have hops : ∀ i, i < c.gates.length → Ned c (c.inputs + (i : Int)) → (2 ≤ (swapG (moveG (shareTo c i).to (gateAt c i))).op → ∃ w : Nat, w < c.inputs.toNat + c.gates.length ∧ Ned c (w : Int) ∧ (swapG (moveG (shareTo c i).to (gateAt c i))).a = (shareTo c c.gates.length).to.getD w 0) ∧ (3 ≤ (swapG (moveG (shareTo c i).to (gateAt c i))).op → ∃ w : Nat, w < c.inputs.toNat + c.gates.length ∧ Ned c (w : Int) ∧ (swapG (moveG (shareTo c i).to (gateAt c i))).b = (shareTo c c.gates.length).to.getD w 0) := fun i hi hn => by
      have hg := gateAt_ok h hi
      obtain ⟨ho, ha, hb, _, _⟩ := gateOk_parts hg
      refine swapG_P (P := fun x => ∃ w : Nat, w < c.inputs.toNat + c.gates.length ∧ Ned c (w : Int) ∧ x = (shareTo c c.gates.length).to.getD w 0) (fun h2 => ?_) (fun h3 => ?_) ho
      · have h2 : 2 ≤ (gateAt c i).op := h2
        have := ha h2
        rw [moveG_a ho h2]
        exact ⟨(gateAt c i).a.toNat, by omega, by rw [Int.toNat_of_nonneg this.1]; exact hcl.fst i hi hn h2, (hch.to_keep (Nat.le_of_lt hi) (by omega)).symm⟩
      · have h3 : 3 ≤ (gateAt c i).op := h3
        have := hb h3
        rw [moveG_b ho h3]
        exact ⟨(gateAt c i).b.toNat, by omega, by rw [Int.toNat_of_nonneg this.1]; exact hcl.snd i hi hn h3, (hch.to_keep (Nat.le_of_lt hi) (by omega)).symm⟩
    refine ⟨fun k hk => ?_, fun k hk hp h2 => ?_, fun k hk hp h3 => ?_⟩
    · have e : (shareC c).outs = c.outs.map (toAt (shareTo c c.gates.length).to) := by rw [shareC_eq h]; rfl
      rw [e, List.length_map] at hk
      have hb := outOk_at ho hk
      refine ⟨(c.outs.getD k 0).toNat, by omega, by rw [Int.toNat_of_nonneg hb.1]; exact hcl.outs k hk, ?_⟩
      rw [e, List.getD_eq_getElem?_getD, List.getElem?_map, List.getElem?_eq_getElem hk, List.getD_eq_getElem?_getD (l := c.outs), List.getElem?_eq_getElem hk]; rfl
    · rw [lS] at hk; rw [inS] at hp
      obtain ⟨i, hi, hn, e⟩ := hgate k hk hp
      rw [e] at h2 ⊢
      exact (hops i hi hn).1 h2
    · rw [lS] at hk; rw [inS] at hp
      obtain ⟨i, hi, hn, e⟩ := hgate k hk hp
      rw [e] at h3 ⊢
      exact (hops i hi hn).2 h3
  have hsub : ∀ x ∈ (List.range c.gates.length).filter (ndg (shareC c)), x ∈ ((List.range c.gates.length).filter (ndg c)).map (fun i => ((shareTo c c.gates.length).to.getD (c.inputs.toNat + i) 0 - c.inputs).toNat) := fun x hx => by
    rw [List.mem_filter, List.mem_range] at hx
    obtain ⟨hx1, hx2⟩ := hx
    unfold ndg needAt at hx2
    rw [inS] at hx2
    obtain ⟨w, hw, hn, e⟩ := need_min hS hQ _ hx2
    rcases Nat.lt_or_ge w c.inputs.toNat with h2 | h2
    · rw [hch.to_in _ h2] at e; omega
    · obtain ⟨i, rfl⟩ : ∃ i, w = c.inputs.toNat + i := ⟨w - c.inputs.toNat, by omega⟩
      have e2 : ((c.inputs.toNat + i : Nat) : Int) = c.inputs + (i : Int) := by omega
      rw [e2] at hn
      rw [List.mem_map]
      refine ⟨i, ?_, ?_⟩
      · rw [List.mem_filter, List.mem_range]
        exact ⟨by omega, hn⟩
      · rw [← e]; omega
  have := nodup_le (List.Nodup.sublist List.filter_sublist List.nodup_range) hsub
  rw [List.length_map] at this
  exact this
/-- A round leaves at most the gates that are needed. -/
theorem one_gates {c : Circ} (h : rightC c = true) : (oneC c).gates.length ≤ (trimC c).gates.length := by
  obtain ⟨⟨h0, h1, _⟩, _⟩ := rightC_parts h
  have hF := fold_right h
  have hS := share_right hF
  have lF := foldC_gl h
  have lS : (shareC (foldC c)).gates.length = c.gates.length := (shareC_gl hF).trans lF
  have inF : (foldC c).inputs = c.inputs := by rw [foldC_eq h]; rfl
  unfold oneC
  rw [trimC_gl hS, trimC_gl h, lS]
  have a := share_rank hF
  rw [lF] at a
  have b : rank (foldC c) c.gates.length ≤ rank c c.gates.length := rank_imp _ (fun i hi hn => by
    have e : ((c.inputs.toNat + i : Nat) : Int) = c.inputs + (i : Int) := by omega
    have := fold_need h (w := c.inputs.toNat + i) (by rw [e, ← inF]; exact hn)
    rw [e] at this
    exact this)
  omega
theorem trim_le {c : Circ} (h : rightC c = true) : (trimC c).gates.length ≤ c.gates.length := by rw [trimC_gl h]; exact rank_le _ _
theorem all_gates {c : Circ} (h : rightC c = true) : (allC c).gates.length ≤ (trimC c).gates.length := by
  cases hs : sameC (oneC c) c with
  | true =>
    have hf := FixC.of_same h hs
    rw [hf.all h, hf.trim_eq]; exact Nat.le_refl _
  | false =>
    obtain ⟨m', _, h2, h3⟩ := iter_go h (Nat.le_refl _) hs
    rw [allC, if_pos h, h3]
    exact (iter_ind (P := fun d => d.gates.length ≤ (trimC c).gates.length) (fun d hd hP => Nat.le_trans (Nat.le_trans (one_gates hd) (trim_le hd)) hP) m' (one_right h) h2 (one_gates h)).2.2
end Go.Proofs.Ytamijjpnklbgnaa

/-
  circuit.values, walked.
-/
namespace Go.Proofs.Ytamijjpnklbgnaa
open Go.RowKit
set_option linter.unusedSimpArgs false
set_option linter.unusedVariables false

theorem w64_cells (x : BitVec 64) : (w64 x).cells = #[w64 x] := rfl
theorem u64_info : (Try.prog.info? 89).map (fun i => (i.zero, i.size, i.bytes)) = some (some (.int .u64 0), 1, 8) := by kernel_rfl

theorem w64s_at (vs : List (BitVec 64)) (r : List Value) (k : Nat) (h : k < vs.length) : (w64s vs ++ r)[k]? = some (w64 (vs.getD k 0)) := by
  rw [List.getElem?_append_left (by simpa [w64s] using h)]
  simp [w64s, List.getElem?_map, List.getElem?_eq_getElem h, List.getD_eq_getElem?_getD]

theorem w64s_next (vs : List (BitVec 64)) (m k : Nat) (z : Value) (hl : vs.length = m) (hk : 0 < k) : (w64s vs ++ List.replicate k z)[m]? = some z := by
  subst hl
  rw [List.getElem?_append_right (by simp [w64s]), List.getElem?_replicate]
  simp [w64s, hk]
theorem w64s_set (vs : List (BitVec 64)) (x : BitVec 64) (m k : Nat) (z : Value) (hl : vs.length = m) (hk : 0 < k) : (w64s vs ++ List.replicate k z).set m (w64 x) = w64s (vs ++ [x]) ++ List.replicate (k - 1) z := by
  subst hl
  obtain ⟨j, rfl⟩ : ∃ j, k = j + 1 := ⟨k - 1, by omega⟩
  rw [List.set_append_right _ _ (by simp [w64s])]
  simp [w64s, List.replicate_succ]
theorem w64_and (x y : BitVec 64) : bits .and .u64 (x.toNat : Int) (y.toNat : Int) = ((x &&& y).toNat : Int) := by
  rw [u64_and_nat _ _ x.isLt y.isLt, BitVec.toNat_and]
theorem w64_or (x y : BitVec 64) : bits .or .u64 (x.toNat : Int) (y.toNat : Int) = ((x ||| y).toNat : Int) := by
  rw [u64_or_nat _ _ x.isLt y.isLt, BitVec.toNat_or]
theorem w64_not (x : BitVec 64) : bits .xor .u64 IntKind.u64.max (x.toNat : Int) = ((~~~x).toNat : Int) := by
  have h : IntKind.u64.max = (((BitVec.allOnes 64).toNat : Nat) : Int) := by decide
  rw [h, u64_xor_nat _ _ (BitVec.allOnes 64).isLt x.isLt, ← BitVec.toNat_xor, BitVec.allOnes_xor]
theorem w64_xor (x y : BitVec 64) : bits .xor .u64 (x.toNat : Int) (y.toNat : Int) = ((x ^^^ y).toNat : Int) := by
  rw [u64_xor_nat _ _ x.isLt y.isLt, BitVec.toNat_xor]

set_option maxRecDepth 100000 in
set_option maxHeartbeats 1000000 in
theorem values_any (inn : Nat) (GA OA IA : Option Addr) (gn gc on oc ic : Nat) (gs : List Gt) (ins : List (BitVec 64)) (w : World)
    (hG : Rd w w.heap.size 3 GA gn (gatesCells gs)) (hI : Rd w w.heap.size 1 IA inn (w64s ins)) (h1 : inn ≤ 1000) (h2 : gn ≤ 20000)
    (hok : ∀ k, k < gs.length → gateOk ((inn : Int) + k) (gs.getD k default) = true) :
    Calls Try.prog 72 #[.agg #[.int .i64 inn, .slice GA gn gc, .slice OA on oc], .slice IA inn ic] w fun e w' =>
      ∃ g, e = .returned (.slice (some ⟨g, 0, none⟩) (inn + gn) (inn + gn)) ∧ Row w' g 89 (w64s (runG evalW 0 gs ins)) ∧ w.heap.size ≤ g ∧ Below w.heap.size w w' := by
  have LN : Hid (gs.length = gn) := by have := hG.1; rw [gatesCells_length] at this; show _ = _; omega
  have LI : Hid (ins.length = inn) := by have := hI.1; simp [w64s] at this; show _ = _; omega
  have HG : Hid (Rd w w.heap.size 3 GA gn (gatesCells gs)) := hG
  have HI : Hid (Rd w w.heap.size 1 IA inn (w64s ins)) := hI
  have HOK : Hid (∀ k, k < gs.length → gateOk ((inn : Int) + k) (gs.getD k default) = true) := hok
  clear hG hI hok
  have hmk := fun W => make_like (P := Try.prog) Try.underlying88 u64_info rfl (inn + gn) ((inn : Int) + (gn : Int)) (by omega) (by omega) (by omega) W
  go_enter Try.func72, Try.ntmps72
  go_wp2_with (with_reducible refine wpList_copy_splice rfl (.tmp 16) (.tmp 17) 88 88 rfl 89 Try.underlying88 (by kernel_rfl) (some ⟨w.heap.size + 1, 0, none⟩) IA (inn + gn) (inn + gn) inn ic rfl rfl (w.heap.size + 1) 0 (List.replicate (inn + gn) (.int .u64 0)) 89 ?hg (w64s ins) ?hn ?hpos ?hfit ?h1 (w.heap.size + 1) (w.alloc (.cells #[.int .i64 inn, .slice GA gn gc, .slice OA on oc] 25)) ?hb ?hBg ?_)
  case hg =>
    have := Row.new (w.alloc (.cells #[.int .i64 inn, .slice GA gn gc, .slice OA on oc] 25)) 89 (List.replicate (inn + gn) (.int .u64 0))
    rw [World.size_alloc] at this
    exact this
  case hn => simp [w64s, LI.out]
  case hpos =>
    intro hp
    obtain ⟨ad, e, hb, hc⟩ := HI.out.ex (by simp [w64s, LI.out] at hp; exact hp)
    exact ⟨ad, e, fun j v hv => (by
      have := ((HI.out.up (show Below w.heap.size w ((w.alloc (.cells #[.int .i64 inn, .slice GA gn gc, .slice OA on oc] 25)).alloc (.cells (likeRow (.int .u64 0) (inn + gn)) 89)) by go_grown)).ex (by simp [w64s, LI.out] at hp; exact hp))
      obtain ⟨ad', e', _, hc'⟩ := this
      rw [e] at e'
      injection e' with e'
      subst e'
      exact hc' j v hv)⟩
  case hfit => simp [w64s, LI.out]
  case h1 => intro v hv; simp only [w64s, List.mem_map] at hv; obtain ⟨x, _, rfl⟩ := hv; rfl
  case hb => go_grown
  case hBg => omega
  intro w1 hrow hb1
  have R1 : Hid (Row w1 (w.heap.size + 1) 89 (w64s ins ++ List.replicate gn (.int .u64 0))) := by
    have := hrow.out
    simp only [splice, List.take_zero, List.nil_append, Nat.zero_add, List.drop_replicate, w64s, List.length_map, LI.out] at this
    rw [show inn + gn - inn = gn from by omega] at this
    exact this
  have c0 : w1.cell? ⟨w.heap.size, 0, none⟩ = some (.int .i64 inn) := (hb1.cell (p := ⟨w.heap.size, 0, none⟩) (by simp)).trans (by go_cell)
  have c1 : w1.cell? ⟨w.heap.size, 1, none⟩ = some (.slice GA gn gc) := (hb1.cell (p := ⟨w.heap.size, 1, none⟩) (by simp)).trans (by go_cell)
  clear hmk hrow
  go_wp2
  clear c0 c1
  go_loopg [22] gn (fun gg s22 wr => ∃ kk : Nat, kk ≤ gn ∧ gn - kk ≤ gg ∧ s22 = .int .i64 kk ∧ Aside (Below (w.heap.size + 1) (w.alloc (.cells #[.int .i64 inn, .slice GA gn gc, .slice OA on oc] 25)) wr) ∧ Aside (Row wr (w.heap.size + 1) 89 (w64s (runG evalW 0 (gs.take kk) ins) ++ List.replicate (gn - kk) (.int .u64 0))))
  case atStart => exact ⟨0, Nat.zero_le _, by omega, rfl, hb1, R1.out⟩
  case round =>
    clear hb1 R1
    obtain ⟨kk, hkk, hg, rfl, BW, RW⟩ := hrel
    have c0 : wr.cell? ⟨w.heap.size, 0, none⟩ = some (.int .i64 inn) := (BW.out.cell (p := ⟨w.heap.size, 0, none⟩) (by simp)).trans (by go_cell)
    have c1 : wr.cell? ⟨w.heap.size, 1, none⟩ = some (.slice GA gn gc) := (BW.out.cell (p := ⟨w.heap.size, 1, none⟩) (by simp)).trans (by go_cell)
    have hsz : w.heap.size + 1 < wr.heap.size := RW.out.lt
    have hsz0 : w.heap.size < wr.heap.size := by omega
    have HB0 : Aside (Below w.heap.size w wr) := below_box (k := 1) BW.out
    by_cases hlt : kk < gn
    · have hltz : (kk : Int) < (gn : Int) := by omega
      obtain ⟨ad, rfl, hb, g0, g1, g2⟩ := (HG.out.below HB0.out (Nat.le_refl _)).gate hlt
      have HP := gateOk_parts (HOK.out kk (by rw [LN.out]; exact hlt))
      have HT := runG_take evalW 0 gs ins kk (by rw [LN.out]; exact hlt)
      generalize gs.getD kk default = gt at g0 g1 g2 HP HT
      have hlen : (runG evalW 0 (gs.take kk) ins).length = inn + kk := by rw [runG_length, List.length_take, LI.out, LN.out]; omega
      generalize runG evalW 0 (gs.take kk) ins = vs at RW HT hlen
      obtain ⟨op, ga, gb⟩ := gt
      dsimp only at g0 g1 g2 HP HT
      obtain ⟨hop, ha, hb', ha0, hb0⟩ := HP
      have vc : wr.cell? ⟨w.heap.size + 1, inn + kk, none⟩ = some (.int .u64 0) := (RW.out.cell (inn + kk)).trans (by rw [List.getElem?_append_right (by simp [w64s]; omega), List.getElem?_replicate]; simp [w64s, hlen]; omega)
      have vf : wr.frozen? ⟨w.heap.size + 1, inn + kk, none⟩ = false := RW.out.frozen (inn + kk)
      have HL : Aside (vs.length = inn + kk) := hlen
      have HS : Aside (∀ x : BitVec 64, (w64s vs ++ List.replicate (gn - kk) (Value.int .u64 0)).set (inn + kk) (w64 x) = w64s (vs ++ [x]) ++ List.replicate (gn - kk - 1) (Value.int .u64 0)) := fun x => w64s_set vs x _ _ _ hlen (by omega)
      rcases hop with rfl | rfl | rfl | rfl | rfl | rfl
      · clear ha hb' ha0 hb0 hlen
        have HT' : Aside _ := HT
        clear HT
        go_wp2
        go_roundg (gn - (kk + 1))
        case measure => omega
        case rel =>
          have BB := BW.out
          have HT := HT'.out
          refine ⟨kk + 1, by omega, by omega, by go_num, (show Below _ _ _ by go_grown), ?_⟩
          show Row _ _ _ _
          rw [HT, show gn - (kk + 1) = gn - kk - 1 from by omega]
          have h0 := HS.out 0
          have he : (w64s vs ++ List.replicate (gn - kk) (Value.int .u64 0)).set (inn + kk) (w64 0) = w64s vs ++ List.replicate (gn - kk) (Value.int .u64 0) := by
            apply List.ext_getElem?
            intro j
            rw [List.getElem?_set]
            split
            · rename_i hj; subst hj
              have := (RW.out.cell (inn + kk)).symm.trans vc
              rw [this, if_pos (List.getElem?_eq_some_iff.1 this).1]; rfl
            · rfl
          rw [show (evalW 0 _ _) = 0 from rfl, ← h0, he]
          exact (RW.out.alloc _)
      · clear ha hb' ha0 hb0 hlen
        have HT' : Aside _ := HT
        clear HT
        go_wp2
        go_roundg (gn - (kk + 1))
        case measure => omega
        case rel =>
          have BB := BW.out
          have HT := HT'.out
          refine ⟨kk + 1, by omega, by omega, by go_num, (show Below _ _ _ by go_grown), ?_⟩
          show Row _ _ _ _
          rw [HT, show gn - (kk + 1) = gn - kk - 1 from by omega]
          rw [show evalW 1 _ _ = BitVec.allOnes 64 from rfl, ← HS.out]
          exact (RW.out.set _ _).alloc _
      · obtain ⟨an, rfl⟩ : ∃ an : Nat, ga = (an : Int) := ⟨ga.toNat, by omega⟩
        have ha' : an < inn + kk := by omega
        have va : wr.cell? ⟨w.heap.size + 1, an, none⟩ = some (w64 (vs.getD an 0)) := (RW.out.cell an).trans (w64s_at vs _ an (by omega))
        simp only [Int.toNat_natCast] at HT
        generalize vs.getD an 0 = x at va HT
        unfold w64 at va
        clear ha hb' ha0 hb0 hlen
        have HT' : Aside _ := HT
        clear HT
        go_wp2
        go_roundg (gn - (kk + 1))
        case measure => omega
        case rel =>
          have BB := BW.out
          have HT := HT'.out
          refine ⟨kk + 1, by omega, by omega, by go_num, (show Below _ _ _ by go_grown), ?_⟩
          show Row _ _ _ _
          rw [HT, show gn - (kk + 1) = gn - kk - 1 from by omega]
          rw [show evalW 2 x _ = ~~~x from rfl, ← HS.out]
          have := (RW.out.set (inn + kk) (w64 (~~~x))).alloc (.cells #[.int .i64 2, .int .i64 an, .int .i64 gb] 32)
          rw [w64_not]
          exact this
      · obtain ⟨an, rfl⟩ : ∃ an : Nat, ga = (an : Int) := ⟨ga.toNat, by omega⟩
        obtain ⟨bn, rfl⟩ : ∃ bn : Nat, gb = (bn : Int) := ⟨gb.toNat, by omega⟩
        have ha' : an < inn + kk := by omega
        have hbn : bn < inn + kk := by omega
        have va : wr.cell? ⟨w.heap.size + 1, an, none⟩ = some (w64 (vs.getD an 0)) := (RW.out.cell an).trans (w64s_at vs _ an (by omega))
        have vb : wr.cell? ⟨w.heap.size + 1, bn, none⟩ = some (w64 (vs.getD bn 0)) := (RW.out.cell bn).trans (w64s_at vs _ bn (by omega))
        simp only [Int.toNat_natCast] at HT
        generalize vs.getD an 0 = x at va HT
        generalize vs.getD bn 0 = y at vb HT
        unfold w64 at va vb
        clear ha hb' ha0 hb0 hlen
        have HT' : Aside _ := HT
        clear HT
        go_wp2
        go_region
        go_wp2
        go_roundg (gn - (kk + 1))
        case measure => omega
        case rel =>
          have BB := BW.out
          have HT := HT'.out
          refine ⟨kk + 1, by omega, by omega, by go_num, (show Below _ _ _ by go_grown), ?_⟩
          show Row _ _ _ _
          rw [HT, show gn - (kk + 1) = gn - kk - 1 from by omega]
          rw [show evalW 3 x y = x &&& y from rfl, ← HS.out, w64_and]
          exact ((RW.out.set (inn + kk) (w64 (x &&& y))).alloc _).drew
      · obtain ⟨an, rfl⟩ : ∃ an : Nat, ga = (an : Int) := ⟨ga.toNat, by omega⟩
        obtain ⟨bn, rfl⟩ : ∃ bn : Nat, gb = (bn : Int) := ⟨gb.toNat, by omega⟩
        have ha' : an < inn + kk := by omega
        have hbn : bn < inn + kk := by omega
        have va : wr.cell? ⟨w.heap.size + 1, an, none⟩ = some (w64 (vs.getD an 0)) := (RW.out.cell an).trans (w64s_at vs _ an (by omega))
        have vb : wr.cell? ⟨w.heap.size + 1, bn, none⟩ = some (w64 (vs.getD bn 0)) := (RW.out.cell bn).trans (w64s_at vs _ bn (by omega))
        simp only [Int.toNat_natCast] at HT
        generalize vs.getD an 0 = x at va HT
        generalize vs.getD bn 0 = y at vb HT
        unfold w64 at va vb
        clear ha hb' ha0 hb0 hlen
        have HT' : Aside _ := HT
        clear HT
        go_wp2
        go_region
        go_wp2
        go_roundg (gn - (kk + 1))
        case measure => omega
        case rel =>
          have BB := BW.out
          have HT := HT'.out
          refine ⟨kk + 1, by omega, by omega, by go_num, (show Below _ _ _ by go_grown), ?_⟩
          show Row _ _ _ _
          rw [HT, show gn - (kk + 1) = gn - kk - 1 from by omega]
          rw [show evalW 4 x y = x ||| y from rfl, ← HS.out, w64_or]
          exact ((RW.out.set (inn + kk) (w64 (x ||| y))).alloc _).drew
      · obtain ⟨an, rfl⟩ : ∃ an : Nat, ga = (an : Int) := ⟨ga.toNat, by omega⟩
        obtain ⟨bn, rfl⟩ : ∃ bn : Nat, gb = (bn : Int) := ⟨gb.toNat, by omega⟩
        have ha' : an < inn + kk := by omega
        have hbn : bn < inn + kk := by omega
        have va : wr.cell? ⟨w.heap.size + 1, an, none⟩ = some (w64 (vs.getD an 0)) := (RW.out.cell an).trans (w64s_at vs _ an (by omega))
        have vb : wr.cell? ⟨w.heap.size + 1, bn, none⟩ = some (w64 (vs.getD bn 0)) := (RW.out.cell bn).trans (w64s_at vs _ bn (by omega))
        simp only [Int.toNat_natCast] at HT
        generalize vs.getD an 0 = x at va HT
        generalize vs.getD bn 0 = y at vb HT
        unfold w64 at va vb
        clear ha hb' ha0 hb0 hlen
        have HT' : Aside _ := HT
        clear HT
        go_wp2
        go_region
        go_wp2
        go_roundg (gn - (kk + 1))
        case measure => omega
        case rel =>
          have BB := BW.out
          have HT := HT'.out
          refine ⟨kk + 1, by omega, by omega, by go_num, (show Below _ _ _ by go_grown), ?_⟩
          show Row _ _ _ _
          rw [HT, show gn - (kk + 1) = gn - kk - 1 from by omega]
          rw [show evalW 5 x y = x ^^^ y from rfl, ← HS.out, w64_xor]
          exact ((RW.out.set (inn + kk) (w64 (x ^^^ y))).alloc _).drew
    · have hltz : ¬ (kk : Int) < (gn : Int) := by omega
      obtain rfl : kk = gn := by omega
      go_wp2
      go_ret
      refine ⟨w.heap.size + 1, rfl, ?_, by omega, HB0.out⟩
      have := RW.out
      rw [Nat.sub_self, List.replicate_zero, List.append_nil, ← LN.out, List.take_length] at this
      exact this
end Go.Proofs.Ytamijjpnklbgnaa

/-
  circuit.Words, walked.
-/
namespace Go.Proofs.Ytamijjpnklbgnaa
open Go.RowKit
set_option linter.unusedSimpArgs false
set_option linter.unusedVariables false

theorem right_at (c : Circ) (GA OA : Option Addr) (gn gc on oc : Nat) (w : World) (h : CAt w c GA OA gn on) :
    Calls Try.prog 25 #[.agg #[.int .i64 c.inputs, .slice GA gn gc, .slice OA on oc]] w fun e w' => e = .returned (.bool (rightC c)) ∧ Below w.heap.size w w' :=
  right_any c.inputs GA OA gn gc on oc c.gates c.outs w h.gates h.outs h.g63 h.o63

set_option maxHeartbeats 400000 in
theorem words_bad (c : Circ) (GA OA IA : Option Addr) (gn gc on oc n ic : Nat) (w : World) (h : CAt w c GA OA gn on) (hn : n ≤ maxLen) (hbad : okC c n = false) :
    Calls Try.prog 61 #[.agg #[.int .i64 c.inputs, .slice GA gn gc, .slice OA on oc], .slice IA n ic] w fun e w' => e = .returned (.tuple #[.slice none 0 0, .int .i64 2]) ∧ Below w.heap.size w w' := by
  unfold maxLen at hn
  have H : Hid (CAt w c GA OA gn on) := h
  clear h
  cases hr : rightC c
  · clear hbad
    go_enter Try.func61, Try.ntmps61
    go_wp2_with fail
    refine (right_at c GA OA gn gc on oc _ (H.out.up (by go_grown))).mono ?_
    rw [hr]
    rintro e w1 ⟨rfl, hb⟩
    have B1 : Below w.heap.size w w1 := (show Below w.heap.size w _ by go_grown).trans (hb.mono (by simp))
    go_wp2
    go_ret2
    exact ⟨rfl, B1⟩
  · have hne : ((n : Int) != c.inputs) = true := by simp [okC, hr] at hbad; simpa using hbad
    clear hbad
    go_enter Try.func61, Try.ntmps61
    go_wp2_with fail
    refine (right_at c GA OA gn gc on oc _ (H.out.up (by go_grown))).mono ?_
    rw [hr]
    rintro e w1 ⟨rfl, hb⟩
    have B1 : Below w.heap.size w w1 := (show Below w.heap.size w _ by go_grown).trans (hb.mono (by simp))
    have c0 : w1.cell? ⟨w.heap.size, 0, none⟩ = some (.int .i64 c.inputs) := (hb.cell (p := ⟨w.heap.size, 0, none⟩) (by simp)).trans (by go_cell)
    go_wp2
    go_ret2
    exact ⟨rfl, B1⟩

set_option maxHeartbeats 1000000 in
theorem words_ok (c : Circ) (GA OA IA : Option Addr) (gn gc on oc n ic : Nat) (ins : List (BitVec 64)) (w : World) (h : CAt w c GA OA gn on) (hI : Rd w w.heap.size 1 IA n (w64s ins)) (hok : okC c n = true) :
    Calls Try.prog 61 #[.agg #[.int .i64 c.inputs, .slice GA gn gc, .slice OA on oc], .slice IA n ic] w fun e w' =>
      ∃ g, e = .returned (.tuple #[.slice (some ⟨g, 0, none⟩) on on, .int .i64 0]) ∧ Row w' g 89 (w64s (outsG evalW 0 c ins)) ∧ w.heap.size ≤ g ∧ Below w.heap.size w w' := by
  have H : Hid (CAt w c GA OA gn on) := h
  have HI : Hid (Rd w w.heap.size 1 IA n (w64s ins)) := hI
  simp only [okC, Bool.and_eq_true, decide_eq_true_eq] at hok
  obtain ⟨hr, hn⟩ := hok
  obtain ⟨⟨h0, h1, h2, h3⟩, hg, ho⟩ := rightC_parts hr
  rw [h.gl] at h2 ho
  rw [h.ol] at h3
  obtain ⟨inp, gs, os⟩ := c
  dsimp only at hn h0 h1 hg ho
  subst hn
  have HR : Hid (rightC ⟨(n : Int), gs, os⟩ = true) := hr
  have LO : Hid (os.length = on) := h.ol
  have LI : Hid (ins.length = n) := by have := hI.1; simp [w64s] at this; show _ = _; omega
  have HGK : Hid (∀ k, k < gs.length → gateOk ((n : Int) + k) (gs.getD k default) = true) := hg
  have HOK : Hid (os.all (outOk ((n : Int) + gn)) = true) := ho
  have LG : Hid (gs.length = gn) := h.gl
  clear h hI hr hg ho
  have hmk := fun W => make_like (P := Try.prog) Try.underlying88 u64_info rfl on (on : Int) rfl (by omega) (by omega) W
  go_enter Try.func61, Try.ntmps61
  go_wp2_with fail
  refine (right_at ⟨(n : Int), gs, os⟩ GA OA gn gc on oc _ (H.out.up (by go_grown))).mono ?_
  rw [HR.out]
  rintro e w1 ⟨rfl, hb⟩
  have B1 : Below w.heap.size w w1 := (show Below w.heap.size w _ by go_grown).trans (hb.mono (by simp))
  have c0 : w1.cell? ⟨w.heap.size, 0, none⟩ = some (.int .i64 n) := (hb.cell (p := ⟨w.heap.size, 0, none⟩) (by simp)).trans (by go_cell)
  have c1 : w1.cell? ⟨w.heap.size, 1, none⟩ = some (.slice GA gn gc) := (hb.cell (p := ⟨w.heap.size, 1, none⟩) (by simp)).trans (by go_cell)
  have c2 : w1.cell? ⟨w.heap.size, 2, none⟩ = some (.slice OA on oc) := (hb.cell (p := ⟨w.heap.size, 2, none⟩) (by simp)).trans (by go_cell)
  have hz1 : w.heap.size < w1.heap.size := by have := hb.size; simp at this; omega
  clear hb
  go_wp2_with fail
  refine (values_any n GA OA IA gn gc on oc ic gs ins _ (H.out.up B1).gates (HI.out.up B1) (by omega) h2 HGK.out).mono ?_
  rintro e w2 ⟨g, rfl, hrow, hgle, hb⟩
  have B2 : Below w.heap.size w w2 := B1.trans (hb.mono B1.size)
  have d2 : w2.cell? ⟨w.heap.size, 2, none⟩ = some (.slice OA on oc) := (hb.cell (p := ⟨w.heap.size, 2, none⟩) (by show w.heap.size < _; omega)).trans c2
  have hz2 : w.heap.size < w2.heap.size := by have := hb.size; omega
  have HROW : Hid (Row w2 g 89 (w64s (runG evalW 0 gs ins))) := hrow
  have hgl : g < w2.heap.size := hrow.lt
  have HB2 : Hid (Below w.heap.size w w2) := B2
  clear hb B1 c0 c1 c2 hz1 hrow B2
  go_wp2
  go_loopg [30] on (fun gg s30 wr => ∃ kk : Nat, kk ≤ on ∧ on - kk ≤ gg ∧ s30 = .int .i64 kk ∧ Aside (Below (w2.heap.size) w2 wr) ∧ Aside (Row wr w2.heap.size 89 (w64s ((os.take kk).map fun o => (runG evalW 0 gs ins).getD o.toNat 0) ++ List.replicate (on - kk) (.int .u64 0))))
  case atStart => exact ⟨0, Nat.zero_le _, by omega, rfl, (show Below _ _ _ by go_grown), Row.new _ _ _⟩
  case round =>
    obtain ⟨kk, hkk, hgg, rfl, BW, RW⟩ := hrel
    have e2 : wr.cell? ⟨w.heap.size, 2, none⟩ = some (.slice OA on oc) := (BW.out.cell (p := ⟨w.heap.size, 2, none⟩) hz2).trans d2
    have hsz : w2.heap.size < wr.heap.size := RW.out.lt
    by_cases hlt : kk < on
    · have hltz : (kk : Int) < (on : Int) := by omega
      have B3 : Below w.heap.size w wr := HB2.out.trans (BW.out.mono (by omega))
      obtain ⟨ad, rfl, hb, hcell⟩ := ((H.out.up B3).outs).int hlt
      obtain ⟨ho1, ho2⟩ := outOk_at HOK.out (k := kk) (by rw [LO.out]; exact hlt)
      have HT : Aside _ := map_take_snoc (fun o => (runG evalW 0 gs ins).getD o.toNat 0) os kk (by rw [LO.out]; exact hlt)
      generalize os.getD kk 0 = o at hcell ho1 ho2 HT
      obtain ⟨on', rfl⟩ : ∃ m : Nat, o = (m : Int) := ⟨o.toNat, by omega⟩
      have hon : on' < n + gn := by omega
      clear ho1 ho2 B3
      have HL : Aside ((runG evalW 0 gs ins).length = n + gn) := by show _ = _; rw [runG_length, LI.out, LG.out]
      have hv : wr.cell? ⟨g, on', none⟩ = some (w64 ((runG evalW 0 gs ins).getD on' 0)) := by
        rw [BW.out.cell (p := ⟨g, on', none⟩) hgl, HROW.out.cell on']
        have := w64s_at (runG evalW 0 gs ins) [] on' (by rw [HL.out]; exact hon)
        simpa using this
      have hlt' : ((os.take kk).map fun o => (runG evalW 0 gs ins).getD o.toNat 0).length = kk := by rw [List.length_map, List.length_take, LO.out]; omega
      have hs := w64s_set ((os.take kk).map fun o => (runG evalW 0 gs ins).getD o.toNat 0) ((runG evalW 0 gs ins).getD on' 0) kk (on - kk) (.int .u64 0) hlt' (by omega)
      have vc : wr.cell? ⟨w2.heap.size, kk, none⟩ = some (.int .u64 0) := (RW.out.cell kk).trans (w64s_next _ _ _ _ hlt' (by omega))
      have vf : wr.frozen? ⟨w2.heap.size, kk, none⟩ = false := RW.out.frozen kk
      generalize hx : (runG evalW 0 gs ins).getD on' 0 = x at hv hs
      have HX : Aside ((runG evalW 0 gs ins).getD on' 0 = x) := hx
      have HS : Aside _ := hs
      clear hx hs hlt'
      unfold w64 at hv
      go_wp2
      go_roundg (on - (kk + 1))
      case measure => omega
      case rel =>
        have BB := BW.out
        refine ⟨kk + 1, by omega, by omega, by go_num, (show Below _ _ _ by go_grown), ?_⟩
        show Row _ _ _ _
        rw [HT.out, show on - (kk + 1) = on - kk - 1 from by omega]
        simp only [Int.toNat_natCast]
        rw [HX.out, ← HS.out]
        exact RW.out.set _ _
    · have hltz : ¬ (kk : Int) < (on : Int) := by omega
      obtain rfl : kk = on := by omega
      go_wp2
      go_ret2
      refine ⟨w2.heap.size, rfl, ?_, HB2.out.size, HB2.out.trans (BW.out.mono HB2.out.size)⟩
      have := RW.out
      rw [Nat.sub_self, List.replicate_zero, List.append_nil, ← LO.out, List.take_length] at this
      exact this
end Go.Proofs.Ytamijjpnklbgnaa
