/-
  tree.Read and the reference's Read, walked.
-/
import Derived.Test.YtdkfaphclhaiaaaTAllB
import Derived.Test.YtdkfaphclhaiaaaTRefRight
namespace Go.Proofs.Ytdkfaphclhaiaaa
open Go.RowKit
set_option linter.unusedSimpArgs false
set_option linter.unusedVariables false
theorem node_info : (Try.prog.info? 61).map (fun i => (i.zero, i.size, i.bytes)) = some (some (.agg #[.int .i64 0, .slice none 0 0]), 2, 32) := by kernel_rfl
theorem nd_one (a : Int) (A : Option Addr) (n c : Nat) : ∀ u ∈ [Value.int .i64 a, Value.slice A n c], u.oneCell' = true := by
  intro u hu
  simp only [List.mem_cons, List.not_mem_nil, or_false] at hu
  rcases hu with rfl | rfl <;> rfl

section
variable {B b r : Nat} {w w' : World} {ns : List Nd} {NA : Option Addr} {nc : Nat} {sl : List Sl}
/-- The nodes of a tree that has been built. -/
def TSl (w : World) (ns : List Nd) (NA : Option Addr) (nc : Nat) (sl : List Sl) : Prop :=
  w.ownsRow 0 61 2 (.slice NA ns.length nc) ns.length (nodesCells ns sl) ∧ sl.length = ns.length ∧ NextAt w ns sl none
theorem TFr.ownA {base sz n : Nat} {e : TypeId} {v : Value} {xs : List Value} (h : TFr w.heap.size b w w') (ho : w.ownsRow base e sz v n xs) (h1 : e ≠ 25) : w'.ownsRow base e sz v n xs :=
  ⟨ho.1, ho.2.imp id (fun ⟨g, cap, cur, a, c, d, r⟩ => ⟨g, cap, cur, a, c, h.keep g cur e (0, 0) h1 (fun _ => heap_lt d) d, r⟩)⟩
theorem TSl.frm (h : TSl w ns NA nc sl) (f : TFr w.heap.size r w w') : TSl w' ns NA nc sl :=
  ⟨f.ownA h.1 (by decide), h.2.1, fun i hi => ⟨f.ownA (h.2.2 i hi).1 (by decide), fun k hk => by cases hk⟩⟩
theorem TSl.at_ {HA : Option Addr} {hn : Nat} {hood : List Pt} {st : Int} (h : TSl w ns NA nc sl) (hh : Rd w w.heap.size 2 HA hn (hoodCells hood)) (h63 : hn ≤ maxLen) (hl : ns.length ≤ 5000) (hx : ∀ x ∈ ns, x.next.length ≤ 20) : TAt w ⟨st, hood, ns⟩ HA NA hn ns.length sl := by
  obtain ⟨h2, h3, h5⟩ := h
  refine ⟨hh, Rd.of_own h2, h3, fun i hi => ?_, h63, by unfold maxLen; show ns.length ≤ _; omega⟩
  have h6 := (h5 i hi).1
  refine ⟨Rd.of_own h6, ?_⟩
  have h7 := h6.1
  rw [ints_length] at h7
  have h8 : (ns.getD i default) ∈ ns := by
    rw [List.getD_eq_getElem?_getD, List.getElem?_eq_getElem hi]; exact List.getElem_mem hi
  have := hx _ h8
  unfold maxLen
  omega
theorem TSt.opl {st : Int} {hv : Value} {q : Option Nat} (h : TSt w B b st hv ns q) : ∃ NA nc sl, Row w b 25 [.int .i64 st, hv, .slice NA ns.length nc] ∧ TSl w ns NA nc sl := by
  obtain ⟨NA, nc, sl, h1, h2, h3, _, h5⟩ := h.op
  exact ⟨NA, nc, sl, h1, own_base h2 (Nat.zero_le _), h3, fun i hi => ⟨(h5 i hi).1, fun k hk => by cases hk⟩⟩
/-- Three cells of a tree's struct are written. -/
theorem TFr.store3 {a0 a1 a2 : Value} (h : Row w r 25 [a0, a1, a2]) (x0 x1 x2 : Value) :
    TFr w.heap.size r w (((w.setCell ⟨r, 0, none⟩ x0).setCell ⟨r, 1, none⟩ x1).setCell ⟨r, 2, none⟩ x2) ∧ Row (((w.setCell ⟨r, 0, none⟩ x0).setCell ⟨r, 1, none⟩ x1).setCell ⟨r, 2, none⟩ x2) r 25 [x0, x1, x2] := by
  have h1 := h.set 0 x0
  have h2 := h1.set 1 x1
  have f0 : TFr w.heap.size r w w := TFr.refl _ _ _
  have f1 := TFr.set (p := ⟨r, 0, none⟩) f0 h (Nat.le_refl _) x0
  have f2 := TFr.set (p := ⟨r, 1, none⟩) f1 h1 (Nat.le_refl _) x1
  exact ⟨TFr.set (p := ⟨r, 2, none⟩) f2 h2 (Nat.le_refl _) x2, h2.set 2 x2⟩
end
theorem ints_snoc (l : List Int) (x : Int) : ints (l ++ [x]) = ints l ++ [.int .i64 x] := by simp [ints]
section
variable {B B' b g : Nat} {w w1 w' : World}
theorem TFr.weaken (h : TFr B b w w') (hg : g ≤ B) : TFr g b w w' := ⟨h.below, fun k cs T fz h1 h2 hh => h.keep k cs T fz h1 (fun e => Nat.lt_of_lt_of_le (h2 e) hg) hh⟩
theorem TFr.grownNew {row : Option Nat} (h : TFr B b w w1) (hg : w1.grownBy w' row) (hrow : ∀ k, row = some k → w.heap.size ≤ k) (hB : b ≤ w.heap.size) : TFr B b w w' := by
  refine ⟨h.below.grown hg (Nat.le_trans hB h.below.size) (fun k hk => Nat.le_trans hB (hrow k hk)), fun g cs T fz h1 h2 hh => ?_⟩
  have hlt := heap_lt hh
  have := h.keep g cs T fz h1 h2 hh
  rw [hg.block g (heap_lt this) (fun e => by have := hrow g e.symm; omega)]
  exact this
theorem TFr.setN {xs : List Value} {p : Addr} (h : TFr g b w w1) (hr : Row w1 p.block 61 xs) (hB : b ≤ p.block) (hg : g ≤ p.block) (u : Value) : TFr g b w (w1.setCell p u) :=
  ⟨h.below.setCell hB u, fun k cs T fz h1 h2 hh => by
    have := h.keep k cs T fz h1 h2 hh
    rw [Below.heap_setCell w1 p u k (fun e => by
      subst e
      unfold Row at hr
      rw [hr] at this
      injection this with this
      injection this with _ ht
      have := h2 ht.symm
      omega)]
    exact this⟩
theorem TSt.setN {st : Int} {hv : Value} {ns : List Nd} {q : Option Nat} {xs : List Value} {p : Addr} (h : TSt w B b st hv ns q) (hr : Row w p.block 61 xs) (hp : p.block < B) (u : Value) : TSt (w.setCell p u) B b st hv ns q := by
  obtain ⟨v, sl, h1, h2, h3, h4, h5⟩ := h
  refine ⟨v, sl, h1.far (fun e => ?_) u, own_far h2 (fun e => ?_) u, h3, h4, fun i hi => ⟨own_set (h5 i hi).1 hr (by decide) u, (h5 i hi).2⟩⟩
  · unfold Row at h1 hr
    rw [← e, h1] at hr
    injection hr with hr
    injection hr with _ ht
    exact absurd ht (by decide)
  · have := (own_block_type h2 e).choose_spec.2
    omega
end
theorem nodesIn_idx (S : Nat) (ns : List Nd) (lo : Nat) (b : Int) (h : b = (ns.length : Int) - 1) (c : Nat) : (nodesIn S ns lo b c).2 = ((nodesIn S ns lo b c).1.length : Int) - 1 := by
  rcases Nat.eq_zero_or_pos c with e | e
  · subst e; exact h
  · exact nodesIn_last S ns lo b c e
theorem readErr_ok {st k : Int} {l : List Pt} (h1 : statesOk st = true) (h2 : hoodOk l = true) (h3 : 0 ≤ k ∧ k < l.length) : readErr st l k = 0 := by
  unfold readErr; rw [if_pos ⟨h1, h2, h3⟩]
theorem read_bad {st k : Int} {l : List Pt} (h : ¬ (statesOk st = true ∧ hoodOk l = true ∧ 0 ≤ k ∧ k < l.length)) : readR st l k = noTre ∧ readErr st l k = 2 := by
  have e : readErr st l k = 2 := by unfold readErr; rw [if_neg h]
  exact ⟨by unfold readR; rw [e]; rfl, e⟩
theorem readC_next (S at_ s : Nat) : ∀ x ∈ (readC S at_ s).1, x.next.length = S := by
  induction s with
  | zero => intro x hx; cases hx
  | succ s ih =>
    intro x hx
    rcases nodesIn_next _ _ _ _ _ _ hx with h | h
    · exact ih x h
    · exact h
theorem readNs_next (S at_ n : Nat) (hS : S ≤ 8) : ∀ x ∈ readNs S at_ n, x.next.length ≤ 20 := by
  intro x hx
  rcases nodesIn_next _ _ _ _ _ _ hx with h | h
  · unfold readM at h
    rw [List.mem_append, List.mem_singleton] at h
    rcases h with h | rfl
    · have := readC_next _ _ _ x h; omega
    · have := (readC_length S at_ S).2
      show (readC S at_ S).2.length ≤ 20
      omega
  · omega

/-- A tree that has been built: where its nodes lie, by their types. -/
def TPostS (t : Tre) (k : Int) (HA : Option Addr) (hn hc : Nat) (w : World) (e : Ending) (w' : World) : Prop :=
  TPost t k w e w' ∧ (k = 0 → ∃ NA nc sl, e = .returned (.tuple #[.agg #[.int .i64 t.states, .slice HA hn hc, .slice NA t.nodes.length nc], .int .i64 0]) ∧ TSl w' t.nodes NA nc sl)
theorem tpostS_err {t : Tre} {HA : Option Addr} {hn hc : Nat} {w w' : World} (h : t = noTre) (hb : Below w.heap.size w w') : TPostS t 2 HA hn hc w (.returned (.tuple #[.agg #[.int .i64 0, .slice none 0 0, .slice none 0 0], .int .i64 2])) w' :=
  ⟨tpost_err h hb, fun e => absurd e (by decide)⟩
set_option maxRecDepth 100000 in
set_option maxHeartbeats 8000000 in
theorem rRead_any (st k : Int) (l : List Pt) (HA : Option Addr) (hn hc : Nat) (w : World) (hr : Rd w w.heap.size 2 HA hn (hoodCells l)) (hm : hn ≤ maxLen) :
    Calls Try.prog 33 #[.int .i64 st, .slice HA hn hc, .int .i64 k] w (TPostS (readR st l k) (readErr st l k) HA hn hc w) := by
  have HR : Hid (Rd w w.heap.size 2 HA hn (hoodCells l)) := hr
  have HL : Hid (l.length = hn) := by have := hr.1; rw [hoodCells, flat2_length _ (fun _ => rfl)] at this; show _ = _; omega
  clear hr
  unfold maxLen at hm
  by_cases q1 : st < 2
  · have hd : decide (st < 2) = true := by simpa using q1
    have HCE : Hid (readR st l k = noTre ∧ readErr st l k = 2) := read_bad (fun h => by have := of_decide_eq_true h.1; omega)
    clear q1
    go_enter Try.func33, Try.ntmps33
    go_wp2
    exact bodyPost_ret (v := .tuple #[.agg #[.int .i64 0, .slice none 0 0, .slice none 0 0], .int .i64 2]) (by simp [results, Try.results33, go_sem]) rfl (by rw [HCE.out.2]; exact tpostS_err HCE.out.1 (by go_grown))
  have hd1 : decide (st < 2) = false := by simpa using q1
  by_cases q2 : 8 < st
  · have hd : decide (8 < st) = true := by simpa using q2
    have HCE : Hid (readR st l k = noTre ∧ readErr st l k = 2) := read_bad (fun h => by have := of_decide_eq_true h.1; omega)
    clear q1 q2
    go_enter Try.func33, Try.ntmps33
    go_wp2
    exact bodyPost_ret (v := .tuple #[.agg #[.int .i64 0, .slice none 0 0, .slice none 0 0], .int .i64 2]) (by simp [results, Try.results33, go_sem]) rfl (by rw [HCE.out.2]; exact tpostS_err HCE.out.1 (by go_grown))
  have hd2 : decide (8 < st) = false := by simpa using q2
  have HSO : Hid (statesOk st = true) := decide_eq_true (by omega)
  cases hh : hoodOk l
  · clear q1 q2
    have HCE : Hid (readR st l k = noTre ∧ readErr st l k = 2) := read_bad (fun h => by rw [hh] at h; cases h.2.1)

    go_enter Try.func33, Try.ntmps33
    go_wp2_with fail
    refine (rHoodRight_any l HA hn hc _ (HR.out.up (by go_grown)) (by unfold maxLen; omega)).mono ?_
    rw [hh]
    rintro e w1 ⟨rfl, hb⟩
    have HB : Hid (Below w.heap.size w w1) := below_next hb (by go_grown)
    have RZ : Hid (Row w1 w.heap.size 25 [.int .i64 0, .slice none 0 0, .slice none 0 0]) := rowCells (Row.new w 25 [.int .i64 0, .slice none 0 0, .slice none 0 0]) hb
    clear hb
    have d0 := RZ.out.cell 0
    have d1 := RZ.out.cell 1
    have d2 := RZ.out.cell 2
    have dl := RZ.out.lt
    simp only [List.getElem?_cons_zero, List.getElem?_cons_succ] at d0 d1 d2
    have f0 := RZ.out.frozen 0
    have f1 := RZ.out.frozen 1
    have f2 := RZ.out.frozen 2
    have BB := HB.out
    go_wp2
    exact bodyPost_ret (v := .tuple #[.agg #[.int .i64 0, .slice none 0 0, .slice none 0 0], .int .i64 2]) (by simp [results, Try.results33, go_sem, d0, d1, d2]) rfl (by rw [HCE.out.2]; exact tpostS_err HCE.out.1 (by go_grown))
  by_cases q3 : k < 0
  · have hd : decide (k < 0) = true := by simpa using q3
    clear q1 q2
    have HCE : Hid (readR st l k = noTre ∧ readErr st l k = 2) := read_bad (fun h => by omega)
    clear q3
    go_enter Try.func33, Try.ntmps33
    go_wp2_with fail
    refine (rHoodRight_any l HA hn hc _ (HR.out.up (by go_grown)) (by unfold maxLen; omega)).mono ?_
    rw [hh]
    rintro e w1 ⟨rfl, hb⟩
    have HB : Hid (Below w.heap.size w w1) := below_next hb (by go_grown)
    have RZ : Hid (Row w1 w.heap.size 25 [.int .i64 0, .slice none 0 0, .slice none 0 0]) := rowCells (Row.new w 25 [.int .i64 0, .slice none 0 0, .slice none 0 0]) hb
    clear hb
    have d0 := RZ.out.cell 0
    have d1 := RZ.out.cell 1
    have d2 := RZ.out.cell 2
    have dl := RZ.out.lt
    simp only [List.getElem?_cons_zero, List.getElem?_cons_succ] at d0 d1 d2
    have f0 := RZ.out.frozen 0
    have f1 := RZ.out.frozen 1
    have f2 := RZ.out.frozen 2
    have BB := HB.out
    go_wp2
    exact bodyPost_ret (v := .tuple #[.agg #[.int .i64 0, .slice none 0 0, .slice none 0 0], .int .i64 2]) (by simp [results, Try.results33, go_sem, d0, d1, d2]) rfl (by rw [HCE.out.2]; exact tpostS_err HCE.out.1 (by go_grown))
  have hd3 : decide (k < 0) = false := by simpa using q3
  by_cases q4 : (hn : Int) ≤ k
  · have hd : decide ((hn : Int) ≤ k) = true := by simpa using q4
    clear q1 q2
    have HCE : Hid (readR st l k = noTre ∧ readErr st l k = 2) := read_bad (fun h => by rw [HL.out] at h; omega)
    clear q3 q4
    go_enter Try.func33, Try.ntmps33
    go_wp2_with fail
    refine (rHoodRight_any l HA hn hc _ (HR.out.up (by go_grown)) (by unfold maxLen; omega)).mono ?_
    rw [hh]
    rintro e w1 ⟨rfl, hb⟩
    have HB : Hid (Below w.heap.size w w1) := below_next hb (by go_grown)
    have RZ : Hid (Row w1 w.heap.size 25 [.int .i64 0, .slice none 0 0, .slice none 0 0]) := rowCells (Row.new w 25 [.int .i64 0, .slice none 0 0, .slice none 0 0]) hb
    clear hb
    have d0 := RZ.out.cell 0
    have d1 := RZ.out.cell 1
    have d2 := RZ.out.cell 2
    have dl := RZ.out.lt
    simp only [List.getElem?_cons_zero, List.getElem?_cons_succ] at d0 d1 d2
    have f0 := RZ.out.frozen 0
    have f1 := RZ.out.frozen 1
    have f2 := RZ.out.frozen 2
    have BB := HB.out
    go_wp2
    exact bodyPost_ret (v := .tuple #[.agg #[.int .i64 0, .slice none 0 0, .slice none 0 0], .int .i64 2]) (by simp [results, Try.results33, go_sem, d0, d1, d2]) rfl (by rw [HCE.out.2]; exact tpostS_err HCE.out.1 (by go_grown))
  have hd4 : decide ((hn : Int) ≤ k) = false := by simpa using q4
  have HE : Hid (readErr st l k = 0) := readErr_ok HSO.out hh ⟨by omega, by rw [HL.out]; omega⟩
  have HRR0 : Hid (readR st l k = readT st l k.toNat) := by show _ = _; unfold readR; rw [HE.out]; rfl
  obtain ⟨l1, l25⟩ := hoodOk_len hh
  rw [HL.out] at l1 l25
  obtain ⟨S, hS⟩ : ∃ S : Nat, st = (S : Int) := ⟨st.toNat, by omega⟩
  have HST : Hid (st = (S : Int)) := hS
  have hS2 : 2 ≤ S := by omega
  have hS8 : S ≤ 8 := by omega
  obtain ⟨kn, rfl⟩ : ∃ kn : Nat, k = (kn : Int) := ⟨k.toNat, by omega⟩
  have hd5 : decide (hn ≤ kn) = false := by rw [decide_eq_false_iff_not]; omega
  obtain ⟨at_, hat_⟩ : ∃ a : Nat, a = hn - kn := ⟨_, rfl⟩
  have hat : (hn : Int) - (kn : Int) = (at_ : Int) := by omega
  have hat1 : 1 ≤ at_ := by omega
  have hatn : at_ ≤ hn := by omega
  obtain ⟨tot, htot⟩ : ∃ tot : Nat, tot = (readNs S at_ hn).length := ⟨_, rfl⟩
  have HRR : Hid (readR st l (kn : Int) = ⟨st, l, readNs S at_ hn⟩) := by show _ = _; rw [HRR0.out, Int.toNat_natCast, readT, HL.out, hS, Int.toNat_natCast, hat_]
  have HNL : Hid ((readNs S at_ hn).length = tot) := htot.symm
  have hCl := (readC_length S at_ S).1
  have hSa : S * (at_ - 1) ≤ 8 * 24 := Nat.mul_le_mul hS8 (by omega)
  have htb : tot ≤ 1000 := by
    rw [htot, readNs, nodesIn_length, readM, List.length_append, List.length_singleton, hCl]; omega
  have HNX : Hid (∀ x ∈ readNs S at_ hn, x.next.length ≤ 20) := readNs_next S at_ hn hS8
  have hwat : IntKind.i64.wrap (at_ : Int) = (at_ : Int) := IntWalk.i64_in _ (by omega)
  have hwat1 : IntKind.i64.wrap ((at_ : Int) - 1) = (at_ : Int) - 1 := IntWalk.i64_in _ (by omega)
  have HCL : Hid ((readC S at_ S).1.length = S * (at_ - 1)) := hCl
  clear q1 q2 q3 q4 hS hat_ htot HRR0 hCl
  go_enter Try.func33, Try.ntmps33
  go_wp2_with fail
  refine (rHoodRight_any l HA hn hc _ (HR.out.up (by go_grown)) (by unfold maxLen; omega)).mono ?_
  rw [hh]
  rintro e w1 ⟨rfl, hb⟩
  have HB : Hid (Below w.heap.size w w1) := below_next hb (by go_grown)
  have RZ : Hid (Row w1 w.heap.size 25 [.int .i64 0, .slice none 0 0, .slice none 0 0]) := rowCells (Row.new w 25 [.int .i64 0, .slice none 0 0, .slice none 0 0]) hb
  clear hb
  have d0 := RZ.out.cell 0
  have d1 := RZ.out.cell 1
  have d2 := RZ.out.cell 2
  have dl := RZ.out.lt
  simp only [List.getElem?_cons_zero, List.getElem?_cons_succ] at d0 d1 d2
  have f0 := RZ.out.frozen 0
  have f1 := RZ.out.frozen 1
  have f2 := RZ.out.frozen 2
  go_wp2
  have HTB0 : Hid (Row (World.alloc (World.alloc w1 _) _) w1.heap.size 25 [.int .i64 st, .slice HA hn hc, .slice none 0 0]) := (Row.new w1 25 [.int .i64 st, .slice HA hn hc, .slice none 0 0]).alloc (.cells #[.int .i64 (at_ : Int), .slice none 0 0] 61)
  have HXB0 : Hid (Row (World.alloc (World.alloc w1 (.cells #[.int .i64 st, .slice HA hn hc, .slice none 0 0] 25)) _) (w1.heap.size + 1) 61 [.int .i64 (at_ : Int), .slice none 0 0]) := rowNew1 w1 _ 61 [.int .i64 (at_ : Int), .slice none 0 0]
  have hn3 : Below w1.heap.size w1 (World.alloc (World.alloc w1 (.cells #[.int .i64 st, .slice HA hn hc, .slice none 0 0] 25)) (.cells #[.int .i64 (at_ : Int), .slice none 0 0] 61)) := by go_grown
  have HSZ0 : Hid ((World.alloc (World.alloc w1 (.cells #[.int .i64 st, .slice HA hn hc, .slice none 0 0] 25)) (.cells #[.int .i64 (at_ : Int), .slice none 0 0] 61)).heap.size = w1.heap.size + 2) := by show _ = _; rw [World.size_alloc, World.size_alloc]
  have HB := (show Hid (Below w.heap.size w _) from below_on2 HB.out hn3)
  have HZB0 : Hid (w.heap.size < w1.heap.size) := dl
  have RZ := (show Hid (Row _ _ _ _) from rowCells RZ.out hn3)
  clear hn3 d0 d1 d2 dl f0 f1 f2
  revert HTB0 HXB0 HSZ0 HB RZ HZB0
  generalize World.alloc (World.alloc w1 (.cells #[.int .i64 st, .slice HA hn hc, .slice none 0 0] 25)) (.cells #[.int .i64 (at_ : Int), .slice none 0 0] 61) = w3
  generalize w1.heap.size = b
  intro HTB0 HXB0 HSZ0 HB HZB RZ
  obtain ⟨g, hg⟩ : ∃ g : Nat, g = b + 1 := ⟨_, rfl⟩
  rw [← hg] at HXB0 ⊢
  obtain ⟨B, hBB⟩ : ∃ B : Nat, B = b + 2 := ⟨_, rfl⟩
  obtain ⟨hv, hhv⟩ : ∃ hv : Value, hv = .slice HA hn hc := ⟨_, rfl⟩
  have HHV : Hid (hv = .slice HA hn hc) := hhv
  have HTB : Hid (TSt w3 B b st hv [] none) := TSt.new _ _ _ _ (by rw [hhv]; exact HTB0.out) (by omega)
  have HXB : Hid (Row w3 g 61 [.int .i64 (at_ : Int), .slice none 0 0]) := HXB0.out
  have hbB : Hid (b ≤ B) := (by show _ ≤ _; omega)
  have hgB : Hid (g < B ∧ b < g) := (by show _ ∧ _; omega)
  have HSZ : Hid (w3.heap.size = B) := (by show _ = _; have := HSZ0.out; omega)
  clear hg hBB hhv HTB0 HSZ0 HXB0
  go_loopg [11, 12, 13] S (fun gg s11 _ _ wr => ∃ (s : Nat) (v : Value), s ≤ S ∧ S - s ≤ gg ∧ s11 = .int .i64 s ∧ Aside (TFr g b w3 wr) ∧ Aside (Row wr g 61 [.int .i64 (at_ : Int), v]) ∧ Aside (wr.ownsRow w3.heap.size 3 1 v s (ints (readC S at_ s).2)) ∧ Aside (TSt wr B b st hv (readC S at_ s).1 v.ownBlock))
  case atStart => exact ⟨0, .slice none 0 0, Nat.zero_le _, by omega, rfl, TFr.refl _ _ _, HXB.out, World.ownsRow_nil _ _ _ _, HTB.out⟩
  case round =>
    obtain ⟨s, v, hs, hgg, rfl, FF, RX, OW, RS⟩ := hrel
    obtain ⟨XA, xc, rfl, _⟩ := Rd.own OW.out
    have hszr : Hid (w3.heap.size ≤ wr.heap.size) := FF.out.below.size
    have RX : Hid (Row wr g 61 [.int .i64 (at_ : Int), .slice XA s xc]) := RX.out
    have hCl := readC_length S at_ s
    have hss : s * (at_ - 1) ≤ 8 * 24 := Nat.mul_le_mul (by omega) (by omega)
    by_cases hlt : s < S
    · have hltz : (s : Int) < st := by have := HST.out; omega
      have HSU : Hid (readC S at_ (s + 1) = ((nodesIn S (readC S at_ s).1 1 (s : Int) (at_ - 1)).1, (readC S at_ s).2 ++ [(nodesIn S (readC S at_ s).1 1 (s : Int) (at_ - 1)).2])) := rfl
      generalize readC S at_ s = p at RS OW HSU hCl
      obtain ⟨m0, lc⟩ := p
      dsimp only at hCl
      have hml : m0.length ≤ 300 := by rw [hCl.1]; omega
      have HSU' : Hid (readC S at_ (s + 1) = ((nodesIn S m0 1 (s : Int) (at_ - 1)).1, lc ++ [(nodesIn S m0 1 (s : Int) (at_ - 1)).2])) := HSU.out
      obtain ⟨q, hq⟩ : ∃ q, q = (Value.slice XA s xc).ownBlock := ⟨_, rfl⟩
      have HQ : Hid (q = (Value.slice XA s xc).ownBlock) := hq
      have RS : Hid (TSt wr B b st hv m0 q) := (by show TSt _ _ _ _ _ _ _; rw [hq]; exact RS.out)
      have OW : Hid (wr.ownsRow w3.heap.size 3 1 (.slice XA s xc) s (ints lc)) := OW.out
      clear HSU hCl hss hq
      go_wp2
      obtain ⟨wo, rfl⟩ : ∃ wo : World, wo = wr := ⟨_, rfl⟩
      go_loopg [12, 13] (at_ - 1) (fun gg s12 s13 wr => ∃ (kk : Nat) (z : Int), kk ≤ at_ - 1 ∧ at_ - 1 - kk ≤ gg ∧ s13 = .int .i64 ((kk : Int) + 1) ∧ s12 = .int .i64 z ∧ Aside (z = (nodesIn S m0 1 (s : Int) kk).2) ∧ Aside (TFr B b wo wr) ∧ Aside (TSt wr B b st hv (nodesIn S m0 1 (s : Int) kk).1 q))
      case atStart => exact ⟨0, (s : Int), Nat.zero_le _, by omega, by go_num, rfl, rfl, TFr.refl _ _ _, RS.out⟩
      case round =>
        obtain ⟨kk, z, hkk, hgk, rfl, rfl, HZ, FI, RI⟩ := hrel
        have hlen := nodesIn_length S m0 1 (s : Int) kk
        have hszw : wo.heap.size ≤ wr.heap.size := FI.out.below.size
        have hszr : B ≤ wr.heap.size := by have := HSZ.out; have := hszr.out; omega
        by_cases hltk : kk < at_ - 1
        · have hltkz : (kk : Int) + 1 < (at_ : Int) := by omega
          have HSI : Hid (nodesIn S m0 1 (s : Int) (kk + 1) = ((nodesIn S m0 1 (s : Int) kk).1 ++ [⟨((1 + kk : Nat) : Int), List.replicate S (nodesIn S m0 1 (s : Int) kk).2⟩], (((nodesIn S m0 1 (s : Int) kk).1.length : Nat) : Int))) := rfl
          generalize nodesIn S m0 1 (s : Int) kk = p at HZ RI HSI hlen
          obtain ⟨ms, pz⟩ := p
          dsimp only at hlen
          have HZ' : Hid (z = pz) := HZ.out
          have RI : Hid (TSt wr B b st hv ms q) := RI.out
          obtain ⟨NA, nc, sl, hrow9, hown9, hsl9, _, hx9⟩ := RI.out.op
          generalize hnn : ms.length = n at hrow9 hown9 hsl9 hlen
          have HMN : Hid (ms.length = n) := hnn
          have HSL : Hid (sl.length = ms.length) := hsl9.trans hnn.symm
          have HROW : Hid (Row wr b 25 [.int .i64 st, hv, .slice NA n nc]) := hrow9
          have HOG : Hid (wr.ownsRow B 61 2 (.slice NA n nc) n (nodesCells ms sl)) := hown9
          have HX : Hid (NextAt wr ms sl q) := hx9
          clear hrow9 hown9 hsl9 hx9 hnn
          have hqr : Hid (∀ k, q = some k → k < wr.heap.size) := fun k hk => by rw [HQ.out] at hk; have := (OW.out.lt k hk).2; omega
          have hn5 : n ≤ 2000 := by omega
          have FF2 : Hid (TFr B b wo wr) := FI.out
          clear HZ hlen FI
          have e0 := HROW.out.cell 0
          have e1 := HROW.out.cell 1
          have e2 := HROW.out.cell 2
          have el := HROW.out.lt
          simp only [List.getElem?_cons_zero, List.getElem?_cons_succ] at e0 e1 e2
          go_wp2_with fail
          refine wp_region_L (fun w' => Row w' b 25 [.int .i64 st, hv, .slice NA n nc]) [7, 8, 9] (by kernel_rfl) (by exact HROW.out.drew) (fun hHeld => ?_)
          have HROWd : Hid (Row wr.drew b 25 [.int .i64 st, hv, .slice NA n nc]) := hHeld
          have HOGd : Hid (wr.drew.ownsRow B 61 2 (.slice NA n nc) n (nodesCells ms sl)) := HOG.out
          have HXd : Hid (NextAt wr.drew ms sl q) := HX.out
          have Fd : Hid (TFr B b wo wr.drew) := FF2.out.drew
          have hszd : Hid (B ≤ wr.drew.heap.size) := hszr
          have hqd : Hid (∀ k, q = some k → k < wr.drew.heap.size) := hqr.out
          clear HROW HOG HX FF2 hqr e0 e1 e2 el 
          revert hHeld HROWd HOGd HXd Fd hszd hqd
          generalize wr.drew = wQ
          intro hHeld HROWd HOGd HXd Fd hszd hqd
          have hszd2 := hszd.out
          refine restL_pure (i := 0) (v := ?vb1) rfl (by kernel_rfl) (by kernel_rfl) (by kernel_rfl) (fun _ _ _ h => h) (Or.inl ⟨by rfl, ?yb1⟩) ?rb1
          case yb1 => intro w' hSw; clear hSw; go_simp; try (with_reducible rfl)
          go_simp
          refine restL_pure (i := 2) (v := ?vb2) rfl (by kernel_rfl) (by kernel_rfl) (by kernel_rfl) (fun _ _ _ h => h) (Or.inl ⟨by rfl, ?yb2⟩) ?rb2
          case yb2 => intro w' hSw; clear hSw; go_simp; try (with_reducible rfl)
          go_simp
          refine restL_pure (i := 3) (v := ?vb3) rfl (by kernel_rfl) (by kernel_rfl) (by kernel_rfl) (fun _ _ _ h => h) (Or.inl ⟨by rfl, ?yb3⟩) ?rb3
          case yb3 => intro w' hSw; clear hSw; go_simp; try (with_reducible rfl)
          go_simp
          refine restL_pure (i := 4) (v := ?vb4) rfl (by kernel_rfl) (by kernel_rfl) (by kernel_rfl) (fun _ _ _ h => h) (Or.inl ⟨by rfl, ?yb4⟩) ?rb4
          case yb4 => intro w' hSw; clear hSw; go_simp; try (with_reducible rfl)
          go_simp
          refine restL_take (i := 1) (v := ?vb5) [[7], [8], [9]] rfl (by kernel_rfl) (by kernel_rfl) (by kernel_rfl) (by kernel_rfl) (fun _ _ _ h => h) (Or.inl ⟨by rfl, ?yb5⟩) hHeld ?rb5
          case yb5 =>
            intro w' hSw
            have hSh : Hid (Row w' b 25 [.int .i64 st, hv, .slice NA n nc]) := hSw
            clear hSw
            have z0 := hSh.out.cell 0
            have z1 := hSh.out.cell 1
            have z2 := hSh.out.cell 2
            have zl := hSh.out.lt
            simp only [List.getElem?_cons_zero, List.getElem?_cons_succ] at z0 z1 z2
            go_simp
            try (with_reducible rfl)
          go_simp
          refine restL_one (i := 5) (by kernel_rfl) rfl (fun K hK => ?_)
          go_simp
          go_at_call 46
          refine (all_any ((kk : Int) + 1) st z S _ HST.out hS8).mono ?_
          rintro e w4 ⟨AA, ac, rfl, HR4, hb4⟩
          have hn4 : Below wQ.heap.size wQ w4 := below_next hb4 (by go_grown)
          have HROWp : Hid (Row w4 b 25 [.int .i64 st, hv, .slice NA n nc]) := rowCells HROWd.out hn4
          have HOGp : Hid (w4.ownsRow B 61 2 (.slice NA n nc) n (nodesCells ms sl)) := own_below HOGd.out hn4 (Nat.le_refl _)
          have HXp : Hid (NextAt w4 ms sl q) := NextAt.keep HXd.out (fun k cs hk _ _ _ => (hn4.block k (heap_lt hk)).trans hk)
          have Fp : Hid (TFr B b wo w4) := Fd.out.trans (TFr.ofBelow hn4 (Nat.le_trans hbB.out hszd.out))
          have hsz4 : Hid (B ≤ w4.heap.size) := Nat.le_trans hszd.out hn4.size
          have HRp : Hid (w4.ownsRow 0 3 1 (.slice AA S ac) S (ints (List.replicate S z))) := own_base HR4 (Nat.zero_le _)
          have hqp : Hid (∀ k, q = some k → (Value.slice AA S ac).ownBlock ≠ some k) := fun k hk e => by have h1 := hqd.out k hk; have h2 := (HR4.lt k e).1; omega
          have hbl4 := HROWp.out.lt
          clear HR4 hb4 hn4 hHeld HROWd HOGd HXd Fd hqd
          refine hK.out _ _ (fun _ => ?keep) (fun hHeld => ?_)
          case keep => exact HROWp.out
          have hHeld := hHeld rfl
          clear hK K
          try go_simp
          refine restL_one (i := 6) (by kernel_rfl) rfl (fun K hK => ?_)
          go_simp
          refine hK.out _ _ (fun _ => ?keep) (fun hHeld => ?_)
          case keep => exact HROWp.out.alloc _
          have hHeld := hHeld rfl
          clear hK K
          try go_simp
          refine restL_one (i := 7) (by kernel_rfl) rfl (fun K hK => ?_)
          refine step_app rfl (.tmp 58) (.tmp 63) 23 rfl B 61 (.agg #[.int .i64 0, .slice none 0 0]) 2 32 Try.underlying23 node_info rfl (by decide) (by decide) (.slice NA n nc) n (nodesCells ms sl) rfl ?own (w4.heap.size + 1) (some ⟨w4.heap.size, 0, none⟩) 1 1 [.int .i64 ((kk : Int) + 1), .slice AA S ac] rfl ?rd ?one ?hb ?hbase ?_
          case own => exact HOGp.out.alloc _
          case rd => exact Rd.lit w4 #[.int .i64 ((kk : Int) + 1), .slice AA S ac] 61 (sz := 2) (m := 1) rfl
          case one => first | exact nd_one _ _ _ _ | rfl
          case hb => omega
          case hbase => first | (have := hsz4.out; simp; omega) | (have := hsz4.out; omega)
          intro v' w' hown' hgrow' hat'
          obtain ⟨p1, p2, p3, p4⟩ := TSt.push (x := ⟨((kk : Int) + 1), List.replicate S z⟩) (s := ⟨AA, S, ac⟩) (HROWp.out.alloc _) (HOGp.out.alloc _) HMN.out HSL.out hbB.out (NextAt.keep HXp.out (fun k cs hk _ _ _ => (Below.heap_alloc _ _ k (heap_lt hk)).trans hk)) (HRp.out.alloc _) hqp.out hgrow' hown' (Fp.out.alloc (Nat.le_trans hbB.out hsz4.out) _)
          obtain ⟨VA, vc, rfl, _⟩ := Rd.own hown'
          have PR : Hid (Row w' b 25 [.int .i64 st, hv, .slice NA n nc]) := p1
          have PS : Hid (TSt (w'.setCell ⟨b, 2, none⟩ (.slice VA (n + 1) vc)) B b st hv (ms ++ [⟨((kk : Int) + 1), List.replicate S z⟩]) q) := p2
          have PF : Hid (TFr B b wo (w'.setCell ⟨b, 2, none⟩ (.slice VA (n + 1) vc))) := p3
          clear p1 p2 p3 p4
          have q2 := PR.out.cell 2
          have qf := PR.out.frozen 2
          simp only [List.getElem?_cons_zero, List.getElem?_cons_succ] at q2
          clear hown' hgrow' hat' HROWp HOGp HXp Fp hsz4 HRp hqp
          refine hK.out _ _ (fun h => absurd h (by decide)) (fun _ => ?_)
          clear hK K
          try go_simp
          refine restL_pure (i := 8) (v := ?vb6) rfl (by kernel_rfl) (by kernel_rfl) (by kernel_rfl) (fun _ _ _ h => h) (Or.inl ⟨by rfl, ?yb6⟩) ?rb6
          case yb6 => intro w' hSw; clear hSw; go_simp; try (with_reducible rfl)
          go_simp
          refine restL_one (i := 9) (by kernel_rfl) rfl (fun K hK => ?_)
          go_simp
          refine hK.out _ _ (fun h => absurd h (by decide)) (fun _ => ?_)
          clear hK K
          try go_simp
          refine restL_done (by kernel_rfl) ?_ _
          have HR8 : Hid (Row (World.setCell w' ⟨b, 2, none⟩ (.slice VA (n + 1) vc)) b 25 [.int .i64 st, hv, .slice VA (n + 1) vc]) := PR.out.set 2 (.slice VA (n + 1) vc)
          clear q2 qf PR
          revert HR8 PS PF
          generalize World.setCell w' ⟨b, 2, none⟩ (.slice VA (n + 1) vc) = w8
          intro PS PF HR8
          have e0 := HR8.out.cell 0
          have e1 := HR8.out.cell 1
          have e2 := HR8.out.cell 2
          have el := HR8.out.lt
          simp only [List.getElem?_cons_zero, List.getElem?_cons_succ] at e0 e1 e2
          have hwn : IntKind.i64.wrap ((n : Int) + 1) = (n : Int) + 1 := IntWalk.i64_in _ (by omega)
          go_wp2
          go_roundg (at_ - 1 - (kk + 1))
          case measure => omega
          case rel =>
            refine ⟨kk + 1, (n : Int), by omega, by omega, by go_num, by go_num, ?_, PF.out, ?_⟩
            · show (n : Int) = _
              rw [HSI.out, HMN.out]
            · show TSt _ _ _ _ _ _ _
              rw [HSI.out]
              have h := PS.out
              rw [HZ'.out, show (kk : Int) + 1 = ((1 + kk : Nat) : Int) by omega] at h
              exact h
        · have hltkz : ¬ (kk : Int) + 1 < (at_ : Int) := by omega
          obtain rfl : kk = at_ - 1 := by omega
          clear hlen hkk hltk hgk
          generalize nodesIn S m0 1 (s : Int) (at_ - 1) = cz at HZ RI HSU'
          obtain ⟨cm, cw⟩ := cz
          have HZ' : Hid (z = cw) := HZ.out
          have HSU : Hid (readC S at_ (s + 1) = (cm, lc ++ [cw])) := HSU'.out
          have TSi : Hid (TSt wr B b st hv cm (Value.slice XA s xc).ownBlock) := (by show TSt _ _ _ _ _ _ _; rw [← HQ.out]; exact RI.out)
          have OWi : Hid (wr.ownsRow w3.heap.size 3 1 (.slice XA s xc) s (ints lc)) := FI.out.own OW.out (by decide) (by decide)
          have RXi : Hid (Row wr g 61 [.int .i64 (at_ : Int), .slice XA s xc]) := FI.out.row RX.out (by decide) (fun _ => hgB.out.1)
          have Fi : Hid (TFr g b w3 wr) := FF.out.trans (FI.out.weaken (Nat.le_of_lt hgB.out.1))
          have hsz3 : w3.heap.size ≤ wr.heap.size := Fi.out.below.size
          have hs9 : s + 1 ≤ 9 := by omega
          clear HZ RI HSU' RX OW RS FF FI HQ
          have x0 := RXi.out.cell 0
          have x1 := RXi.out.cell 1
          have xl := RXi.out.lt
          simp only [List.getElem?_cons_zero, List.getElem?_cons_succ] at x0 x1
          go_wp2_with (at_builtin; refine wpList_app rfl (.tmp 71) (.tmp 73) 26 rfl w3.heap.size 3 (.int .i64 0) 1 8 Try.underlying26 int_infoR rfl (by decide) (by decide) (.slice XA s xc) s (ints lc) rfl ?own (wr.heap.size + 1) (some ⟨wr.heap.size, 0, none⟩) 1 1 [.int .i64 z] rfl ?rd ?one ?hb ?hbase ?_)
          case own => exact OWi.out.alloc _
          case rd => exact Rd.lit wr #[.int .i64 z] 3 (sz := 1) (m := 1) rfl
          case one => first | (intro u hu; simp at hu; subst hu; rfl) | rfl
          case hb => omega
          case hbase => first | (simp; omega) | omega
          intro v' w' hown' hgrow' hat'
          obtain ⟨VA, vc, rfl, _⟩ := Rd.own hown'
          have HROWq : Hid (Row w' g 61 [.int .i64 (at_ : Int), .slice XA s xc]) := ((RXi.out).alloc _).grown hgrow' (fun e => own_ne_row (OWi.out) (RXi.out) (by decide) e.symm)
          have HTSq : Hid (TSt w' B b st hv cm (Value.slice VA (s + 1) vc).ownBlock) := TSt.grownQ ((TSi.out).alloc _) (own_base ((OWi.out).alloc _) (Nat.zero_le _)) hgrow' (by first | exact hat' | (rw [World.size_alloc]; exact hat'))
          have HOWq : Hid (w'.ownsRow w3.heap.size 3 1 (.slice VA (s + 1) vc) (s + 1) (ints (lc ++ [z]))) := (by show World.ownsRow _ _ _ _ _ _ _; rw [ints_snoc]; exact hown')
          have Fq : Hid (TFr g b w3 w') := TFr.grownNew ((Fi.out).alloc (by have := HSZ.out; have := hbB.out; omega) _) hgrow' (fun k hk => ((OWi.out).lt k hk).1) (by have := HSZ.out; have := hbB.out; omega)
          have q1 := HROWq.out.cell 1
          have qf := HROWq.out.frozen 1
          simp only [List.getElem?_cons_zero, List.getElem?_cons_succ] at q1
          clear hown' hgrow' hat'
          clear RXi TSi OWi Fi x0 x1 xl
          have hglt := HROWq.out.lt
          go_wp2
          have HX8 : Hid (Row (World.setCell w' ⟨g, 1, none⟩ (.slice VA (s + 1) vc)) g 61 [.int .i64 (at_ : Int), .slice VA (s + 1) vc]) := HROWq.out.set 1 _
          have HT8 : Hid (TSt (World.setCell w' ⟨g, 1, none⟩ (.slice VA (s + 1) vc)) B b st hv cm (Value.slice VA (s + 1) vc).ownBlock) := TSt.setN (p := ⟨g, 1, none⟩) HTSq.out HROWq.out hgB.out.1 _
          have HO8 : Hid (World.ownsRow (World.setCell w' ⟨g, 1, none⟩ (.slice VA (s + 1) vc)) w3.heap.size 3 1 (.slice VA (s + 1) vc) (s + 1) (ints (lc ++ [z]))) := own_set (p := ⟨g, 1, none⟩) HOWq.out HROWq.out (by decide) _
          have HF8 : Hid (TFr g b w3 (World.setCell w' ⟨g, 1, none⟩ (.slice VA (s + 1) vc))) := TFr.setN (p := ⟨g, 1, none⟩) Fq.out HROWq.out (Nat.le_of_lt hgB.out.2) (Nat.le_refl _) _
          clear HROWq HTSq HOWq Fq q1 qf
          revert HX8 HT8 HO8 HF8
          generalize World.setCell w' ⟨g, 1, none⟩ (.slice VA (s + 1) vc) = w8
          intro HX8 HT8 HO8 HF8
          go_roundg (S - (s + 1))
          case measure => omega
          case rel =>
            refine ⟨s + 1, .slice VA (s + 1) vc, by omega, by omega, by go_num, HF8.out, HX8.out, ?_, ?_⟩
            · show World.ownsRow _ _ _ _ _ _ _
              rw [HSU.out, ← HZ'.out]; exact HO8.out
            · show TSt _ _ _ _ _ _ _
              rw [HSU.out]; exact HT8.out
    · have hltz : ¬ (s : Int) < st := by have := HST.out; omega
      obtain rfl : S = s := by omega
      obtain ⟨lc, hlc⟩ : ∃ lc, lc = (readC S at_ S).2 := ⟨_, rfl⟩
      have HLC : Hid (lc = (readC S at_ S).2) := hlc
      rw [← hlc] at OW
      obtain ⟨ms, hms⟩ : ∃ ms, ms = (readC S at_ S).1 := ⟨_, rfl⟩
      have HMS : Hid (ms = (readC S at_ S).1) := hms
      rw [← hms] at RS hCl
      have hml : ms.length ≤ 300 := by rw [hCl.1]; omega
      obtain ⟨NA, nc, sl, hrow9, hown9, hsl9, _, hx9⟩ := RS.out.free.op
      have HRI : Hid (wr.ownsRow 0 3 1 (.slice XA S xc) S (ints lc)) := own_base OW.out (Nat.zero_le _)
      generalize hnn : ms.length = n at hrow9 hown9 hsl9 hml
      have HMN : Hid (ms.length = n) := hnn
      have HSL : Hid (sl.length = ms.length) := hsl9.trans hnn.symm
      have HROW : Hid (Row wr b 25 [.int .i64 st, hv, .slice NA n nc]) := hrow9
      have HOG : Hid (wr.ownsRow B 61 2 (.slice NA n nc) n (nodesCells ms sl)) := hown9
      have HX : Hid (NextAt wr ms sl none) := hx9
      have hszB : Hid (B ≤ wr.heap.size) := (by show _ ≤ _; have := HSZ.out; have := hszr.out; omega)
      have hszB2 := hszB.out
      clear hrow9 hown9 hsl9 hx9 hnn hlc hms RS OW hss hCl
      have e0 := HROW.out.cell 0
      have e1 := HROW.out.cell 1
      have e2 := HROW.out.cell 2
      have el := HROW.out.lt
      simp only [List.getElem?_cons_zero, List.getElem?_cons_succ] at e0 e1 e2
      have x0 := RX.out.cell 0
      have x1 := RX.out.cell 1
      have xl := RX.out.lt
      simp only [List.getElem?_cons_zero, List.getElem?_cons_succ] at x0 x1
      go_wp2_with (at_builtin; refine wpList_app rfl (.tmp 77) (.tmp 79) 23 rfl B 61 (.agg #[.int .i64 0, .slice none 0 0]) 2 32 Try.underlying23 node_info rfl (by decide) (by decide) (.slice NA n nc) n (nodesCells ms sl) rfl ?own (wr.heap.size + 1) (some ⟨wr.heap.size, 0, none⟩) 1 1 [.int .i64 (at_ : Int), .slice XA S xc] rfl ?rd ?one ?hb ?hbase ?_)
      case own => exact HOG.out.alloc _
      case rd => exact Rd.lit wr #[.int .i64 (at_ : Int), .slice XA S xc] 61 (sz := 2) (m := 1) rfl
      case one => first | exact nd_one _ _ _ _ | rfl | exact ⟨rfl, rfl⟩
      case hb => omega
      case hbase => first | (simp; omega) | omega
      intro v' w' hown' hgrow' hat'
      obtain ⟨p1, p2, p3, p4⟩ := TSt.push (x := ⟨(at_ : Int), lc⟩) (s := ⟨XA, S, xc⟩) (HROW.out.alloc _) (HOG.out.alloc _) HMN.out HSL.out hbB.out (NextAt.keep HX.out (fun k cs hk _ _ _ => (Below.heap_alloc _ _ k (heap_lt hk)).trans hk)) (HRI.out.alloc _) (fun k hk => by cases hk) hgrow' hown' ((TFr.refl B b wr).alloc (by have := hbB.out; omega) _)
      obtain ⟨VA, vc, rfl, _⟩ := Rd.own hown'
      have PR : Hid (Row w' b 25 [.int .i64 st, hv, .slice NA n nc]) := p1
      have PS : Hid (TSt (w'.setCell ⟨b, 2, none⟩ (.slice VA (n + 1) vc)) B b st hv (ms ++ [⟨(at_ : Int), lc⟩]) none) := p2
      have PF : Hid (TFr B b wr (w'.setCell ⟨b, 2, none⟩ (.slice VA (n + 1) vc))) := p3
      have RX9 : Hid (Row (w'.setCell ⟨b, 2, none⟩ (.slice VA (n + 1) vc)) g 61 [.int .i64 (at_ : Int), .slice XA S xc]) := p3.row RX.out (by decide) (fun _ => hgB.out.1)
      have RX8 : Hid (Row w' g 61 [.int .i64 (at_ : Int), .slice XA S xc]) := p4.row RX.out (by decide) (fun _ => hgB.out.1)
      clear p1 p2 p3 p4 hown' hgrow' hat' e0 e1 e2 el x0 x1 xl HROW HOG HX HRI
      have x0 := RX8.out.cell 0
      have x1 := RX8.out.cell 1
      have xl := RX8.out.lt
      simp only [List.getElem?_cons_zero, List.getElem?_cons_succ] at x0 x1
      have hgb1 : ¬ g = b := by have := hgB.out.2; omega
      have hgb2 : ¬ b = g := by have := hgB.out.2; omega
      have q2 := PR.out.cell 2
      have qf := PR.out.frozen 2
      simp only [List.getElem?_cons_zero, List.getElem?_cons_succ] at q2
      have hbl' := PR.out.lt
      have hn301 : n + 1 ≤ 302 := by omega
      have hlx : (ms ++ [(⟨(at_ : Int), lc⟩ : Nd)]).length = n + 1 := by rw [List.length_append, List.length_singleton, HMN.out]
      have HLX : Hid ((ms ++ [(⟨(at_ : Int), lc⟩ : Nd)]).length = n + 1) := hlx
      have HSZ9 : Hid (B ≤ (w'.setCell ⟨b, 2, none⟩ (.slice VA (n + 1) vc)).heap.size) := (by show _ ≤ _; have h1 := PF.out.below.size; omega)
      have FT8 : Hid (TFr g b w3 (w'.setCell ⟨b, 2, none⟩ (.slice VA (n + 1) vc))) := FF.out.trans (PF.out.weaken (Nat.le_of_lt hgB.out.1))
      clear hlx PF RX9 FF
      go_wp2
      clear q2 qf x0 x1 xl hgb1 hgb2 hbl' PR RX8
      revert PS HSZ9 FT8
      generalize World.setCell w' ⟨b, 2, none⟩ (.slice VA (n + 1) vc) = w8
      intro PS HSZ9 FT8
      have HNS : Hid ((nodesIn S (ms ++ [⟨(at_ : Int), lc⟩]) (at_ + 1) (n : Int) (hn - at_)).1 = readNs S at_ hn) := by
        show _ = _
        rw [readNs, readM, ← HMS.out, ← HLC.out, HLX.out]
        have e1 : ((n + 1 : Nat) : Int) - 1 = (n : Int) := by omega
        rw [e1]
      clear HMS HLC
      generalize ms ++ [⟨(at_ : Int), lc⟩] = M at PS HLX HNS
      obtain ⟨wo, rfl⟩ : ∃ wo : World, wo = wr := ⟨_, rfl⟩
      obtain ⟨q, hq⟩ : ∃ q : Option Nat, q = none := ⟨_, rfl⟩
      have HQ : Hid (q = none) := hq
      have PS : Hid (TSt w8 B b st hv M q) := (by show TSt _ _ _ _ _ _ _; rw [hq]; exact PS.out)
      generalize n = n0 at HLX HNS hn301
      clear hq hml HMN HSL hszB hszB2
      go_loopg [14] (hn - at_) (fun gg s14 wr => ∃ (kk : Nat), kk ≤ hn - at_ ∧ hn - at_ - kk ≤ gg ∧ s14 = .int .i64 ((at_ : Int) + 1 + (kk : Int)) ∧ Aside (TFr B b w8 wr) ∧ Aside (TSt wr B b st hv (nodesIn S M (at_ + 1) (n0 : Int) kk).1 q))
      case atStart => exact ⟨0, Nat.zero_le _, by omega, by go_num, TFr.refl _ _ _, PS.out⟩
      case round =>
        obtain ⟨kk, hkk, hgk, rfl, FF, RI⟩ := hrel
        have hlen := nodesIn_length S M (at_ + 1) (n0 : Int) kk
        rw [HLX.out] at hlen
        have hszr : B ≤ wr.heap.size := Nat.le_trans HSZ9.out FF.out.below.size
        by_cases hltk : kk < hn - at_
        · have hltkz : (at_ : Int) + 1 + (kk : Int) ≤ (hn : Int) := by omega
          have HSI : Hid ((nodesIn S M (at_ + 1) (n0 : Int) (kk + 1)).1 = (nodesIn S M (at_ + 1) (n0 : Int) kk).1 ++ [⟨((at_ + 1 + kk : Nat) : Int), List.replicate S (((nodesIn S M (at_ + 1) (n0 : Int) kk).1.length : Int) - 1)⟩]) := by
            show _ = _
            have h1 := nodesIn_idx S M (at_ + 1) (n0 : Int) (by rw [HLX.out]; omega) kk
            rw [← h1]; rfl
          generalize (nodesIn S M (at_ + 1) (n0 : Int) kk).1 = ms at RI HSI hlen
          have RI : Hid (TSt wr B b st hv ms q) := RI.out
          obtain ⟨NA, nc, sl, hrow9, hown9, hsl9, _, hx9⟩ := RI.out.op
          generalize hnn : ms.length = n at hrow9 hown9 hsl9 hlen
          have HMN : Hid (ms.length = n) := hnn
          have HSL : Hid (sl.length = ms.length) := hsl9.trans hnn.symm
          have HROW : Hid (Row wr b 25 [.int .i64 st, hv, .slice NA n nc]) := hrow9
          have HOG : Hid (wr.ownsRow B 61 2 (.slice NA n nc) n (nodesCells ms sl)) := hown9
          have HX : Hid (NextAt wr ms sl q) := hx9
          clear hrow9 hown9 hsl9 hx9 hnn
          have hqr : Hid (∀ k, q = some k → k < wr.heap.size) := fun k hk => by rw [HQ.out] at hk; cases hk
          have hn5 : n ≤ 2000 := by omega
          have FF : Hid (TFr B b w8 wr) := FF.out
          have hwn1 : IntKind.i64.wrap ((n : Int) - 1) = (n : Int) - 1 := IntWalk.i64_in _ (by omega)
          clear hlen
          have e0 := HROW.out.cell 0
          have e1 := HROW.out.cell 1
          have e2 := HROW.out.cell 2
          have el := HROW.out.lt
          simp only [List.getElem?_cons_zero, List.getElem?_cons_succ] at e0 e1 e2
          go_wp2_with fail
          refine wp_region_L (fun w' => Row w' b 25 [.int .i64 st, hv, .slice NA n nc]) [10, 11, 12] (by kernel_rfl) (by exact HROW.out.drew) (fun hHeld => ?_)
          have HROWd : Hid (Row wr.drew b 25 [.int .i64 st, hv, .slice NA n nc]) := hHeld
          have HOGd : Hid (wr.drew.ownsRow B 61 2 (.slice NA n nc) n (nodesCells ms sl)) := HOG.out
          have HXd : Hid (NextAt wr.drew ms sl q) := HX.out
          have Fd : Hid (TFr B b w8 wr.drew) := FF.out.drew
          have hszd : Hid (B ≤ wr.drew.heap.size) := hszr
          have hqd : Hid (∀ k, q = some k → k < wr.drew.heap.size) := hqr.out
          clear HROW HOG HX FF hqr e0 e1 e2 el 
          revert hHeld HROWd HOGd HXd Fd hszd hqd
          generalize wr.drew = wQ
          intro hHeld HROWd HOGd HXd Fd hszd hqd
          have hszd2 := hszd.out
          refine restL_pure (i := 0) (v := ?vc1) rfl (by kernel_rfl) (by kernel_rfl) (by kernel_rfl) (fun _ _ _ h => h) (Or.inl ⟨by rfl, ?yc1⟩) ?rc1
          case yc1 => intro w' hSw; clear hSw; go_simp; try (with_reducible rfl)
          go_simp
          refine restL_pure (i := 2) (v := ?vc2) rfl (by kernel_rfl) (by kernel_rfl) (by kernel_rfl) (fun _ _ _ h => h) (Or.inl ⟨by rfl, ?yc2⟩) ?rc2
          case yc2 => intro w' hSw; clear hSw; go_simp; try (with_reducible rfl)
          go_simp
          refine restL_pure (i := 3) (v := ?vc3) rfl (by kernel_rfl) (by kernel_rfl) (by kernel_rfl) (fun _ _ _ h => h) (Or.inl ⟨by rfl, ?yc3⟩) ?rc3
          case yc3 => intro w' hSw; clear hSw; go_simp; try (with_reducible rfl)
          go_simp
          refine restL_pure (i := 4) (v := ?vc4) rfl (by kernel_rfl) (by kernel_rfl) (by kernel_rfl) (fun _ _ _ h => h) (Or.inl ⟨by rfl, ?yc4⟩) ?rc4
          case yc4 => intro w' hSw; clear hSw; go_simp; try (with_reducible rfl)
          go_simp
          refine restL_take (i := 1) (v := ?vc5) [[10], [11], [12]] rfl (by kernel_rfl) (by kernel_rfl) (by kernel_rfl) (by kernel_rfl) (fun _ _ _ h => h) (Or.inl ⟨by rfl, ?yc5⟩) hHeld ?rc5
          case yc5 =>
            intro w' hSw
            have hSh : Hid (Row w' b 25 [.int .i64 st, hv, .slice NA n nc]) := hSw
            clear hSw
            have z0 := hSh.out.cell 0
            have z1 := hSh.out.cell 1
            have z2 := hSh.out.cell 2
            have zl := hSh.out.lt
            simp only [List.getElem?_cons_zero, List.getElem?_cons_succ] at z0 z1 z2
            go_simp
            try (with_reducible rfl)
          go_simp
          refine restL_take (i := 5) (v := ?vc6) [[10, 8, 7, 6], [11], [12]] rfl (by kernel_rfl) (by kernel_rfl) (by kernel_rfl) (by kernel_rfl) (fun _ _ _ h => h) (Or.inl ⟨by rfl, ?yc6⟩) hHeld ?rc6
          case yc6 =>
            intro w' hSw
            have hSh : Hid (Row w' b 25 [.int .i64 st, hv, .slice NA n nc]) := hSw
            clear hSw
            have z0 := hSh.out.cell 0
            have z1 := hSh.out.cell 1
            have z2 := hSh.out.cell 2
            have zl := hSh.out.lt
            simp only [List.getElem?_cons_zero, List.getElem?_cons_succ] at z0 z1 z2
            go_simp
            try (with_reducible rfl)
          go_simp
          refine restL_take (i := 6) (v := ?vc7) [[10, 8, 7], [11], [12]] rfl (by kernel_rfl) (by kernel_rfl) (by kernel_rfl) (by kernel_rfl) (fun _ _ _ h => h) (Or.inl ⟨by rfl, ?yc7⟩) hHeld ?rc7
          case yc7 =>
            intro w' hSw
            have hSh : Hid (Row w' b 25 [.int .i64 st, hv, .slice NA n nc]) := hSw
            clear hSw
            have z0 := hSh.out.cell 0
            have z1 := hSh.out.cell 1
            have z2 := hSh.out.cell 2
            have zl := hSh.out.lt
            simp only [List.getElem?_cons_zero, List.getElem?_cons_succ] at z0 z1 z2
            go_simp
            try (with_reducible rfl)
          go_simp
          refine restL_pure (i := 7) (v := ?vc8) rfl (by kernel_rfl) (by kernel_rfl) (by kernel_rfl) (fun _ _ _ h => h) (Or.inl ⟨by rfl, ?yc8⟩) ?rc8
          case yc8 => intro w' hSw; clear hSw; go_simp; try (with_reducible rfl)
          go_simp
          refine restL_one (i := 8) (by kernel_rfl) rfl (fun K hK => ?_)
          go_simp
          go_at_call 46
          refine (all_any ((at_ : Int) + 1 + (kk : Int)) st ((n : Int) - 1) S _ HST.out hS8).mono ?_
          rintro e w4 ⟨AA, ac, rfl, HR4, hb4⟩
          have hn4 : Below wQ.heap.size wQ w4 := below_next hb4 (by go_grown)
          have HROWp : Hid (Row w4 b 25 [.int .i64 st, hv, .slice NA n nc]) := rowCells HROWd.out hn4
          have HOGp : Hid (w4.ownsRow B 61 2 (.slice NA n nc) n (nodesCells ms sl)) := own_below HOGd.out hn4 (Nat.le_refl _)
          have HXp : Hid (NextAt w4 ms sl q) := NextAt.keep HXd.out (fun k cs hk _ _ _ => (hn4.block k (heap_lt hk)).trans hk)
          have Fp : Hid (TFr B b w8 w4) := Fd.out.trans (TFr.ofBelow hn4 (Nat.le_trans hbB.out hszd.out))
          have hsz4 : Hid (B ≤ w4.heap.size) := Nat.le_trans hszd.out hn4.size
          have HRp : Hid (w4.ownsRow 0 3 1 (.slice AA S ac) S (ints (List.replicate S ((n : Int) - 1)))) := own_base HR4 (Nat.zero_le _)
          have hqp : Hid (∀ k, q = some k → (Value.slice AA S ac).ownBlock ≠ some k) := fun k hk e => by have h1 := hqd.out k hk; have h2 := (HR4.lt k e).1; omega
          have hbl4 := HROWp.out.lt
          clear HR4 hb4 hn4 hHeld HROWd HOGd HXd Fd hqd
          refine hK.out _ _ (fun _ => ?keep) (fun hHeld => ?_)
          case keep => exact HROWp.out
          have hHeld := hHeld rfl
          clear hK K
          try go_simp
          refine restL_one (i := 9) (by kernel_rfl) rfl (fun K hK => ?_)
          go_simp
          refine hK.out _ _ (fun _ => ?keep) (fun hHeld => ?_)
          case keep => exact HROWp.out.alloc _
          have hHeld := hHeld rfl
          clear hK K
          try go_simp
          refine restL_one (i := 10) (by kernel_rfl) rfl (fun K hK => ?_)
          refine step_app rfl (.tmp 91) (.tmp 99) 23 rfl B 61 (.agg #[.int .i64 0, .slice none 0 0]) 2 32 Try.underlying23 node_info rfl (by decide) (by decide) (.slice NA n nc) n (nodesCells ms sl) rfl ?own (w4.heap.size + 1) (some ⟨w4.heap.size, 0, none⟩) 1 1 [.int .i64 ((at_ : Int) + 1 + (kk : Int)), .slice AA S ac] rfl ?rd ?one ?hb ?hbase ?_
          case own => exact HOGp.out.alloc _
          case rd => exact Rd.lit w4 #[.int .i64 ((at_ : Int) + 1 + (kk : Int)), .slice AA S ac] 61 (sz := 2) (m := 1) rfl
          case one => first | exact nd_one _ _ _ _ | rfl
          case hb => omega
          case hbase => first | (have := hsz4.out; simp; omega) | (have := hsz4.out; omega)
          intro v' w' hown' hgrow' hat'
          obtain ⟨p1, p2, p3, p4⟩ := TSt.push (x := ⟨((at_ : Int) + 1 + (kk : Int)), List.replicate S ((n : Int) - 1)⟩) (s := ⟨AA, S, ac⟩) (HROWp.out.alloc _) (HOGp.out.alloc _) HMN.out HSL.out hbB.out (NextAt.keep HXp.out (fun k cs hk _ _ _ => (Below.heap_alloc _ _ k (heap_lt hk)).trans hk)) (HRp.out.alloc _) hqp.out hgrow' hown' (Fp.out.alloc (Nat.le_trans hbB.out hsz4.out) _)
          obtain ⟨VA, vc, rfl, _⟩ := Rd.own hown'
          have PR : Hid (Row w' b 25 [.int .i64 st, hv, .slice NA n nc]) := p1
          have PS : Hid (TSt (w'.setCell ⟨b, 2, none⟩ (.slice VA (n + 1) vc)) B b st hv (ms ++ [⟨((at_ : Int) + 1 + (kk : Int)), List.replicate S ((n : Int) - 1)⟩]) q) := p2
          have PF : Hid (TFr B b w8 (w'.setCell ⟨b, 2, none⟩ (.slice VA (n + 1) vc))) := p3
          clear p1 p2 p3 p4
          have q2 := PR.out.cell 2
          have qf := PR.out.frozen 2
          simp only [List.getElem?_cons_zero, List.getElem?_cons_succ] at q2
          clear hown' hgrow' hat' HROWp HOGp HXp Fp hsz4 HRp hqp
          refine hK.out _ _ (fun h => absurd h (by decide)) (fun _ => ?_)
          clear hK K
          try go_simp
          refine restL_pure (i := 11) (v := ?vc9) rfl (by kernel_rfl) (by kernel_rfl) (by kernel_rfl) (fun _ _ _ h => h) (Or.inl ⟨by rfl, ?yc9⟩) ?rc9
          case yc9 => intro w' hSw; clear hSw; go_simp; try (with_reducible rfl)
          go_simp
          refine restL_one (i := 12) (by kernel_rfl) rfl (fun K hK => ?_)
          go_simp
          refine hK.out _ _ (fun h => absurd h (by decide)) (fun _ => ?_)
          clear hK K
          try go_simp
          refine restL_done (by kernel_rfl) ?_ _
          have HR8 : Hid (Row (World.setCell w' ⟨b, 2, none⟩ (.slice VA (n + 1) vc)) b 25 [.int .i64 st, hv, .slice VA (n + 1) vc]) := PR.out.set 2 (.slice VA (n + 1) vc)
          clear q2 qf PR
          revert HR8 PS PF
          generalize World.setCell w' ⟨b, 2, none⟩ (.slice VA (n + 1) vc) = w8
          intro PS PF HR8
          have e0 := HR8.out.cell 0
          have e1 := HR8.out.cell 1
          have e2 := HR8.out.cell 2
          have el := HR8.out.lt
          simp only [List.getElem?_cons_zero, List.getElem?_cons_succ] at e0 e1 e2
          go_wp2
          go_roundg (hn - at_ - (kk + 1))
          case measure => omega
          case rel =>
            refine ⟨kk + 1, by omega, by omega, by go_num, PF.out, ?_⟩
            show TSt _ _ _ _ _ _ _
            rw [HSI.out, HMN.out]
            have h := PS.out
            rw [show (at_ : Int) + 1 + (kk : Int) = ((at_ + 1 + kk : Nat) : Int) by omega] at h
            exact h
        · have hltkz : ¬ (at_ : Int) + 1 + (kk : Int) ≤ (hn : Int) := by omega
          obtain rfl : kk = hn - at_ := by omega
          have FT : TFr g b w3 wr := FT8.out.trans (FF.out.weaken (Nat.le_of_lt hgB.out.1))
          have RZ := (show Hid (Row wr _ _ _) from RZ.out.below FT.below HZB.out)
          have HB := (show Hid (Below w.heap.size w wr) from HB.out.trans (FT.below.mono (Nat.le_of_lt HZB.out)))
          obtain ⟨NA, nc, sl, hrow, htl⟩ := RI.out.opl
          rw [HNS.out, HNL.out, HHV.out] at hrow
          rw [HNS.out] at htl
          have HROW : Hid (Row wr b 25 [.int .i64 st, .slice HA hn hc, .slice NA tot nc]) := hrow
          have HTS : Hid (TSl wr (readNs S at_ hn) NA nc sl) := htl
          have HOK : Hid (∀ wz, TFr wr.heap.size w.heap.size wr wz → True) := fun wz f => trivial
          clear hrow htl FT RI FF hlen
          have d0 := RZ.out.cell 0
          have d1 := RZ.out.cell 1
          have d2 := RZ.out.cell 2
          have dl := RZ.out.lt
          simp only [List.getElem?_cons_zero, List.getElem?_cons_succ] at d0 d1 d2
          have f0 := RZ.out.frozen 0
          have f1 := RZ.out.frozen 1
          have f2 := RZ.out.frozen 2
          have e0 := HROW.out.cell 0
          have e1 := HROW.out.cell 1
          have e2 := HROW.out.cell 2
          have el := HROW.out.lt
          simp only [List.getElem?_cons_zero, List.getElem?_cons_succ] at e0 e1 e2
          have hbz : ¬ b = w.heap.size := by have := HZB.out; omega
          have hbz2 : ¬ w.heap.size = b := by have := HZB.out; omega
          go_wp2
          clear d0 d1 d2 dl f0 f1 f2 e0 e1 e2 el
          obtain ⟨g1, g2⟩ := TFr.store3 RZ.out (.int .i64 st) (.slice HA hn hc) (.slice NA tot nc)
          have HOO := HOK.out _ g1
          have HTL := TSl.frm HTS.out g1
          have r0 := g2.cell 0
          have r1 := g2.cell 1
          have r2 := g2.cell 2
          simp only [List.getElem?_cons_zero, List.getElem?_cons_succ] at r0 r1 r2
          have hbl : Below w.heap.size w _ := HB.out.trans g1.below
          clear g1 g2
          revert HOO HTL r0 r1 r2 hbl
          generalize (World.setCell (World.setCell (World.setCell _ ⟨w.heap.size, 0, none⟩ (.int .i64 st)) ⟨w.heap.size, 1, none⟩ _) ⟨w.heap.size, 2, none⟩ (.slice NA tot nc)) = wz
          intro HOO HTL r0 r1 r2 hbl
          refine bodyPost_ret (v := .tuple #[.agg #[.int .i64 st, .slice HA hn hc, .slice NA tot nc], .int .i64 0]) (by simp [results, Try.results33, go_sem, r0, r1, r2]) rfl ?_
          rw [HE.out, HRR.out]
          have hTA := HTL.at_ (st := st) (HR.out.up hbl) (by unfold maxLen; omega) (by rw [HNL.out]; omega) HNX.out
          rw [HNL.out] at hTA
          exact ⟨⟨HA, NA, hn, hc, tot, nc, sl, rfl, hTA, hbl⟩, fun _ => ⟨NA, nc, sl, by show _ = Ending.returned (.tuple #[.agg #[.int .i64 st, .slice HA hn hc, .slice NA (readNs S at_ hn).length nc], .int .i64 0]); rw [HNL.out], HTL⟩⟩

end Go.Proofs.Ytdkfaphclhaiaaa
