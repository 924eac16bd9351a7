/-
  A map with keys of whatever kind, read and written as a partial function of the key. Any program.
-/
import Derived.Test.YtlmdjkmcplobnaaDoorKC1
import Derived.Test.YtlmdjkmcplobnaaDoorKC3
import Derived.Maps.OwnSet
import Derived.Test.YtlmdjkmcplobnaaDoorKC2
import Derived.Test.YtlmdjkmcplobnaaDoorProg
import Derived.Lib.Hide
namespace Go.Proofs.YtlmdjkmcplobnaaDoor
open Go.RowKit Go.Maps Go.ChangeMaps Go.MapKept
set_option linter.unusedSimpArgs false
set_option linter.unusedVariables false
/-- Block b is a map that reads as f. -/
def MK (w : World) (P : Program) (k : TypeId) (b : Nat) (f : Value → Option Value) : Prop :=
  ∃ (es : Array MapEntry) (clock : Nat), w.heap[b]? = some (.map es clock) ∧ (∀ e ∈ es.toList, (∃ l, keyOf P k e.key = some l) ∧ f e.key = some e.val) ∧
    (es.toList.Pairwise fun e e' => e.key ≠ e'.key) ∧ ∀ x, (∀ e ∈ es.toList, e.key ≠ x) → f x = none
open Classical in
noncomputable def updK (f : Value → Option Value) (x v : Value) : Value → Option Value := fun y => if y = x then some v else f y
theorem updK_same (f : Value → Option Value) (x v : Value) : updK f x v x = some v := by unfold updK; rw [if_pos rfl]
theorem updK_other {f : Value → Option Value} {x v y : Value} (h : y ≠ x) : updK f x v y = f y := by unfold updK; rw [if_neg h]
section
variable {P : Program} {k e t : TypeId} {w : World} {b : Nat} {f : Value → Option Value}
theorem MK.lt (h : MK w P k b f) : b < w.heap.size := by
  obtain ⟨es, clock, hb, _⟩ := h
  exact (Array.getElem?_eq_some_iff.1 hb).1
theorem MK.block {w' : World} (h : MK w P k b f) (hb : w'.heap[b]? = w.heap[b]?) : MK w' P k b f := by
  obtain ⟨es, clock, hx, r⟩ := h
  exact ⟨es, clock, hb.trans hx, r⟩
theorem MK.kept {w' : World} {row : Option Nat} (h : MK w P k b f) (hg : w.grownBy w' row) (hne : row ≠ some b) : MK w' P k b f := h.block (hg.block b h.lt (fun e => hne e.symm))
theorem MK.below {w' : World} {B : Nat} (h : MK w P k b f) (hb : Below B w w') (hB : b < B) : MK w' P k b f := h.block (hb.block b hB)
theorem MK.alloc (h : MK w P k b f) (o : Obj) : MK (w.alloc o) P k b f := h.kept (World.grownBy_alloc w o none) (by simp)
theorem MK.drew (h : MK w P k b f) : MK w.drew P k b f := h
theorem MK.drewN (h : MK w P k b f) (n : Nat) : MK (w.drewN n) P k b f := h
theorem MK.set (h : MK w P k b f) {p : Addr} (hp : b ≠ p.block) (u : Value) : MK (w.setCell p u) P k b f := h.block (Below.heap_setCell w p u b hp)
theorem MK.made (w : World) (P : Program) (k : TypeId) : MK (w.alloc (.map #[] 0)) P k w.heap.size (fun _ => none) :=
  ⟨#[], 0, (MapKept.heap_alloc w _).1, by simp, by simp, fun _ _ => rfl⟩
theorem MK.row_ne {g : Nat} {T : TypeId} {xs : List Value} (h : MK w P k b f) (hr : Row w g T xs) : b ≠ g := by
  obtain ⟨es, clock, hb, _⟩ := h
  intro e; subst e
  unfold Row at hr; rw [hb] at hr; cases hr
theorem MK.own_ne {base sz n : Nat} {T : TypeId} {v : Value} {xs : List Value} (h : MK w P k b f) (ho : w.ownsRow base T sz v n xs) : v.ownBlock ≠ some b := by
  obtain ⟨es, clock, hb, _⟩ := h
  rcases ho.2 with ⟨rfl, _⟩ | ⟨g, cap, cur, rfl, _, hg, _⟩
  · simp [Value.ownBlock]
  · intro he
    obtain rfl : g = b := by simpa [Value.ownBlock] using he
    rw [hb] at hg; cases hg
theorem MK.congr {f' : Value → Option Value} (h : MK w P k b f) (hf : ∀ x, f' x = f x) : MK w P k b f' := by
  obtain rfl : f' = f := funext hf
  exact h
theorem MK.lookup (h : MK w P k b f) (K : Keyed P k) (ht : P.underlying t = some (.map k e)) {z : Value} (hz : (zeroValue e).run P w = .ok z w) {x : Value} {l : Lit} (hkey : keyOf P k x = some l) :
    (Instr.lookup t (.map (some b)) x true).run P w = .ok (.tuple #[(f x).getD z, .bool (f x).isSome]) w := by
  obtain ⟨es, clock, hb, hes, _, hno⟩ := h
  rcases K.find w hkey es.toList (fun e he => (hes e he).1) with ⟨h1, h2⟩ | ⟨j, e0, h1, h2, h3⟩
  · rw [hno x h2]
    simp [Instr.lookup, run_underlying ht, MapKept.run_getObj_map hb, K.check w _ hkey, h1, hz, Result.andThen]
  · have hm0 : e0 ∈ es.toList := List.mem_of_getElem? h2
    have q3 := (hes e0 hm0).2
    rw [h3] at q3
    rw [q3]
    simp [Instr.lookup, run_underlying ht, MapKept.run_getObj_map hb, K.check w _ hkey, h1, Result.andThen]
theorem MK.update (h : MK w P k b f) (K : Keyed P k) (ht : P.underlying t = some (.map k e)) {x : Value} {l : Lit} (hkey : keyOf P k x = some l) (v : Value) :
    ∃ w', (Instr.mapUpdate t (.map (some b)) x v).run P w = .ok () w' ∧ MK w' P k b (updK f x v) ∧ w.grownBy w' (some b) := by
  obtain ⟨es, clock, hb, hes, hpw, hno⟩ := h
  have hgr : ∀ o, w.grownBy (setBlock w b o) (some b) := fun o => ⟨rfl, rfl, rfl, by simp [setBlock], fun i _ hi => heap_setBlock_other hb _ (fun e => hi (by rw [e]))⟩
  rcases K.find w hkey es.toList (fun e he => (hes e he).1) with ⟨h1, h2⟩ | ⟨j, e0, h1, h2, h3⟩
  · refine ⟨setBlock w b (.map (es.push ⟨x, v, clock⟩) (clock + 1)), ?_, ⟨es.push ⟨x, v, clock⟩, clock + 1, heap_setBlock_same hb _, ?_, ?_, ?_⟩, hgr _⟩
    · simp [Instr.mapUpdate, run_underlying ht, MapKept.run_getObj_map hb, K.check w false hkey, h1, MapKept.run_setObj_map _ hb, Result.andThen, setBlock]
    · intro e he
      simp only [Array.toList_push, List.mem_append, List.mem_singleton] at he
      rcases he with he | rfl
      · exact ⟨(hes e he).1, by rw [updK_other (h2 e he)]; exact (hes e he).2⟩
      · exact ⟨⟨l, hkey⟩, updK_same _ _ _⟩
    · rw [Array.toList_push, List.pairwise_append]
      exact ⟨hpw, by simp, fun p hp q hq => by simp at hq; subst hq; exact h2 p hp⟩
    · intro y hy
      have hyx : y ≠ x := fun q => hy ⟨x, v, clock⟩ (by simp) (by rw [q])
      rw [updK_other hyx]
      exact hno y (fun e he => hy e (by simp [Array.mem_toList_iff] at he ⊢; exact .inl he))
  · obtain ⟨hj, hje⟩ := List.getElem?_eq_some_iff.1 h2
    have hj' : j < es.size := by simpa using hj
    have hje' : es[j] = e0 := by simpa using hje
    refine ⟨setBlock w b (.map (es.modify j fun e => { e with key := x, val := v }) clock), ?_, ⟨es.modify j fun e => { e with key := x, val := v }, clock, heap_setBlock_same hb _, ?_, ?_, ?_⟩, hgr _⟩
    · have hst := K.stays w hkey
      have he : (es[j]?).map (·.key) = some x := by simp [Array.getElem?_eq_getElem hj', hje', h3]
      simp [Instr.mapUpdate, run_underlying ht, MapKept.run_getObj_map hb, K.check w false hkey, h1, MapKept.run_setObj_map _ hb, Result.andThen, setBlock, Array.getElem?_eq_getElem hj', hje', h3, hst]
    · intro e he
      rw [Array.mem_toList_iff, Array.mem_iff_getElem] at he
      obtain ⟨i, hi, rfl⟩ := he
      simp at hi
      rw [Array.getElem_modify]
      by_cases hij : j = i
      · rw [if_pos hij]
        exact ⟨⟨l, hkey⟩, updK_same _ _ _⟩
      · rw [if_neg hij]
        have hm : es[i] ∈ es.toList := by simp
        refine ⟨(hes _ hm).1, ?_⟩
        have hne : (es[i]).key ≠ e0.key := by
          have hp := List.pairwise_iff_getElem.1 hpw
          rcases Nat.lt_or_gt_of_ne hij with hlt | hgt
          · have := hp j i (by simpa using hj') (by simpa using hi) hlt
            simp at this; rw [hje'] at this; exact fun q => this q.symm
          · have := hp i j (by simpa using hi) (by simpa using hj') hgt
            simp at this; rw [hje'] at this; exact this
        rw [updK_other (fun q => hne (by rw [q, h3]))]
        exact (hes _ hm).2
    · rw [List.pairwise_iff_getElem]
      intro i1 i2 hi1 hi2 hlt
      have hi1' : i1 < es.size := by simpa using hi1
      have hi2' : i2 < es.size := by simpa using hi2
      have hkey' : ∀ (i : Nat) (hi : i < es.size), ((es.modify j fun e => { e with key := x, val := v })[i]'(by simpa using hi)).key = (es[i]).key := by
        intro i hi
        rw [Array.getElem_modify]
        split
        · next q => subst q; simp [hje', h3]
        · rfl
      have := List.pairwise_iff_getElem.1 hpw i1 i2 (by simpa using hi1') (by simpa using hi2') hlt
      rw [Array.getElem_toList, Array.getElem_toList] at this ⊢
      rw [hkey' i1 hi1', hkey' i2 hi2']; exact this
    · intro y hy
      have hyx : y ≠ x := fun q => by
        refine hy ((es.modify j fun e => { e with key := x, val := v })[j]'(by simpa using hj')) (Array.mem_toList_iff.2 (Array.getElem_mem _)) ?_
        rw [Array.getElem_modify]; simp [q]
      rw [updK_other hyx]
      refine hno y (fun e he => ?_)
      rw [Array.mem_toList_iff, Array.mem_iff_getElem] at he
      obtain ⟨i, hi, rfl⟩ := he
      have := hy ((es.modify j fun e => { e with key := x, val := v })[i]'(by simpa using hi)) (Array.mem_toList_iff.2 (Array.getElem_mem _))
      rw [Array.getElem_modify] at this
      split at this
      · next q => subst q; rw [hje', h3]; simpa using this
      · exact this
variable {ops : Array Oper} {o : Oper} {a : Act} {Q : Exit → Act → World → Prop} {KK : Act → World → Prop} {E : Prop} {rest : List Oper}
theorem wp_upd (m x v : Operand) (hop : o.op = Op.mapUpdate t m x v) (h : MK w P k b f) (K : Keyed P k) (ht : P.underlying t = some (.map k e)) (hm : a.eval m = .map (some b)) {y : Value} {l : Lit} (hkey : keyOf P k y = some l) (hx : a.eval x = y) (u : Value) (hv : a.eval v = u)
    (hK : ∀ w', MK w' P k b (updK f y u) → w.grownBy w' (some b) → KK (a.put o.dst undef) w') : o.wp P a w KK Q := by
  obtain ⟨w', hrun, r1, r2⟩ := h.update K ht hkey u
  unfold Oper.wp
  simp [execOp, hop, hm, hx, hv, hrun, Result.andThen]
  exact hK w' r1 r2
theorem step_upd (hgd : o.guard = none) (m x v : Operand) (hop : o.op = Op.mapUpdate t m x v) (h : MK w P k b f) (K : Keyed P k) (ht : P.underlying t = some (.map k e)) (hm : a.eval m = .map (some b)) {y : Value} {l : Lit} (hkey : keyOf P k y = some l) (hx : a.eval x = y) (u : Value) (hv : a.eval v = u)
    (hK : ∀ w', MK w' P k b (updK f y u) → w.grownBy w' (some b) → KK (a.put o.dst undef) w') : if Region.wanted o (yielded ops a.tmps) = true then Oper.wp P o a w KK Q else E := by
  rw [if_pos (by simp [Region.wanted, hgd])]
  exact wp_upd m x v hop h K ht hm hkey hx u hv hK
theorem wpList_upd (hgd : o.guard = none) (m x v : Operand) (hop : o.op = Op.mapUpdate t m x v) (h : MK w P k b f) (K : Keyed P k) (ht : P.underlying t = some (.map k e)) (hm : a.eval m = .map (some b)) {y : Value} {l : Lit} (hkey : keyOf P k y = some l) (hx : a.eval x = y) (u : Value) (hv : a.eval v = u)
    (hK : ∀ w', MK w' P k b (updK f y u) → w.grownBy w' (some b) → wpList P ops Q rest (a.put o.dst undef) w') : wpList P ops Q (o :: rest) a w :=
  wpList_plain hgd fun _ hKK => wp_upd m x v hop h K ht hm hkey hx u hv (fun w' r1 r2 => hKK _ _ (hK w' r1 r2))
theorem step_look (hgd : o.guard = none) (m x : Operand) (hop : o.op = Op.lookup t m x true) (h : MK w P k b f) (K : Keyed P k) (ht : P.underlying t = some (.map k e)) {z : Value} (hz : (zeroValue e).run P w = .ok z w) (hm : a.eval m = .map (some b)) {y : Value} {l : Lit} (hkey : keyOf P k y = some l) (hx : a.eval x = y)
    (hK : KK (a.put o.dst (.tuple #[(f y).getD z, .bool (f y).isSome])) w) : if Region.wanted o (yielded ops a.tmps) = true then Oper.wp P o a w KK Q else E := by
  rw [if_pos (by simp [Region.wanted, hgd])]
  have hrun := h.lookup K ht hz hkey
  unfold Oper.wp
  simp [execOp, hop, hm, hx, hrun, Result.andThen]
  exact hK
theorem wpList_look (hgd : o.guard = none) (m x : Operand) (hop : o.op = Op.lookup t m x true) (h : MK w P k b f) (K : Keyed P k) (ht : P.underlying t = some (.map k e)) {z : Value} (hz : (zeroValue e).run P w = .ok z w) (hm : a.eval m = .map (some b)) {y : Value} {l : Lit} (hkey : keyOf P k y = some l) (hx : a.eval x = y)
    (hK : wpList P ops Q rest (a.put o.dst (.tuple #[(f y).getD z, .bool (f y).isSome])) w) : wpList P ops Q (o :: rest) a w :=
  wpList_plain hgd fun _ hKK => by
    have hrun := h.lookup K ht hz hkey
    unfold Oper.wp
    simp [execOp, hop, hm, hx, hrun, Result.andThen]
    exact hKK _ _ hK
end
end Go.Proofs.YtlmdjkmcplobnaaDoor

/-
  The making of a tree in plain terms: sizes and ranges, step by step; the map of the texts.
-/
namespace Go.Proofs.YtlmdjkmcplobnaaDoor
open Go.Lib
set_option linter.unusedSimpArgs false
set_option linter.unusedVariables false
namespace KT
theorem loopB_succ (rec : Int → List Nd → Int × List Nd) : ∀ (m s : Nat) (next : List Int) (ns : List Nd),
    loopB rec (m + 1) s next ns = ((loopB rec m s next ns).1 ++ [(rec ((s + m : Nat) : Int) (loopB rec m s next ns).2).1], (rec ((s + m : Nat) : Int) (loopB rec m s next ns).2).2)
  | 0, s, next, ns => by simp [loopB]
  | m + 1, s, next, ns => by
    rw [loopB, loopB_succ rec m (s + 1), show s + 1 + m = s + (m + 1) by omega]
    rfl
/-- The nodes at all times, as far as their texts go: S: the number of states. -/
structure WOk (S : Nat) (ns : List Nd) : Prop where
  lev : ∀ x ∈ ns, 0 ≤ x.level ∧ x.next.length = S
  nn : ∀ x ∈ ns, ∀ k ∈ x.next, 0 ≤ k
/-- What a build gives. -/
structure BRes (S : Nat) (ns : List Nd) (r : Int × List Nd) (c : Nat) : Prop where
  ok : WOk S r.2
  ge : 0 ≤ r.1
  lt : r.1 < S ∨ r.1 < r.2.length
  len : r.2.length + 1 ≤ ns.length + c
  ext : ∃ e, r.2 = ns ++ e
/-- What the loop has after s rounds. -/
structure LRes (S : Nat) (ns : List Nd) (s : Nat) (q : List Int × List Nd) (c : Nat) : Prop where
  ok : WOk S q.2
  nl : q.1.length = s
  nn : ∀ k ∈ q.1, 0 ≤ k
  len : q.2.length + s ≤ ns.length + s * c
  ext : ∃ e, q.2 = ns ++ e
theorem inS {S : Nat} {ins : List Int} (hi : ∀ s ∈ ins, 0 ≤ s ∧ s < (S : Int)) {s : Nat} (hs : s < S) : ∀ z ∈ ins ++ [(s : Int)], 0 ≤ z ∧ z < (S : Int) := fun z hz => by
  rcases List.mem_append.1 hz with hz | hz
  · exact hi z hz
  · simp at hz; subst hz; omega
section
variable {S H L : Nat} {val : List Int → Int}
theorem loop_res {ins : List Int} {ns : List Nd} (hrec : ∀ (s : Nat) (ns : List Nd), s < S → WOk S ns → BRes S ns (buildK S val L (ins ++ [(s : Int)]) ns) (S ^ L)) (hn : WOk S ns) :
    ∀ s : Nat, s ≤ S → LRes S ns s (loopB (fun s ns => buildK S val L (ins ++ [s]) ns) s 0 [] ns) (S ^ L)
  | 0, _ => ⟨hn, rfl, by simp [loopB], by simp [loopB], ⟨[], by simp [loopB]⟩⟩
  | s + 1, hs => by
    have h := loop_res hrec hn s (by omega)
    rw [loopB_succ, Nat.zero_add]
    have hr := hrec s (loopB (fun s ns => buildK S val L (ins ++ [s]) ns) s 0 [] ns).2 (by omega) h.ok
    obtain ⟨e, he⟩ := hr.ext
    obtain ⟨e0, he0⟩ := h.ext
    refine ⟨hr.ok, by simp [h.nl], fun k hk => ?_, ?_, ⟨e0 ++ e, by rw [he, he0, List.append_assoc]⟩⟩
    · rcases List.mem_append.1 hk with hk | hk
      · exact h.nn k hk
      · simp at hk; subst hk; exact hr.ge
    · have h1 := h.len
      have h2 := hr.len
      have h3 : (s + 1) * S ^ L = s * S ^ L + S ^ L := by rw [Nat.add_mul, Nat.one_mul]
      rw [h3]
      dsimp only at *
      generalize s * S ^ L = u at *
      generalize S ^ L = v at *
      omega
theorem buildK_res (hS : 2 ≤ S) (hval : ∀ ins : List Int, ins.length = H → (∀ s ∈ ins, 0 ≤ s ∧ s < (S : Int)) → 0 ≤ val ins ∧ val ins < S) : ∀ (L : Nat) (ins : List Int) (ns : List Nd), L + ins.length = H → (∀ s ∈ ins, 0 ≤ s ∧ s < (S : Int)) → WOk S ns → BRes S ns (buildK S val L ins ns) (S ^ L)
  | 0, ins, ns, hl, hi, hn => by
    have hv := hval ins (by omega) hi
    exact ⟨hn, hv.1, .inl hv.2, by simp [buildK], ⟨[], by simp [buildK]⟩⟩
  | L + 1, ins, ns, hl, hi, hn => by
    have h := loop_res (S := S) (L := L) (val := val) (ins := ins) (ns := ns) (fun s ns' hs hn' => buildK_res hS hval L (ins ++ [(s : Int)]) ns' (by simp; omega) (inS hi hs) hn') hn S (Nat.le_refl _)
    unfold buildK endB
    generalize loopB (fun s ns => buildK S val L (ins ++ [s]) ns) S 0 [] ns = q at h
    have h1 := h.len
    have h3 : S ^ (L + 1) = S * S ^ L := by rw [Nat.pow_succ, Nat.mul_comm]
    obtain ⟨e0, he0⟩ := h.ext
    cases hf : findNd q.2 ((L : Int) + 1) q.1 with
    | some i =>
      have hi : i < q.2.length := (List.findIdx?_eq_some_iff_getElem.1 hf).1
      simp only [hf]
      exact ⟨h.ok, by simp, .inr (by simpa using hi), by rw [h3]; dsimp only; generalize S * S ^ L = v at *; omega, h.ext⟩
    | none =>
      simp only [hf]
      refine ⟨⟨fun x hx => ?_, fun x hx k hk => ?_⟩, by simp, .inr (by dsimp only; rw [List.length_append]; simp; omega), by rw [h3]; dsimp only; rw [List.length_append, List.length_singleton]; generalize S * S ^ L = v at *; omega, ⟨e0 ++ [⟨(L : Int) + 1, q.1⟩], by rw [he0, List.append_assoc]⟩⟩
      · rcases List.mem_append.1 hx with hx | hx
        · exact h.ok.lev x hx
        · simp at hx; subst hx; exact ⟨by dsimp only; omega, h.nl⟩
      · rcases List.mem_append.1 hx with hx | hx
        · exact h.ok.nn x hx k hk
        · simp at hx; subst hx; exact h.nn k hk
end
/-- The map of the texts: from a node's text to its number. -/
def mkS (l : List UInt8) : ByteArray := ⟨l.toArray⟩
theorem mkS_inj {a b : List UInt8} (h : mkS a = mkS b) : a = b := by
  have := congrArg (fun s : ByteArray => s.data.toList) h
  simpa [mkS] using this
def keyV (lev : Int) (next : List Int) : Value := .string (mkS (keyS lev next))
open Classical in
noncomputable def idsF (ns : List Nd) (v : Value) : Option Value := (ns.findIdx? (fun x => decide (v = keyV x.level x.next))).map (fun (i : Nat) => Value.int .i64 (i : Int))
theorem idsF_nil (v : Value) : idsF [] v = none := rfl
theorem keyV_inj {a b : Int} {l m : List Int} (ha : 0 ≤ a) (hb : 0 ≤ b) (hl : ∀ k ∈ l, 0 ≤ k) (hm : ∀ k ∈ m, 0 ≤ k) (h : keyV a l = keyV b m) : a = b ∧ l = m := by
  unfold keyV at h
  injection h with h
  exact keyS_inj ha hb hl hm (mkS_inj h)
theorem findIdx_congr {α : Type} {p q : α → Bool} : ∀ (l : List α), (∀ x ∈ l, p x = q x) → l.findIdx? p = l.findIdx? q
  | [], _ => rfl
  | a :: l, h => by
    rw [List.findIdx?_cons, List.findIdx?_cons, h a (by simp), findIdx_congr l (fun x hx => h x (by simp [hx]))]
open Classical in
theorem idsF_key {S : Nat} {ns : List Nd} (h : WOk S ns) {lev : Int} {next : List Int} (hl : 0 ≤ lev) (hn : ∀ k ∈ next, 0 ≤ k) : idsF ns (keyV lev next) = (findNd ns lev next).map (fun (i : Nat) => Value.int .i64 (i : Int)) := by
  unfold idsF findNd
  congr 1
  refine findIdx_congr ns fun x hx => ?_
  by_cases e : x.level = lev ∧ x.next = next
  · obtain ⟨e1, e2⟩ := e
    rw [e1, e2]
    simp
  · have hne : ¬ keyV lev next = keyV x.level x.next := fun e2 => by
      obtain ⟨q1, q2⟩ := keyV_inj hl (h.lev x hx).1 hn (h.nn x hx) e2
      exact e ⟨q1.symm, q2.symm⟩
    have h2 : (x.level == lev && x.next == next) = false := by
      cases h3 : (x.level == lev && x.next == next) with
      | false => rfl
      | true => simp at h3; exact absurd h3 e
    rw [h2]
    exact decide_eq_false hne
open Classical in
theorem idsF_push {ns : List Nd} {lev : Int} {next : List Int} (h : idsF ns (keyV lev next) = none) (v : Value) : idsF (ns ++ [⟨lev, next⟩]) v = updK (idsF ns) (keyV lev next) (.int .i64 (ns.length : Int)) v := by
  unfold idsF at h ⊢
  rw [Option.map_eq_none_iff] at h
  rw [List.findIdx?_append]
  by_cases e : v = keyV lev next
  · subst e
    rw [h, updK_same]
    simp
  · rw [updK_other e]
    have : List.findIdx? (fun x : Nd => decide (v = keyV x.level x.next)) [⟨lev, next⟩] = none := by
      rw [List.findIdx?_cons]
      simp [e]
    rw [this]
    simp [idsF]
end KT
end Go.Proofs.YtlmdjkmcplobnaaDoor

/-
  The new states of a valid table are states, in plain terms.
-/
namespace Go.Proofs.YtlmdjkmcplobnaaDoor
set_option linter.unusedSimpArgs false
set_option linter.unusedVariables false
namespace KT
section
variable {t : Tab} {b : List Int} {e s : Int} {r : Rw} {ins : List Int}
/-- A binding as it may be. -/
structure BOk (t : Tab) (b : List Int) : Prop where
  len : b.length = 40
  val : ∀ v : Nat, v < 40 → b.getD v 0 = -1 ∨ (0 ≤ b.getD v 0 ∧ b.getD v 0 < t.states)
theorem noneB_ok (t : Tab) : BOk t noneB := ⟨by simp [noneB], fun v hv => .inl (by simp only [noneB, List.getD_eq_getElem?_getD, List.getElem?_replicate]; rw [if_pos hv]; rfl)⟩
theorem elem_lt (he : elemOk t e = true) (hneg : e < 0) : vix e < t.vars.length := by
  have := of_decide_eq_true he
  unfold vix; omega
theorem getD_setI (l : List Int) (i j : Nat) (z : Int) (hi : i < l.length) : (l.set i z).getD j 0 = if i = j then z else l.getD j 0 := by
  simp only [List.getD_eq_getElem?_getD, List.getElem?_set]
  split
  · rename_i h; subst h; simp [hi]
  · rfl
structure AOut (t : Tab) (b : List Int) (e s : Int) (a : List Int × Bool × Bool) : Prop where
  ok : BOk t a.1
  mono : ∀ v, 0 ≤ b.getD v 0 → a.1.getD v 0 = b.getD v 0
  fit : a.2.1 = true → e < 0 → 0 ≤ a.1.getD (vix e) 0
  fresh : a.2.2 = true → a.2.1 = true ∧ e < 0 ∧ b.getD (vix e) 0 = -1 ∧ a.1 = b.set (vix e) s ∧ (t.vars.getD (vix e) []).contains s = true
  same : a.2.2 = false → a.1 = b
theorem accept_out (hb : BOk t b) (he : elemOk t e = true) (hv : t.vars.length ≤ 40) (hs : 0 ≤ s ∧ s < t.states) : AOut t b e s (acceptK t b e s) := by
  unfold acceptK
  by_cases h0 : 0 ≤ e
  · rw [if_pos h0]
    exact ⟨hb, fun _ _ => rfl, fun _ q => by omega, fun q => by simp at q, fun _ => rfl⟩
  · rw [if_neg h0]
    have hlt := elem_lt he (by omega)
    have hv40 : vix e < 40 := by omega
    by_cases h1 : 0 ≤ b.getD (vix e) 0
    · rw [if_pos h1]
      exact ⟨hb, fun _ _ => rfl, fun _ _ => h1, fun q => by simp at q, fun _ => rfl⟩
    · rw [if_neg h1]
      have hm1 : b.getD (vix e) 0 = -1 := (hb.val _ hv40).resolve_right (fun q => h1 q.1)
      by_cases h2 : (t.vars.getD (vix e) []).contains s = true
      · rw [if_pos h2]
        have hl : vix e < b.length := by rw [hb.len]; exact hv40
        refine ⟨⟨by rw [List.length_set]; exact hb.len, fun v hv' => ?_⟩, fun v hv' => ?_, fun _ _ => ?_, fun _ => ⟨rfl, by omega, hm1, rfl, h2⟩, fun q => by simp at q⟩
        · dsimp only
          rw [getD_setI _ _ _ _ hl]
          split
          · exact .inr hs
          · exact hb.val v hv'
        · dsimp only
          rw [getD_setI _ _ _ _ hl]
          split
          · rename_i q; subst q; omega
          · rfl
        · dsimp only
          rw [getD_setI _ _ _ _ hl, if_pos rfl]; exact hs.1
      · rw [if_neg h2]
        exact ⟨hb, fun _ _ => rfl, fun q => by simp at q, fun q => by simp at q, fun _ => rfl⟩
theorem rowOk_parts (h : rowOk t r = true) : r.ins.length = t.hood.length ∧ elemOk t r.out = true ∧ (0 ≤ r.out ∨ r.out ∈ r.ins) ∧ ∀ e ∈ r.ins, elemOk t e = true := by
  unfold rowOk at h
  simp only [Bool.and_eq_true, Bool.or_eq_true, decide_eq_true_eq, List.all_eq_true] at h
  exact ⟨h.1, h.2.1, by simpa using h.2.2.1, h.2.2.2⟩
def inR (t : Tab) (s : Int) : Prop := 0 ≤ s ∧ s < t.states
theorem out_in (hb : BOk t b) (hr : rowOk t r = true) (hv : t.vars.length ≤ 40) (hall : ∀ e ∈ r.ins, e < 0 → 0 ≤ b.getD (vix e) 0) : inR t (outK b r) := by
  obtain ⟨_, h1, h2, _⟩ := rowOk_parts hr
  unfold outK
  split
  · rename_i h0; exact ⟨h0, (of_decide_eq_true h1).1⟩
  · rename_i h0
    have hm := h2.resolve_left h0
    have hlt := elem_lt h1 (by omega)
    have := hall _ hm (by omega)
    exact (hb.val (vix r.out) (by omega)).resolve_left (by omega)
theorem go_out (hv : t.vars.length ≤ 40) (hins : ∀ i, 0 ≤ ins.getD i 0 ∧ ins.getD i 0 < t.states) : ∀ (es : List Int) (i : Nat) (b b' : List Int), BOk t b → (∀ e ∈ es, elemOk t e = true) → plainGo t ins es i b = some b' → BOk t b' ∧ (∀ v, 0 ≤ b.getD v 0 → b'.getD v 0 = b.getD v 0) ∧ ∀ e ∈ es, e < 0 → 0 ≤ b'.getD (vix e) 0
  | [], i, b, b', hb, _, h => by
    simp only [plainGo, Option.some.injEq] at h
    subst h
    exact ⟨hb, fun _ _ => rfl, fun e he => by simp at he⟩
  | e :: es, i, b, b', hb, he, h => by
    unfold plainGo at h
    have ha := accept_out (s := ins.getD i 0) hb (he e (by simp)) hv (hins i)
    by_cases hf : (acceptK t b e (ins.getD i 0)).2.1 = true
    · rw [if_pos hf] at h
      obtain ⟨q1, q2, q3⟩ := go_out hv hins es (i + 1) _ b' ha.ok (fun x hx => he x (by simp [hx])) h
      refine ⟨q1, fun v hv' => by rw [q2 v (by rw [ha.mono v hv']; exact hv'), ha.mono v hv'], fun x hx hx0 => ?_⟩
      rcases List.mem_cons.1 hx with rfl | hx
      · have := ha.fit hf hx0
        rw [q2 _ this]; exact this
      · exact q3 x hx hx0
    · rw [if_neg hf] at h; cases h
theorem plain_in (hr : rowOk t r = true) (hv : t.vars.length ≤ 40) (hins : ∀ i, 0 ≤ ins.getD i 0 ∧ ins.getD i 0 < t.states) (h : plainK t r ins = some s) : inR t s := by
  unfold plainK at h
  obtain ⟨b', hb', rfl⟩ := Option.map_eq_some_iff.1 h
  obtain ⟨_, _, _, he⟩ := rowOk_parts hr
  obtain ⟨q1, _, q3⟩ := go_out hv hins _ _ _ _ (noneB_ok t) he hb'
  exact out_in q1 hr hv q3
theorem least_in {acc : Option Int} {n : Int} (ha : ∀ m, acc = some m → inR t m) (hn : inR t n) : ∀ m, least acc n = some m → inR t m := fun m hm => by
  unfold least at hm
  split at hm
  · cases hm; exact hn
  · rename_i k
    cases hm
    split
    · exact hn
    · exact ha _ rfl
theorem place_in {c : Int} (hr : rowOk t r = true) (hv : t.vars.length ≤ 40) (hl : ins.length = r.ins.length) (hins : ∀ i, 0 ≤ ins.getD i 0 ∧ ins.getD i 0 < t.states) : ∀ (f i : Nat) (b : List Int) (used : List Bool) (acc : Option Int), BOk t b → (∀ j, j < r.ins.length → (j < i ∨ (j : Int) = c) → r.ins.getD j 0 < 0 → 0 ≤ b.getD (vix (r.ins.getD j 0)) 0) → (∀ m, acc = some m → inR t m) → i ≤ ins.length → ∀ m, placeK t r ins c f i b used acc = some m → inR t m
  | 0, i, b, used, acc, _, _, ha, _, m, hm => ha m (by simpa [placeK] using hm)
  | f + 1, i, b, used, acc, hb, hd, ha, hi, m, hm => by
    obtain ⟨_, _, _, he⟩ := rowOk_parts hr
    unfold placeK at hm
    by_cases h1 : i = ins.length
    · rw [if_pos h1] at hm
      refine least_in ha (out_in hb hr hv fun e hem h0 => ?_) m hm
      obtain ⟨j, hj, rfl⟩ := List.getElem_of_mem hem
      have := hd j hj (.inl (by omega))
      rw [List.getD_eq_getElem?_getD, List.getElem?_eq_getElem hj, Option.getD_some] at this
      exact this h0
    · rw [if_neg h1] at hm
      by_cases h2 : (i : Int) = c
      · rw [if_pos h2] at hm
        exact place_in hr hv hl hins f (i + 1) b used acc hb (fun j hj q => hd j hj (by omega)) ha (by omega) m hm
      · rw [if_neg h2] at hm
        have hei : elemOk t (r.ins.getD i 0) = true := by
          rw [List.getD_eq_getElem?_getD, List.getElem?_eq_getElem (by omega), Option.getD_some]
          exact he _ (List.getElem_mem _)
        have key : ∀ (l : List Nat) (q : Int × Option Int), (∀ m, q.2 = some m → inR t m) → ∀ m, (l.foldl (fun (q : Int × Option Int) (k : Nat) =>
            if (k : Int) = c ∨ used.getD k false = true ∨ hasBit q.1 (ins.getD k 0) = true then q
            else (putBit q.1 (ins.getD k 0), if (acceptK t b (r.ins.getD i 0) (ins.getD k 0)).2.1 = true then placeK t r ins c f (i + 1) (acceptK t b (r.ins.getD i 0) (ins.getD k 0)).1 (used.set k true) q.2 else q.2)) q).2 = some m → inR t m := by
          intro l
          induction l with
          | nil => intro q hq m hm; exact hq m hm
          | cons k l ih =>
            intro q hq m hm
            rw [List.foldl_cons] at hm
            refine ih _ ?_ m hm
            intro m' hm'
            split at hm'
            · exact hq m' hm'
            · dsimp only at hm'
              split at hm'
              · rename_i hf
                have hao := accept_out (s := ins.getD k 0) hb hei hv (hins k)
                refine place_in hr hv hl hins f (i + 1) _ _ _ hao.ok (fun j hj q' h0 => ?_) hq (by omega) m' hm'
                by_cases e : j = i
                · subst e; exact hao.fit hf h0
                · have := hd j hj (q'.imp (by omega) id) h0
                  rw [hao.mono _ this]; exact this
              · exact hq m' hm'
        exact key _ (0, acc) ha m hm
theorem centre_lt {l : List Pt} (hc : 0 ≤ centreK l) : (centreK l).toNat < l.length := by
  unfold centreK at hc ⊢
  by_cases h1 : hoodOk l = true
  · rw [if_pos h1] at hc ⊢
    cases h2 : idxPt l ⟨0, 0⟩ with
    | none => rw [h2] at hc; simp at hc
    | some i =>
      have := (List.findIdx?_eq_some_iff_getElem.1 h2).1
      simpa using this
  · rw [if_neg h1] at hc; omega
theorem perm_in (hr : rowOk t r = true) (hv : t.vars.length ≤ 40) (hl : ins.length = t.hood.length) (hins : ∀ i, 0 ≤ ins.getD i 0 ∧ ins.getD i 0 < t.states) (h : permK t r ins = some s) : inR t s := by
  obtain ⟨hrl, _, _, he⟩ := rowOk_parts hr
  unfold permK at h
  by_cases hc : 0 ≤ centreK t.hood
  · rw [if_pos hc] at h
    have hcl : (centreK t.hood).toNat < r.ins.length := by rw [hrl]; exact centre_lt hc
    have hec : elemOk t (r.ins.getD (centreK t.hood).toNat 0) = true := by
      rw [List.getD_eq_getElem?_getD, List.getElem?_eq_getElem hcl, Option.getD_some]
      exact he _ (List.getElem_mem _)
    have hao := accept_out (s := ins.getD (centreK t.hood).toNat 0) (noneB_ok t) hec hv (hins _)
    by_cases hf : (acceptK t noneB (r.ins.getD (centreK t.hood).toNat 0) (ins.getD (centreK t.hood).toNat 0)).2.1 = true
    · rw [if_pos hf] at h
      exact place_in hr hv (by omega) hins _ _ _ _ _ hao.ok (fun j hj q h0 => by
        have hjc : j = (centreK t.hood).toNat := by rcases q with q | q <;> omega
        subst hjc; exact hao.fit hf h0) (fun m hm => by cases hm) (Nat.zero_le _) s h
    · rw [if_neg hf] at h; cases h
  · rw [if_neg hc] at h
    exact place_in hr hv (by omega) hins _ _ _ _ _ (noneB_ok t) (fun j hj q h0 => by rcases q with q | q <;> omega) (fun m hm => by cases hm) (Nat.zero_le _) s h
theorem decide_in (hr : rowOk t r = true) (hv : t.vars.length ≤ 40) (h2 : 2 ≤ t.states) (hl : ins.length = t.hood.length) (hins : ∀ i, 0 ≤ ins.getD i 0 ∧ ins.getD i 0 < t.states) (h : decideK t r ins = some s) : inR t s := by
  unfold decideK at h
  by_cases h3 : t.sym = 3
  · rw [if_pos h3] at h; exact perm_in hr hv hl hins h
  · rw [if_neg h3] at h
    have hturn : ∀ k i, 0 ≤ (turnK t k ins).getD i 0 ∧ (turnK t k ins).getD i 0 < t.states := fun k i => by
      unfold turnK
      rw [List.getD_eq_getElem?_getD, List.getElem?_map]
      cases t.hood[i]? with
      | none => simp; omega
      | some q => exact hins _
    have key : ∀ (l : List Nat) (acc : Option Int), (∀ m, acc = some m → inR t m) → ∀ m, l.foldl (fun (acc : Option Int) (k : Nat) => match plainK t r (turnK t k ins) with | some s => least acc s | none => acc) acc = some m → inR t m := by
      intro l
      induction l with
      | nil => intro acc ha m hm; exact ha m hm
      | cons k l ih =>
        intro acc ha m hm
        rw [List.foldl_cons] at hm
        refine ih _ ?_ m hm
        intro m' hm'
        split at hm'
        · rename_i s' hs'
          exact least_in ha (plain_in hr hv (hturn k) hs') m' hm'
        · exact ha m' hm'
    exact key _ none (fun m hm => by cases hm) s h
theorem stOk_all (hs : ins.all (stOk t) = true) (h2 : 2 ≤ t.states) (i : Nat) : 0 ≤ ins.getD i 0 ∧ ins.getD i 0 < t.states := by
  rw [List.getD_eq_getElem?_getD]
  cases hi : ins[i]? with
  | none => simp; omega
  | some s =>
    rw [List.all_eq_true] at hs
    exact of_decide_eq_true (hs s (List.mem_of_getElem? hi))
theorem value_in (hr : rightK t = true) (hl : ins.length = t.hood.length) (hs : ins.all (stOk t) = true) : inR t (valueK t ins) := by
  unfold rightK headK at hr
  simp only [Bool.and_eq_true, decide_eq_true_eq, List.all_eq_true] at hr
  obtain ⟨⟨⟨h2, _⟩, _, _, hv, _⟩, _, hrows⟩ := hr
  have hins := stOk_all hs h2
  have key : ∀ (l : List Rw), (∀ r ∈ l, rowOk t r = true) → ∀ m, rowsK t ins l = some m → inR t m := by
    intro l
    induction l with
    | nil => intro _ m hm; cases hm
    | cons r l ih =>
      intro hl' m hm
      unfold rowsK at hm
      split at hm
      · rename_i s' hs'
        cases hm
        exact decide_in (hl' r (by simp)) hv h2 hl hins hs'
      · exact ih (fun r' hr' => hl' r' (by simp [hr'])) m hm
  unfold valueK
  split
  · rename_i s' hs'; exact key _ hrows _ hs'
  · split
    · exact hins _
    · exact ⟨by omega, by omega⟩
end
end KT
end Go.Proofs.YtlmdjkmcplobnaaDoor

/-
  slices.IndexFunc and slices.ContainsFunc at integers, for whatever predicate.
-/
namespace Go.Proofs.YtlmdjkmcplobnaaDoor
open Go.RowKit
set_option linter.unusedSimpArgs false
set_option linter.unusedVariables false

/-- What is asked of a predicate at integers that lies in world w. -/
def PredInts (P : Program) (g : Nat) (lb : Array Value) (p : Int → Bool) (zs : List Int) (w : World) : Prop :=
  ∀ (W : World) (x : Int), x ∈ zs → Below w.heap.size w W → Calls P g (#[.int .i64 x] ++ lb) W fun e w' => e = .returned (.bool (p x)) ∧ Below w.heap.size w w'

/-- The first place at which p holds; -1. -/
def findI (p : Int → Bool) (zs : List Int) : Int := match zs.findIdx? p with | some i => i | none => -1

theorem findI_hit (p : Int → Bool) (zs : List Int) (k : Nat) (hk : k < zs.length) (hp : p (zs.getD k 0) = true) (hno : ∀ j, j < k → p (zs.getD j 0) = false) : findI p zs = k := by
  have hg : zs.getD k 0 = zs[k] := by simp [List.getD_eq_getElem?_getD, List.getElem?_eq_getElem hk]
  have : zs.findIdx? p = some k := by
    rw [List.findIdx?_eq_some_iff_getElem]
    refine ⟨hk, by rw [← hg]; exact hp, fun j hj => ?_⟩
    have := hno j hj
    simp [List.getD_eq_getElem?_getD, List.getElem?_eq_getElem (show j < zs.length by omega)] at this
    simp [this]
  simp [findI, this]
theorem findI_miss (p : Int → Bool) (zs : List Int) (hno : ∀ j, j < zs.length → p (zs.getD j 0) = false) : findI p zs = -1 := by
  have : zs.findIdx? p = none := by
    rw [List.findIdx?_eq_none_iff]
    intro x hx
    obtain ⟨j, hj, rfl⟩ := List.getElem_of_mem hx
    have := hno j hj
    simpa [List.getD_eq_getElem?_getD, List.getElem?_eq_getElem hj] using this
  simp [findI, this]
theorem findI_nonneg (p : Int → Bool) (zs : List Int) : decide (0 ≤ findI p zs) = zs.any p := by
  unfold findI
  cases h : zs.findIdx? p with
  | none => rw [List.findIdx?_eq_none_iff] at h; simp; intro x hx; simpa using h x hx
  | some i => 
    rw [List.findIdx?_eq_some_iff_getElem] at h
    obtain ⟨hi, hp, _⟩ := h
    simp
    exact ⟨_, List.getElem_mem hi, hp⟩

set_option maxHeartbeats 400000 in
theorem indexFunc_ints (A : Option Addr) (n c : Nat) (zs : List Int) (g : Nat) (lb : Array Value) (p : Int → Bool) (w : World)
    (eg : ∀ args w, (callFunc g args).run Tryd.prog w = .ok (.enter g args) w)
    (hr : Rd w w.heap.size 1 A n (ints zs)) (hbig : n ≤ 9223372036854775807) (hp : PredInts Tryd.prog g lb p zs w) :
    Calls Tryd.prog 35 #[.slice A n c, .func (.func g) #[] lb] w fun e w' => e = .returned (.int .i64 (findI p zs)) ∧ Below w.heap.size w w' := by
  have hl : zs.length = n := by have := hr.1; simpa using this
  have HL : Hid (zs.length = n) := hl
  have HR : Hid (Rd w w.heap.size 1 A n (ints zs)) := hr
  have HP : Hid (PredInts Tryd.prog g lb p zs w) := hp
  clear hl hr hp
  go_enter Tryd.func35, Tryd.ntmps35
  go_wp2
  go_loopg [5, 8] n (fun gg _ s8 wr => ∃ kk : Nat, kk ≤ n ∧ n - kk ≤ gg ∧ s8 = .int .i64 kk ∧ Aside (Below w.heap.size w wr) ∧ Aside (∀ j, j < kk → p (zs.getD j 0) = false))
  case atStart => exact ⟨0, Nat.zero_le _, by omega, rfl, Below.refl _ w, fun j hj => absurd hj (Nat.not_lt_zero _)⟩
  case round =>
    obtain ⟨kk, hkk, hg, rfl, BW, AA⟩ := hrel
    by_cases hlt : kk < n
    · have hltz : (kk : Int) < (n : Int) := by omega
      obtain ⟨ad, rfl, hb, hcell0⟩ := HR.out.int hlt
      have hcell : wr.cell? (ad.add kk) = some (.int .i64 (zs.getD kk 0)) := (BW.out.cell (by rw [add_block]; exact hb)).trans hcell0
      clear hcell0
      have hcall := HP.out wr (zs.getD kk 0) (by rw [List.getD_eq_getElem?_getD, List.getElem?_eq_getElem (by rw [HL.out]; exact hlt)]; exact List.getElem_mem _) BW.out
      generalize hy : zs.getD kk 0 = y at hcell hcall
      have HY : Aside (zs.getD kk 0 = y) := hy
      clear hy
      cases hq : p y with
      | true =>
        rw [hq] at hcall
        go_wp2_with fail
        refine hcall.mono ?_
        rintro e w' ⟨rfl, hb'⟩
        go_wp2
        go_ret
        refine ⟨?_, hb'⟩
        rw [findI_hit p zs kk (by rw [HL.out]; exact hlt) (by rw [HY.out]; exact hq) AA.out]
        rfl
      | false =>
        rw [hq] at hcall
        go_wp2_with fail
        refine hcall.mono ?_
        rintro e w' ⟨rfl, hb'⟩
        go_wp2
        go_roundg (n - (kk + 1))
        case measure => omega
        case rel =>
          refine ⟨kk + 1, by omega, by omega, by go_num, hb', (show Aside _ from fun j hj => ?_)⟩
          by_cases e : j = kk
          · subst e
            rw [HY.out]; exact hq
          · exact AA.out j (by omega)
    · have hltz : ¬ (kk : Int) < (n : Int) := by omega
      have : kk = n := by omega
      subst this
      go_wp2
      go_ret
      refine ⟨?_, BW.out⟩
      rw [findI_miss p zs (fun j hj => AA.out j (by rw [HL.out] at hj; exact hj))]
      rfl

theorem containsFunc_ints (A : Option Addr) (n c : Nat) (zs : List Int) (g : Nat) (lb : Array Value) (p : Int → Bool) (w : World)
    (eg : ∀ args w, (callFunc g args).run Tryd.prog w = .ok (.enter g args) w)
    (hr : Rd w w.heap.size 1 A n (ints zs)) (hbig : n ≤ 9223372036854775807) (hp : PredInts Tryd.prog g lb p zs w) :
    Calls Tryd.prog 16 #[.slice A n c, .func (.func g) #[] lb] w fun e w' => e = .returned (.bool (zs.any p)) ∧ Below w.heap.size w w' := by
  rw [← findI_nonneg]
  go_enter Tryd.func16, Tryd.ntmps16
  go_wp2_with (go_at_call 35; refine (indexFunc_ints A n c zs g lb p _ eg hr hbig hp).mono ?_; rintro e w' ⟨rfl, hb'⟩)
  go_ret
  exact ⟨rfl, hb'⟩
end Go.Proofs.YtlmdjkmcplobnaaDoor

/-
  slices.Index and slices.Contains at slices of ints.
-/
namespace Go.Proofs.YtlmdjkmcplobnaaDoor
open Go.RowKit
set_option linter.unusedSimpArgs false
set_option linter.unusedVariables false
set_option maxHeartbeats 400000 in
theorem index_ints (A : Option Addr) (n c : Nat) (zs : List Int) (x : Int) (w : World) (hr : Rd w w.heap.size 1 A n (ints zs)) (hbig : n ≤ 9223372036854775807) :
    Calls Tryd.prog 40 #[.slice A n c, .int .i64 x] w fun e w' => e = .returned (.int .i64 (findI (fun y => x == y) zs)) ∧ w' = w := by
  have hl : zs.length = n := by have := hr.1; simpa using this
  have HL : Hid (zs.length = n) := hl
  have HR : Hid (Rd w w.heap.size 1 A n (ints zs)) := hr
  clear hl hr
  go_enter Tryd.func40, Tryd.ntmps40
  go_wp2
  go_loopg [5, 8] n (fun gg _ s8 wr => ∃ kk : Nat, kk ≤ n ∧ n - kk ≤ gg ∧ s8 = .int .i64 kk ∧ w = wr ∧ Aside (∀ j, j < kk → (x == zs.getD j 0) = false))
  case atStart => exact ⟨0, Nat.zero_le _, by omega, rfl, rfl, fun j hj => absurd hj (Nat.not_lt_zero _)⟩
  case round =>
    obtain ⟨kk, hkk, hg, rfl, rfl, AA⟩ := hrel
    by_cases hlt : kk < n
    · have hltz : (kk : Int) < (n : Int) := by omega
      obtain ⟨ad, rfl, hb, hcell⟩ := HR.out.int hlt
      generalize hy : zs.getD kk 0 = y at hcell
      have HY : Aside (zs.getD kk 0 = y) := hy
      clear hy
      cases hq : (x == y) with
      | true =>
        have HQ : Hid (∀ _ : Unit, (x == y) = true) := fun _ => hq
        have hd : decide (x = y) = true := by simpa using hq
        go_wp2
        go_ret
        refine ⟨?_, rfl⟩
        rw [findI_hit _ zs kk (by rw [HL.out]; exact hlt) (by simp only [HY.out]; exact HQ.out ()) AA.out]
        rfl
      | false =>
        have HQ : Hid (∀ _ : Unit, (x == y) = false) := fun _ => hq
        have hd : decide (x = y) = false := by simpa using hq
        go_wp2
        go_roundg (n - (kk + 1))
        case measure => omega
        case rel =>
          refine ⟨kk + 1, by omega, by omega, by go_num, rfl, (show Aside _ from fun j hj => ?_)⟩
          by_cases e : j = kk
          · subst e
            rw [HY.out]; exact HQ.out ()
          · exact AA.out j (by omega)
    · have hltz : ¬ (kk : Int) < (n : Int) := by omega
      have : kk = n := by omega
      subst this
      go_wp2
      go_ret
      refine ⟨?_, rfl⟩
      rw [findI_miss _ zs (fun j hj => AA.out j (by rw [HL.out] at hj; exact hj))]
      rfl
set_option maxHeartbeats 400000 in
theorem contains_ints (A : Option Addr) (n c : Nat) (zs : List Int) (x : Int) (w : World) (hr : Rd w w.heap.size 1 A n (ints zs)) (hbig : n ≤ 9223372036854775807) :
    Calls Tryd.prog 27 #[.slice A n c, .int .i64 x] w fun e w' => e = .returned (.bool (zs.contains x)) ∧ w' = w := by
  have HC := Lib.hid (index_ints A n c zs x w hr hbig)
  have HE : Hid (decide (0 ≤ findI (fun y => x == y) zs) = zs.contains x) := by
    show _ = _
    rw [findI_nonneg, List.contains_eq_any_beq]
  clear hr
  revert HC HE
  generalize findI (fun y => x == y) zs = v
  intro HC HE
  go_enter Tryd.func27, Tryd.ntmps27
  go_wp2_with fail
  refine HC.out.mono ?_
  rintro e w' ⟨rfl, rfl⟩
  go_wp2
  go_ret
  rw [← HE.out]
  exact ⟨rfl, rfl⟩
end Go.Proofs.YtlmdjkmcplobnaaDoor

/-
  Bindings of a row's variables: none, accept, out, plain.
-/
namespace Go.Proofs.YtlmdjkmcplobnaaDoor
open Go.RowKit
set_option linter.unusedSimpArgs false
set_option linter.unusedVariables false
/-- Every old block but those of S stands as it stood. -/
structure Kept (S : Nat → Prop) (w w' : World) : Prop where
  os : w'.os = w.os
  tape : w'.tape = w.tape
  output : w'.output = w.output
  size : w.heap.size ≤ w'.heap.size
  block : ∀ k, k < w.heap.size → ¬ S k → w'.heap[k]? = w.heap[k]?
section
variable {S S' : Nat → Prop} {a b c w w' : World}
theorem Kept.refl (S : Nat → Prop) (w : World) : Kept S w w := ⟨rfl, rfl, rfl, Nat.le_refl _, fun _ _ _ => rfl⟩
theorem Kept.trans (h : Kept S a b) (k : Kept S' b c) (hS : ∀ k, k < a.heap.size → S' k → S k) : Kept S a c :=
  ⟨k.os.trans h.os, k.tape.trans h.tape, k.output.trans h.output, Nat.le_trans h.size k.size, fun i hi hr => (k.block i (Nat.lt_of_lt_of_le hi h.size) (fun e => hr (hS i hi e))).trans (h.block i hi hr)⟩
theorem Kept.ofBelow (h : Below w.heap.size w w') : Kept S w w' := ⟨h.os, h.tape, h.output, h.size, fun k hk _ => h.block k hk⟩
theorem Kept.wide (h : Kept S w w') (hS : ∀ k, S k → S' k) : Kept S' w w' := ⟨h.os, h.tape, h.output, h.size, fun k hk hs => h.block k hk (fun e => hs (hS k e))⟩
theorem Kept.set (h : Kept S a w) {p : Addr} (hp : S p.block ∨ a.heap.size ≤ p.block) (u : Value) : Kept S a (w.setCell p u) :=
  ⟨h.os, h.tape, h.output, by rw [World.size_setCell]; exact h.size, fun k hk hs => (Below.heap_setCell w p u k (fun e => by
    subst e
    rcases hp with hp | hp
    · exact hs hp
    · omega)).trans (h.block k hk hs)⟩
theorem Kept.alloc (h : Kept S a w) (o : Obj) : Kept S a (w.alloc o) := h.trans (Kept.ofBelow (S := S) ((Below.refl _ _).alloc (Nat.le_refl _) o)) (fun _ _ h => h)
theorem Kept.row {g : Nat} {T : TypeId} {xs : List Value} (h : Kept S w w') (hr : Row w g T xs) (hg : ¬ S g) : Row w' g T xs := (h.block g hr.lt hg).trans hr
theorem Kept.cell (h : Kept S w w') {p : Addr} (hp : p.block < w.heap.size) (hs : ¬ S p.block) : w'.cell? p = w.cell? p := World.cell?_of_block (w := w) (h.block p.block hp hs)
theorem Kept.below (h : Kept S w w') {B : Nat} (hS : ∀ k, S k → B ≤ k) (hB : B ≤ w.heap.size) : Below B w w' :=
  ⟨h.os, h.tape, h.output, h.size, fun k hk => h.block k (Nat.lt_of_lt_of_le hk hB) (fun e => Nat.lt_irrefl _ (Nat.lt_of_lt_of_le hk (hS k e)))⟩
end
/-- A binding in memory: forty cells. -/
def BAt (w : World) (g : Nat) (b : List Int) : Prop := Row w g 97 (ints b)
section
variable {w w' : World} {g : Nat} {b : List Int}
theorem BAt.cell (h : BAt w g b) {i : Nat} (hi : i < b.length) : w.cell? ⟨g, i, none⟩ = some (.int .i64 (b.getD i 0)) := by
  rw [Row.cell h, ints_get b i hi]
theorem BAt.set (h : BAt w g b) (i : Nat) (z : Int) : BAt (w.setCell ⟨g, i, none⟩ (.int .i64 z)) g (b.set i z) := by
  have := Row.set h i (.int .i64 z)
  unfold BAt ints
  rw [List.map_set]
  exact this
end
def noneAt (i : Nat) : List Int := List.replicate i (-1) ++ List.replicate (40 - i) 0
theorem noneAt_set {i : Nat} (h : i < 40) : (noneAt i).set i (-1) = noneAt (i + 1) := by
  unfold noneAt
  obtain ⟨m, hm⟩ : ∃ m, 40 - i = m + 1 := ⟨40 - i - 1, by omega⟩
  rw [List.set_append_right _ _ (by simp), List.length_replicate, Nat.sub_self, hm, List.replicate_succ, List.set_cons_zero, show 40 - (i + 1) = m by omega, List.replicate_succ', List.append_assoc]; rfl
theorem noneAt_len {i : Nat} (h : i ≤ 40) : (noneAt i).length = 40 := by simp [noneAt]; omega
set_option maxHeartbeats 400000 in
theorem none_any (w : World) : Calls Tryd.prog 41 #[] w fun e w' => e = .returned (.pointer (some ⟨w.heap.size, 0, none⟩)) ∧ BAt w' w.heap.size KT.noneB ∧ Below w.heap.size w w' := by
  have HN : Hid (noneAt 40 = KT.noneB) := rfl
  go_enter Tryd.func41, Tryd.ntmps41
  go_upto_region 2 with fail
  have HB1 : Hid (Below w.heap.size w (World.alloc w (.cells #[.int .i64 0, .int .i64 0, .int .i64 0, .int .i64 0, .int .i64 0, .int .i64 0, .int .i64 0, .int .i64 0, .int .i64 0, .int .i64 0, .int .i64 0, .int .i64 0, .int .i64 0, .int .i64 0, .int .i64 0, .int .i64 0, .int .i64 0, .int .i64 0, .int .i64 0, .int .i64 0, .int .i64 0, .int .i64 0, .int .i64 0, .int .i64 0, .int .i64 0, .int .i64 0, .int .i64 0, .int .i64 0, .int .i64 0, .int .i64 0, .int .i64 0, .int .i64 0, .int .i64 0, .int .i64 0, .int .i64 0, .int .i64 0, .int .i64 0, .int .i64 0, .int .i64 0, .int .i64 0] 97))) := (show Below _ _ _ by go_grown)
  have RF1 : Hid (BAt (World.alloc w (.cells #[.int .i64 0, .int .i64 0, .int .i64 0, .int .i64 0, .int .i64 0, .int .i64 0, .int .i64 0, .int .i64 0, .int .i64 0, .int .i64 0, .int .i64 0, .int .i64 0, .int .i64 0, .int .i64 0, .int .i64 0, .int .i64 0, .int .i64 0, .int .i64 0, .int .i64 0, .int .i64 0, .int .i64 0, .int .i64 0, .int .i64 0, .int .i64 0, .int .i64 0, .int .i64 0, .int .i64 0, .int .i64 0, .int .i64 0, .int .i64 0, .int .i64 0, .int .i64 0, .int .i64 0, .int .i64 0, .int .i64 0, .int .i64 0, .int .i64 0, .int .i64 0, .int .i64 0, .int .i64 0] 97)) w.heap.size (noneAt 0)) := Row.new w 97 (ints (noneAt 0))
  revert HB1 RF1
  generalize World.alloc w (.cells #[.int .i64 0, .int .i64 0, .int .i64 0, .int .i64 0, .int .i64 0, .int .i64 0, .int .i64 0, .int .i64 0, .int .i64 0, .int .i64 0, .int .i64 0, .int .i64 0, .int .i64 0, .int .i64 0, .int .i64 0, .int .i64 0, .int .i64 0, .int .i64 0, .int .i64 0, .int .i64 0, .int .i64 0, .int .i64 0, .int .i64 0, .int .i64 0, .int .i64 0, .int .i64 0, .int .i64 0, .int .i64 0, .int .i64 0, .int .i64 0, .int .i64 0, .int .i64 0, .int .i64 0, .int .i64 0, .int .i64 0, .int .i64 0, .int .i64 0, .int .i64 0, .int .i64 0, .int .i64 0] 97) = w1
  intro HB1 RF1
  go_wp2
  go_loopg [2, 3] 40 (fun gg _ s3 wr => ∃ i : Nat, i ≤ 40 ∧ 40 - i ≤ gg ∧ s3 = .int .i64 (i : Int) ∧ Aside (Below w.heap.size w wr ∧ BAt wr w.heap.size (noneAt i)))
  case atStart => exact ⟨0, by omega, by omega, rfl, HB1.out, RF1.out⟩
  case round =>
    obtain ⟨i, hi, hgg, rfl, hv⟩ := hrel
    have HB := Lib.hid hv.out.1
    have RF := Lib.hid hv.out.2
    clear hv
    by_cases hlt : i < 40
    · have hltz : (i : Int) < 40 := by omega
      have hnn : (0 : Int) ≤ (i : Int) := by omega
      have k0 := RF.out.cell (i := i) (by rw [noneAt_len hi]; exact hlt)
      have kf : wr.frozen? ⟨w.heap.size, i, none⟩ = false := Row.frozen RF.out i
      have kl : w.heap.size < wr.heap.size := Row.lt RF.out
      revert k0
      generalize (noneAt i).getD i 0 = z
      intro k0
      go_wp2
      go_roundg (40 - (i + 1))
      case measure => omega
      case rel =>
        refine ⟨i + 1, by omega, by omega, by go_num, (show _ ∧ _ from ⟨HB.out.setCell (by show _ ≤ w.heap.size; omega) _, ?_⟩)⟩
        rw [← noneAt_set hlt]
        exact RF.out.set i (-1)
    · have hltz : ¬ (i : Int) < 40 := by omega
      obtain rfl : i = 40 := by omega
      go_wp2
      go_ret
      exact ⟨rfl, HN.out ▸ RF.out, HB.out⟩

theorem anyNot_stOk (t : KT.Tab) (l : List Int) : (l.any fun x => !KT.stOk t x) = !(l.all (KT.stOk t)) := by
  induction l with
  | nil => rfl
  | cons a l ih => rw [List.any_cons, List.all_cons, ih]; cases KT.stOk t a <;> simp
set_option maxHeartbeats 400000 in
theorem statesPred_any (t : KT.Tab) (x : Int) (pb : Nat) (w : World) (h : w.cell? ⟨pb, 0, none⟩ = some (.int .i64 t.states)) :
    Calls Tryd.prog 30 #[.int .i64 x, .pointer (some ⟨pb, 0, none⟩)] w fun e w' => e = .returned (.bool (!KT.stOk t x)) ∧ w = w' := by
  by_cases q1 : x < 0
  · have HV : Hid (∀ _ : Unit, (!KT.stOk t x) = true) := fun _ => by unfold KT.stOk; rw [decide_eq_false (by omega)]; rfl
    have d1 : decide (x < 0) = true := decide_eq_true q1
    go_enter Tryd.func30, Tryd.ntmps30
    go_wp2
    go_ret
    exact ⟨ret_bool (HV.out ()).symm, rfl⟩
  · have d1 : decide (x < 0) = false := decide_eq_false q1
    have HV : Hid (∀ _ : Unit, (!KT.stOk t x) = decide (t.states ≤ x)) := fun _ => by
      unfold KT.stOk
      by_cases h2 : t.states ≤ x
      · rw [decide_eq_false (by omega), decide_eq_true h2]; rfl
      · rw [decide_eq_true (by omega), decide_eq_false h2]; rfl
    go_enter Tryd.func30, Tryd.ntmps30
    go_wp2
    go_ret
    exact ⟨ret_bool (HV.out ()).symm, rfl⟩
set_option maxHeartbeats 1000000 in
theorem states_any (t : KT.Tab) (P : TP) (A : Option Addr) (n c : Nat) (l : List Int) (w : World) (h : Rd w w.heap.size 1 A n (ints l)) (hn : n ≤ maxLen) :
    Calls Tryd.prog 12 #[.agg #[.int .i64 t.states, .int .i64 t.sym, .slice P.HA P.hn P.hc, .slice P.VA P.vn P.vc, .slice P.RA P.rn P.rc], .slice A n c] w fun e w' => e = .returned (.bool (l.all (KT.stOk t))) ∧ Below w.heap.size w w' := by
  have H := Lib.hid h
  have hm := hn
  unfold maxLen at hm
  clear h hn
  go_enter Tryd.func12, Tryd.ntmps12
  go_wp2_with fail
  refine (containsFunc_ints A n c l _ _ (fun x => !KT.stOk t x) _ (enters Tryd.func30 (by kernel_rfl) rfl) (H.out.up (by go_grown)) (by omega) ?_).mono ?_
  · intro W x hx hb
    have h0 := Row.new w 26 [.int .i64 t.states, .int .i64 t.sym, .slice P.HA P.hn P.hc, .slice P.VA P.vn P.vc, .slice P.RA P.rn P.rc]
    refine (statesPred_any t x w.heap.size W (by rw [(rowCells h0 hb).cell]; rfl)).mono ?_
    rintro e w' ⟨rfl, rfl⟩
    exact ⟨rfl, hb⟩
  rintro e w1 ⟨rfl, hb⟩
  have HB : Hid (Below w.heap.size w w1) := below_next hb (by go_grown)
  clear hb
  go_wp2
  go_ret
  exact ⟨ret_bool (by rw [anyNot_stOk]; simp), HB.out⟩
/-- What accept does to a binding in block g. -/
structure AccPost (g : Nat) (b' : List Int) (ok fresh : Bool) (w : World) (e : Ending) (w' : World) : Prop where
  ret : e = .returned (.tuple #[.bool ok, .bool fresh])
  bat : BAt w' g b'
  kept : Kept (· = g) w w'
set_option maxHeartbeats 1000000 in
theorem accept_any (t : KT.Tab) (P : TP) (g : Nat) (b : List Int) (e s : Int) (w : World) (h : TabAt w t P) (hb : BAt w g b) (hbl : b.length = 40) (hv40 : t.vars.length ≤ 40) (he : e < 0 → KT.vix e < t.vars.length) (hb64 : -9223372036854775808 ≤ e) :
    Calls Tryd.prog 42 #[.pointer (some ⟨g, 0, none⟩), .agg #[.int .i64 t.states, .int .i64 t.sym, .slice P.HA P.hn P.hc, .slice P.VA P.vn P.vc, .slice P.RA P.rn P.rc], .int .i64 e, .int .i64 s] w (AccPost g (KT.acceptK t b e s).1 (KT.acceptK t b e s).2.1 (KT.acceptK t b e s).2.2 w) := by
  obtain ⟨HA, hn, hc, VA, vn, vc, RA, rn, rc, vs, rs⟩ := P
  dsimp only
  have H := Lib.hid h
  have HB := Lib.hid hb
  have HVL := Lib.hid (show t.vars.length = vn from h.vl)
  clear h hb
  go_enter Tryd.func42, Tryd.ntmps42
  go_upto_region 1 with fail
  have HB1 : Hid (Below w.heap.size w (World.alloc w (.cells #[.int .i64 t.states, .int .i64 t.sym, .slice HA hn hc, .slice VA vn vc, .slice RA rn rc] 26))) := (show Below _ _ _ by go_grown)
  have RF1 : Hid (Row (World.alloc w (.cells #[.int .i64 t.states, .int .i64 t.sym, .slice HA hn hc, .slice VA vn vc, .slice RA rn rc] 26)) w.heap.size 26 [.int .i64 t.states, .int .i64 t.sym, .slice HA hn hc, .slice VA vn vc, .slice RA rn rc]) := Row.new w _ [.int .i64 t.states, .int .i64 t.sym, .slice HA hn hc, .slice VA vn vc, .slice RA rn rc]
  revert HB1 RF1
  generalize (World.alloc w (.cells #[.int .i64 t.states, .int .i64 t.sym, .slice HA hn hc, .slice VA vn vc, .slice RA rn rc] 26)) = w1
  intro HB1 RF1
  have BA1 : Hid (BAt w1 g b) := rowCells HB.out HB1.out
  by_cases h0 : 0 ≤ e
  · have HE : Hid (∀ _ : Unit, KT.acceptK t b e s = (b, e == s, false)) := fun _ => by unfold KT.acceptK; rw [if_pos h0]
    go_wp2
    go_ret2
    rw [HE.out ()]
    exact ⟨rfl, BA1.out, Kept.ofBelow HB1.out⟩
  have hd0 : decide (0 ≤ e) = false := decide_eq_false h0
  have hi40 : KT.vix e < 40 := by have := he (by omega); omega
  have hw : IntKind.i64.wrap (-1 - e) = (KT.vix e : Int) := by rw [IntWalk.i64_in _ (by omega)]; unfold KT.vix; omega
  have HLT := Lib.hid (he (by omega))
  have HE0 : Hid (KT.acceptK t b e s = if 0 ≤ b.getD (KT.vix e) 0 then (b, b.getD (KT.vix e) 0 == s, false) else if (t.vars.getD (KT.vix e) []).contains s = true then (b.set (KT.vix e) s, true, true) else (b, false, false)) := by
    show _ = _; unfold KT.acceptK; rw [if_neg h0]
  clear he
  have k0 := BA1.out.cell (i := KT.vix e) (by omega)
  have kf : w1.frozen? ⟨g, KT.vix e, none⟩ = false := Row.frozen BA1.out _
  have kl : g < w1.heap.size := Row.lt BA1.out
  revert hw k0 kf HLT HE0 hi40
  generalize KT.vix e = v
  generalize b.getD v 0 = z
  intro hi40 hw HLT HE0 k0 kf
  have hv0 : (0 : Int) ≤ (v : Int) := by omega
  have hv4 : (v : Int) < 40 := by omega
  by_cases hz : 0 ≤ z
  · have HE : Hid (∀ _ : Unit, KT.acceptK t b e s = (b, z == s, false)) := fun _ => by rw [HE0.out, if_pos hz]
    have hdz : decide (0 ≤ z) = true := decide_eq_true hz
    go_wp2
    go_ret2
    rw [HE.out ()]
    exact ⟨rfl, BA1.out, Kept.ofBelow HB1.out⟩
  have hdz : decide (0 ≤ z) = false := decide_eq_false hz
  obtain ⟨ad, hva, hb, g0, hrd, hql, hll⟩ := (H.out.up HB1.out).varAt (k := v) (by dsimp only; have := HLT.out; have := HVL.out; omega)
  dsimp only at hva g0 hrd hql hll
  subst hva
  revert HLT HE0 g0 hrd hql hll
  generalize t.vars.getD v [] = L
  generalize vs.getD v default = q
  obtain ⟨qa, ql, qc⟩ := q
  intro HLT HE0 g0 hrd hql hll
  dsimp only at g0 hrd hql hll
  have hvn : (v : Int) < (vn : Int) := by have := HLT.out; have := HVL.out; omega
  have j0 := RF1.out.cell 0
  have j1 := RF1.out.cell 1
  have j2 := RF1.out.cell 2
  have j3 := RF1.out.cell 3
  have j4 := RF1.out.cell 4
  have jl := RF1.out.lt
  simp only [List.getElem?_cons_zero, List.getElem?_cons_succ] at j0 j1 j2 j3 j4
  have HC := contains_ints qa ql qc L s w1 hrd (by unfold maxLen at hql; omega)
  clear hrd hql hll
  cases hcn : L.contains s with
  | false =>
    rw [hcn] at HC
    have HC := Lib.hid HC
    have HE : Hid (∀ _ : Unit, KT.acceptK t b e s = (b, false, false)) := fun _ => by rw [HE0.out, if_neg hz, hcn]; rfl
    clear hcn
    go_wp2_with fail
    refine HC.out.mono ?_
    rintro e w2 ⟨rfl, hw2⟩
    subst w2
    go_wp2
    go_ret2
    rw [HE.out ()]
    exact ⟨rfl, BA1.out, Kept.ofBelow HB1.out⟩
  | true =>
    rw [hcn] at HC
    have HC := Lib.hid HC
    have HE : Hid (∀ _ : Unit, KT.acceptK t b e s = (b.set v s, true, true)) := fun _ => by rw [HE0.out, if_neg hz, hcn]; rfl
    clear hcn
    go_wp2_with fail
    refine HC.out.mono ?_
    rintro e w2 ⟨rfl, hw2⟩
    subst w2
    go_wp2
    go_ret2
    rw [HE.out ()]
    exact ⟨rfl, BA1.out.set v s, Kept.set (S := (· = g)) (Kept.ofBelow HB1.out) (p := ⟨g, v, none⟩) (.inl rfl) _⟩
theorem getD_set_other (l : List Int) (i j : Nat) (z : Int) (h : i ≠ j) : (l.set i z).getD j 0 = l.getD j 0 := by
  simp only [List.getD_eq_getElem?_getD, List.getElem?_set_ne h]
set_option maxHeartbeats 1000000 in
theorem out_any (r : KT.Rw) (g : Nat) (b : List Int) (A : Option Addr) (n c : Nat) (w : World) (hb : BAt w g b) (hbl : b.length = 40) (he : r.out < 0 → KT.vix r.out < 40) (hb64 : -9223372036854775808 ≤ r.out) :
    Calls Tryd.prog 44 #[.pointer (some ⟨g, 0, none⟩), .agg #[.slice A n c, .int .i64 r.out]] w fun e w' => e = .returned (.int .i64 (KT.outK b r)) ∧ Below w.heap.size w w' := by
  have HB := Lib.hid hb
  clear hb
  go_enter Tryd.func44, Tryd.ntmps44
  go_upto_region 1 with fail
  have HB1 : Hid (Below w.heap.size w (World.alloc w (.cells #[.slice A n c, .int .i64 r.out] 44))) := (show Below _ _ _ by go_grown)
  have RF1 : Hid (Row (World.alloc w (.cells #[.slice A n c, .int .i64 r.out] 44)) w.heap.size 44 [.slice A n c, .int .i64 r.out]) := Row.new w _ [.slice A n c, .int .i64 r.out]
  revert HB1 RF1
  generalize (World.alloc w (.cells #[.slice A n c, .int .i64 r.out] 44)) = w1
  intro HB1 RF1
  have BA1 : Hid (BAt w1 g b) := rowCells HB.out HB1.out
  have j0 := RF1.out.cell 0
  have j1 := RF1.out.cell 1
  have jl := RF1.out.lt
  simp only [List.getElem?_cons_zero, List.getElem?_cons_succ] at j0 j1
  by_cases h0 : 0 ≤ r.out
  · have HE : Hid (∀ _ : Unit, KT.outK b r = r.out) := fun _ => by unfold KT.outK; rw [if_pos h0]
    have hd0 : decide (0 ≤ r.out) = true := decide_eq_true h0
    go_wp2
    go_ret
    rw [HE.out ()]
    exact ⟨rfl, HB1.out⟩
  have hd0 : decide (0 ≤ r.out) = false := decide_eq_false h0
  have hi40 : KT.vix r.out < 40 := he (by omega)
  have hw : IntKind.i64.wrap (-1 - r.out) = (KT.vix r.out : Int) := by rw [IntWalk.i64_in _ (by omega)]; unfold KT.vix; omega
  have HE : Hid (∀ _ : Unit, KT.outK b r = b.getD (KT.vix r.out) 0) := fun _ => by unfold KT.outK; rw [if_neg h0]
  clear he
  have k0 := BA1.out.cell (i := KT.vix r.out) (by omega)
  have kl : g < w1.heap.size := Row.lt BA1.out
  revert hi40 hw HE k0
  generalize KT.vix r.out = v
  generalize b.getD v 0 = z
  intro hi40 hw HE k0
  have hv0 : (0 : Int) ≤ (v : Int) := by omega
  have hv4 : (v : Int) < 40 := by omega
  go_wp2_with fail
  go_quiet (fail)
  go_wp2
  go_ret
  rw [HE.out ()]
  exact ⟨rfl, below_drewN HB1.out _⟩
end Go.Proofs.YtlmdjkmcplobnaaDoor
