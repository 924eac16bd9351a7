/-
  What an argument's reading says of memory: slices of integers, words, Bools, and of structs of three integers. And the end of a law's row: true, all as it was. Any program.
-/
import Derived.Test.YtamijjpnklbgnaaCPlain
import Derived.Test.YtamijjpnklbgnaaApp
import Derived.ProofKit
import Derived.Deep.Slices
import Derived.Deep.Strs
import Derived.Lib.SmallJoins
namespace Go.Proofs.Ytamijjpnklbgnaa
open Go.RowKit Go.ChangeShapes Go.WideShapes Go.Deep Go.Joins
set_option linter.unusedSimpArgs false
set_option linter.unusedVariables false

section
variable {H : Type} {enc : TypeId × Value → H} {P : Program} {w : World} {base : Nat} {spare : Nat → Bool} {held : Bool}

theorem rd_of_cells {sz n : Nat} {ad : Addr} {xs : List Value} (hl : xs.length = n * sz) (h : ∀ j u, xs[j]? = some u → w.cell? (ad.add j) = some u) (h0 : 0 < sz) : Rd w w.heap.size sz (some ad) n xs :=
  ⟨hl, fun hn => ⟨ad, rfl, by
    have hp : 0 < xs.length := by rw [hl]; exact Nat.mul_pos hn h0
    have := World.block_lt_of_cell? w _ (h 0 xs[0] (List.getElem?_eq_getElem hp))
    rwa [add_block] at this, h⟩⟩

theorem read_ints {t e : TypeId} {fuel : Nat} {v : Value} {x : DataW H × List MemPlace} (ht : P.underlying t = some (.slice e)) (he : P.underlying e = some (.int .i64)) (hc : P.cellsOf e = 1)
    (h : DataW.trod enc P w base spare held fuel t [v] = some x) : ∃ A n c zs, v = .slice A n c ∧ Rd w w.heap.size 1 A n (ints zs) ∧ n ≤ maxLen ∧ (∀ z ∈ zs, -9223372036854775808 ≤ z ∧ z ≤ 9223372036854775807) := by
  rcases open_ints ht he hc h with ⟨hcs, _⟩ | ⟨a, len, cap, zs, hcs, _, hl, hm, hz, _, hcell, hwf⟩
  · injection hcs with hcs
    exact ⟨none, 0, 0, [], hcs, Rd.empty none, by unfold maxLen; omega, by simp⟩
  · injection hcs with hcs
    have hln : len ≤ zs.length := by rw [hz]; split <;> omega
    refine ⟨some a, len, cap, zs.take len, hcs, rd_of_cells (by simp; omega) (fun j u hu => ?_) (by omega), by omega, fun z hz => ?_⟩
    · have hj : j < len := by
        have := (List.getElem?_eq_some_iff.1 hu).1
        simp at this; omega
      rw [ints_get _ j (by simp; omega)] at hu
      injection hu with hu
      rw [hcell j (by omega), ← hu]
      simp [List.getD_eq_getElem?_getD, List.getElem?_take, hj]
    · have := hwf z (List.mem_of_mem_take hz)
      simpa [Lit.wf, IntKind.min, IntKind.max, IntKind.signed, IntKind.bits] using this

theorem read_words {t e : TypeId} {fuel : Nat} {v : Value} {x : DataW H × List MemPlace} (ht : P.underlying t = some (.slice e)) (he : P.underlying e = some (.int .u64)) (hc : P.cellsOf e = 1)
    (h : DataW.trod enc P w base spare held fuel t [v] = some x) : ∃ A n c zs, v = .slice A n c ∧ Rd w w.heap.size 1 A n (w64s zs) ∧ n ≤ maxLen := by
  rcases open_ints ht he hc h with ⟨hcs, _⟩ | ⟨a, len, cap, zs, hcs, _, hl, hm, hz, _, hcell, hwf⟩
  · injection hcs with hcs
    exact ⟨none, 0, 0, [], hcs, Rd.empty none, by unfold maxLen; omega⟩
  · injection hcs with hcs
    have hln : len ≤ zs.length := by rw [hz]; split <;> omega
    refine ⟨some a, len, cap, (zs.take len).map (fun z => BitVec.ofNat 64 z.toNat), hcs, rd_of_cells (by simp [w64s]; omega) (fun j u hu => ?_) (by omega), by omega⟩
    have hj : j < len := by
      have := (List.getElem?_eq_some_iff.1 hu).1
      simp [w64s] at this; omega
    rw [w64s_get _ j (by simp; omega)] at hu
    injection hu with hu
    rw [hcell j (by omega), ← hu]
    have hb := hwf (zs.getD j 0) (by rw [List.getD_eq_getElem?_getD, List.getElem?_eq_getElem (by omega)]; exact List.getElem_mem _)
    have e1 : ((zs.take len).map (fun z => BitVec.ofNat 64 z.toNat)).getD j 0 = BitVec.ofNat 64 (zs.getD j 0).toNat := by
      simp [List.getD_eq_getElem?_getD, List.getElem?_map, List.getElem?_take, hj, List.getElem?_eq_getElem (show j < zs.length by omega)]
    rw [e1]
    generalize zs.getD j 0 = z at hb
    simp only [Lit.wf, IntKind.min, IntKind.max, IntKind.signed, IntKind.bits] at hb
    simp at hb
    rw [w64, BitVec.toNat_ofNat, Nat.mod_eq_of_lt (by omega)]
    congr 2
    omega

theorem read_bools {t e : TypeId} {fuel : Nat} {v : Value} {x : DataW H × List MemPlace} (ht : P.underlying t = some (.slice e)) (he : P.underlying e = some .bool) (hc : P.cellsOf e = 1)
    (h : DataW.trod enc P w base spare held fuel t [v] = some x) : ∃ A n c bs, v = .slice A n c ∧ Rd w w.heap.size 1 A n (bools bs) ∧ n ≤ maxLen := by
  rcases open_slice1 ht hc h with ⟨hcs, _⟩ | ⟨a, len, cap, m, n, V, D, Pl, hcs, _, hl, hm, hmm, _, hx⟩
  · injection hcs with hcs
    exact ⟨none, 0, 0, [], hcs, Rd.empty none, by unfold maxLen; omega⟩
  · injection hcs with hcs
    have hln : len ≤ m := by rw [hmm]; split <;> omega
    have hV : ∀ i, i < m → ∃ b, V i = .bool b := fun i hi => by
      obtain ⟨b, hb, _⟩ := DataW.trod_bool he (hx i hi).2
      injection hb with hb
      exact ⟨b, hb⟩
    refine ⟨some a, len, cap, (List.range len).map (fun i => match V i with | .bool b => b | _ => false), hcs, rd_of_cells (by simp) (fun j u hu => ?_) (by omega), by omega⟩
    have hj : j < len := by
      have := (List.getElem?_eq_some_iff.1 hu).1
      simp at this; omega
    obtain ⟨b, hb⟩ := hV j (by omega)
    rw [(hx j (by omega)).1, ← hu, hb]
    simp [bools, List.getElem?_map, List.getElem?_range hj, hb]

/-- A slice of structs of three integers. -/
theorem read_gates {t e e1 : TypeId} {f0 f1 f2 : Field} {fuel : Nat} {v : Value} {x : DataW H × List MemPlace} (ht : P.underlying t = some (.slice e)) (he : P.underlying e = some (.struct #[f0, f1, f2])) (hC : P.cellsOf e = 3)
    (h0 : f0.type = e1 ∧ f0.offset = 0) (h1 : f1.type = e1 ∧ f1.offset = 1) (h2 : f2.type = e1 ∧ f2.offset = 2) (hi : P.underlying e1 = some (.int .i64)) (hc : P.cellsOf e1 = 1)
    (h : DataW.trod enc P w base spare held fuel t [v] = some x) : ∃ A n c gs, v = .slice A n c ∧ Rd w w.heap.size 3 A n (gatesCells gs) ∧ n ≤ maxLen := by
  rcases open_slice ht h with ⟨hcs, _⟩ | ⟨a, len, cap, m, n, D, Pl, hcs, _, hl, hm, hmm, _, hx⟩
  · injection hcs with hcs
    exact ⟨none, 0, 0, [], hcs, Rd.empty none, by unfold maxLen; omega⟩
  · injection hcs with hcs
    have hln : len ≤ m := by rw [hmm]; split <;> omega
    have hV : ∀ i, i < m → ∃ g : Gt, w.cell? (a.add (i * 3)) = some (.int .i64 g.op) ∧ w.cell? (a.add (i * 3 + 1)) = some (.int .i64 g.a) ∧ w.cell? (a.add (i * 3 + 2)) = some (.int .i64 g.b) := fun i hi' => by
      obtain ⟨cs', hcells, ht'⟩ := hx i hi'
      rw [hC] at hcells
      obtain ⟨_, hlen, hat⟩ := World.cells?_some hcells
      obtain ⟨y0, y1, y2, n', _, _, t0, t1, t2⟩ := trod_struct3 he ht'
      match cs', hlen with
      | [c0, c1, c2], _ =>
        rw [h0.1, h0.2, hc] at t0
        rw [h1.1, h1.2, hc] at t1
        rw [h2.1, h2.2, hc] at t2
        simp only [List.drop_zero, List.drop_succ_cons, List.take_succ_cons, List.take_zero] at t0 t1 t2
        obtain ⟨z0, e0, _⟩ := DataW.trod_int hi t0
        obtain ⟨z1, e1, _⟩ := DataW.trod_int hi t1
        obtain ⟨z2, e2, _⟩ := DataW.trod_int hi t2
        injection e0 with e0
        injection e1 with e1
        injection e2 with e2
        have q0 := hat 0 (by omega)
        have q1 := hat 1 (by omega)
        have q2 := hat 2 (by omega)
        rw [add_add'] at q0 q1 q2
        refine ⟨⟨z0, z1, z2⟩, ?_, ?_, ?_⟩
        · simpa [e0] using q0
        · simpa [e1] using q1
        · simpa [e2] using q2
    obtain ⟨G, hG⟩ := choose_lt (α := Gt) (p := fun i g => w.cell? (a.add (i * 3)) = some (.int .i64 g.op) ∧ w.cell? (a.add (i * 3 + 1)) = some (.int .i64 g.a) ∧ w.cell? (a.add (i * 3 + 2)) = some (.int .i64 g.b)) hV
    refine ⟨some a, len, cap, (List.range len).map G, hcs, rd_of_cells (by rw [gatesCells_length]; simp) (fun j u hu => ?_) (by omega), by omega⟩
    have hj : j < len * 3 := by
      have := (List.getElem?_eq_some_iff.1 hu).1
      rw [gatesCells_length] at this; simpa using this
    have hk : j / 3 < len := by omega
    obtain ⟨p0, p1, p2⟩ := gatesCells_get ((List.range len).map G) (j / 3) (by simpa using hk)
    have hg : ((List.range len).map G).getD (j / 3) default = G (j / 3) := by
      simp [List.getD_eq_getElem?_getD, List.getElem?_map, List.getElem?_range hk]
    rw [hg] at p0 p1 p2
    obtain ⟨r0, r1, r2⟩ := hG (j / 3) (by omega)
    have hj3 : j = j / 3 * 3 ∨ j = j / 3 * 3 + 1 ∨ j = j / 3 * 3 + 2 := by omega
    rcases hj3 with e | e | e
    · rw [← e] at p0 r0; rw [r0, ← p0, hu]
    · rw [← e] at p1 r1; rw [r1, ← p1, hu]
    · rw [← e] at p2 r2; rw [r2, ← p2, hu]

end

/-- The end of a law's row where nothing that was there has turned. -/
theorem law_post {H : Type} {enc : TypeId × Value → H} {P : Program} {f : Func} {s : ChangeSpec} {apart fresh handsOn : Bool} {W W' : World} {args : Array Value} {v : Value} {ds gs : List (DataW H)} {before pa pv : List MemPlace}
    (hW : DataW.Whole enc P f.params.toList s.vars apart W args.toList ds gs before)
    (hres : ∀ (b : Nat) (sp : Nat → Bool) (hd : Bool), DataW.TrodAll enc P W' b sp hd f.resultTypes.toList (v.resultList f.resultTypes.size) (s.fn H (ds ++ gs)).results [])
    (hargs : DataW.TrodAll enc P W' 0 (fun b => decide (b < W.heap.size)) true f.params.toList args.toList (s.fn H (ds ++ gs)).args pa)
    (hvars : DataW.TrodVars enc P W' (fun b => decide (b < W.heap.size)) s.vars (s.fn H (ds ++ gs)).vars pv) (hb : Below W.heap.size W W') :
    s.post enc P f apart fresh handsOn false W args v W' :=
  ⟨ds, gs, before, [], pa, pv, hW, hres _ _ _, hargs, hvars, hb.frame _, fun h => by cases h⟩
end Go.Proofs.Ytamijjpnklbgnaa
