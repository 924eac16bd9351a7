/-
  grid.From, walked.
-/
import Derived.Test.YtoldjjgogdbalaaGSet
import Derived.Test.YtoldjjgogdbalaaPat5b
import Derived.Test.YtoldjjgogdbalaaGLaw
namespace Go.Proofs.Ytoldjjgogdbalaa
open Go.RowKit
set_option linter.unusedSimpArgs false
set_option linter.unusedVariables false

theorem all_false_gt (f : Gt → Bool) (p : List Gt) (k : Nat) (hk : k < p.length) (h : f (p.getD k default) = false) : p.all f = false := by
  rw [List.all_eq_false]
  refine ⟨p[k], List.getElem_mem hk, ?_⟩
  simp [List.getD_eq_getElem?_getD, List.getElem?_eq_getElem hk] at h
  simp [h]
theorem all_true_gt (f : Gt → Bool) (p : List Gt) (h : ∀ k, k < p.length → f (p.getD k default) = true) : p.all f = true := by
  rw [List.all_eq_true]
  intro x hx
  obtain ⟨j, hj, rfl⟩ := List.getElem_of_mem hx
  have := h j hj
  simpa [List.getD_eq_getElem?_getD, List.getElem?_eq_getElem hj] using this
theorem fromR_err {p : List Gt} {w h e k : Int} (hk : fromErr p w h e = k) (h0 : k ≠ 0) : fromR p w h e = noGrd := by rw [fromR, if_neg (by rw [hk]; exact h0)]
theorem fill_step (w : Int) (cs : List Int) (p : List Gt) (k : Nat) (h : k < p.length) : fill w cs (p.take (k + 1)) = (fill w cs (p.take k)).set (idx w (p.getD k default)) (p.getD k default).b := by
  rw [gl_snoc p k h, fill_snoc]

set_option maxRecDepth 100000 in
set_option maxHeartbeats 2000000 in
theorem gFrom_any (p : List Gt) (A : Option Addr) (n c : Nat) (a b e : Int) (w : World) (h : Rd w w.heap.size 3 A n (gatesCells p)) (hm : n ≤ maxLen) :
    Calls Try.prog 21 #[.slice A n c, .int .i64 a, .int .i64 b, .int .i64 e] w (GPost (fromR p a b e) (fromErr p a b e) w) := by
  have H : Hid (Rd w w.heap.size 3 A n (gatesCells p)) := h
  have HL : Hid (p.length = n) := by have := h.1; rw [gatesCells_length] at this; show _ = _; omega
  have HM : Hid (n ≤ maxLen) := hm
  unfold maxLen at hm
  clear h
  go_enter Try.func21, Try.ntmps21
  go_wp2_with fail
  refine (gNew_any a b e _).mono ?_
  rintro en w1 (⟨hs, rfl, hb⟩ | ⟨hs, g, rfl, hrow, hge, hb⟩)
  · have HB : Hid (Below w.heap.size w w1) := below_next hb (by go_grown)
    have RD : Hid (Row w1 w.heap.size 24 [.int .i64 0, .int .i64 0, .int .i64 0, .slice none 0 0]) := rowCells (Row.new w 24 [.int .i64 0, .int .i64 0, .int .i64 0, .slice none 0 0]) hb
    clear hb
    have HK : Hid (fromErr p a b e = 2) := by show _ = _; unfold fromErr; rw [if_neg (by rw [hs]; simp)]
    have l1 := RD.out.lt
    go_wp2_with fail
    refine (pRight_any p A n c _ (H.out.up (below_on2 HB.out (by go_grown))) HM.out).mono ?_
    rintro en w2 ⟨rfl, hb⟩
    have HB2 : Hid (Below w.heap.size w w2) := below_on HB.out (by go_grown) hb
    have RD := (show Hid (Row w2 _ _ _) from rowCells (RD.out.alloc _) hb)
    clear hb
    have d0 := RD.out.cell 0
    have d1 := RD.out.cell 1
    have d2 := RD.out.cell 2
    have d3 := RD.out.cell 3
    have f0 := RD.out.frozen 0
    have f1 := RD.out.frozen 1
    have f2 := RD.out.frozen 2
    have f3 := RD.out.frozen 3
    simp only [List.getElem?_cons_zero, List.getElem?_cons_succ] at d0 d1 d2 d3
    have HBB := HB2.out
    cases hp : rightP p
    all_goals
      go_wp2
      exact bodyPost_ret (v := .tuple #[.agg #[.int .i64 0, .int .i64 0, .int .i64 0, .slice none 0 0], .int .i64 2]) (by simp [results, Try.results21, go_sem, d0, d1, d2, d3]) rfl (gpost_err (fromR_err HK.out (by decide)) HK.out (by go_grown))
  · have HB : Hid (Below w.heap.size w w1) := below_next hb (by go_grown)
    have RD : Hid (Row w1 w.heap.size 24 [.int .i64 0, .int .i64 0, .int .i64 0, .slice none 0 0]) := rowCells (Row.new w 24 [.int .i64 0, .int .i64 0, .int .i64 0, .slice none 0 0]) hb
    have RZ : Hid (Row w1 g 3 (ints (zeros (a * b).toNat))) := hrow
    have l1 := RD.out.lt
    have l2 := RZ.out.lt
    simp at hge
    obtain ⟨⟨q1, q2⟩, ⟨h1, h2⟩, hm', he1, he2⟩ := sizedF_parts hs
    obtain ⟨p1, p2⟩ := prod_bd ⟨q1, q2⟩ ⟨h1, h2⟩
    have HS : Hid (sizedF a b e = true) := hs
    clear hb hrow hs
    obtain ⟨m, hmm⟩ : ∃ m : Nat, (a * b).toNat = m := ⟨_, rfl⟩
    have HMM : Hid ((a * b).toNat = m) := hmm
    rw [hmm] at RZ
    rw [hmm]
    have hab : a * b = (m : Int) := by omega
    clear hmm
    go_wp2_with fail
    refine (pRight_any p A n c _ (H.out.up (below_on2 HB.out (by go_grown))) HM.out).mono ?_
    rintro en w2 ⟨rfl, hb⟩
    have HB2 : Hid (Below w.heap.size w w2) := below_on HB.out (by go_grown) hb
    have RD := (show Hid (Row w2 _ _ _) from rowCells (RD.out.alloc _) hb)
    have RZ := (show Hid (Row w2 _ _ _) from rowCells (RZ.out.alloc _) hb)
    have RO : Hid (Row w2 w1.heap.size 24 [.int .i64 a, .int .i64 b, .int .i64 e, .slice (some ⟨g, 0, none⟩) m m]) := rowCells (Row.new w1 24 [.int .i64 a, .int .i64 b, .int .i64 e, .slice (some ⟨g, 0, none⟩) m m]) hb
    clear hb HB
    have HBB := HB2.out
    cases hp : rightP p
    · have HK : Hid (fromErr p a b e = 2) := by show _ = _; unfold fromErr; rw [if_neg (by rw [hp]; simp)]
      have d0 := RD.out.cell 0
      have d1 := RD.out.cell 1
      have d2 := RD.out.cell 2
      have d3 := RD.out.cell 3
      have f0 := RD.out.frozen 0
      have f1 := RD.out.frozen 1
      have f2 := RD.out.frozen 2
      have f3 := RD.out.frozen 3
      simp only [List.getElem?_cons_zero, List.getElem?_cons_succ] at d0 d1 d2 d3
      go_wp2
      exact bodyPost_ret (v := .tuple #[.agg #[.int .i64 0, .int .i64 0, .int .i64 0, .slice none 0 0], .int .i64 2]) (by simp [results, Try.results21, go_sem, d0, d1, d2, d3]) rfl (gpost_err (fromR_err HK.out (by decide)) HK.out (by go_grown))
    · have HP : Hid (rightP p = true) := hp
      clear hp
      have hz1 : w1.heap.size < w2.heap.size := RO.out.lt
      go_wp2
      go_loopg [31] n (fun gg s31 wr => ∃ kk : Nat, kk ≤ n ∧ n - kk ≤ gg ∧ s31 = .int .i64 kk ∧ Aside (Below w.heap.size w wr) ∧ Aside (Row wr w.heap.size 24 [.int .i64 0, .int .i64 0, .int .i64 0, .slice none 0 0]) ∧ Aside (Row wr w1.heap.size 24 [.int .i64 a, .int .i64 b, .int .i64 e, .slice (some ⟨g, 0, none⟩) m m]) ∧ Aside (Row wr g 3 (ints (fill a (zeros m) (p.take kk)))) ∧ Aside (∀ j, j < kk → inGrid a b (p.getD j default) = true))
      case atStart => exact ⟨0, Nat.zero_le _, by omega, rfl, HB2.out, RD.out, RO.out, RZ.out, fun j hj => absurd hj (Nat.not_lt_zero _)⟩
      case round =>
        obtain ⟨kk, hkk, hg, rfl, BW, AD, AO, AZ, AA⟩ := hrel
        have d0 := AD.out.cell 0
        have d1 := AD.out.cell 1
        have d2 := AD.out.cell 2
        have d3 := AD.out.cell 3
        have f0 := AD.out.frozen 0
        have f1 := AD.out.frozen 1
        have f2 := AD.out.frozen 2
        have f3 := AD.out.frozen 3
        have o0 := AO.out.cell 0
        have o1 := AO.out.cell 1
        have o2 := AO.out.cell 2
        have o3 := AO.out.cell 3
        have z1 := AD.out.lt
        have z2 := AO.out.lt
        have z3 := AZ.out.lt
        have hne1 : g ≠ w.heap.size := by omega
        have hne2 : g ≠ w1.heap.size := by omega
        have hne3 : w1.heap.size ≠ w.heap.size := by omega
        simp only [List.getElem?_cons_zero, List.getElem?_cons_succ] at d0 d1 d2 d3 o0 o1 o2 o3
        have LZ : Hid ((fill a (zeros m) (p.take kk)).length = m) := by show _ = _; rw [fill_length]; simp [zeros]
        by_cases hlt : kk < n
        · have hltz : (kk : Int) < (n : Int) := by omega
          obtain ⟨ad, rfl, hb, g0, g1, g2⟩ := (H.out.up BW.out).gate hlt
          have hadz : (ad.add (kk * 3)).block < wr.heap.size := by rw [add_block]; exact hb
          have HT : Hid (fill a (zeros m) (p.take (kk + 1)) = _) := fill_step a (zeros m) p kk (by rw [HL.out]; exact hlt)
          have HF : Hid (inGrid a b (p.getD kk default) = false → fromErr p a b e = 5) := fun hf => by
            unfold fromErr
            rw [if_pos ⟨HP.out, HS.out⟩, if_neg]
            rw [all_false_gt _ _ kk (by rw [HL.out]; exact hlt) hf]
            simp
          generalize hx : p.getD kk default = x at g0 g1 g2 HT HF
          have HX : Hid (p.getD kk default = x) := hx
          clear hx
          have BB := BW.out
          by_cases hin : (0 ≤ x.op ∧ x.op < a) ∧ (0 ≤ x.a ∧ x.a < b)
          · have HG : Hid (inGrid a b x = true) := by show _ = _; unfold inGrid; simpa using hin
            obtain ⟨pl1, pl2⟩ := place_bd hin.1 hin.2
            obtain ⟨⟨x1, x2⟩, ⟨y1, y2⟩⟩ := hin
            have hy0 : 0 ≤ x.a * a := Int.mul_nonneg (by omega) (by omega)
            have hltm : x.a * a + x.op < (m : Int) := by omega
            have hi : (x.a * a + x.op).toNat < m := by omega
            have vc : wr.cell? ⟨g, (x.a * a + x.op).toNat, none⟩ = some (.int .i64 ((fill a (zeros m) (p.take kk)).getD (x.a * a + x.op).toNat 0)) := (AZ.out.cell _).trans (ints_get _ _ (by rw [LZ.out]; exact hi))
            have vf : wr.frozen? ⟨g, (x.a * a + x.op).toNat, none⟩ = false := AZ.out.frozen _
            generalize (fill a (zeros m) (p.take kk)).getD (x.a * a + x.op).toNat 0 = old at vc
            go_wp2
            go_roundg (n - (kk + 1))
            case measure => omega
            case rel =>
              refine ⟨kk + 1, by omega, by omega, by go_num, (show Below _ _ _ by go_grown), (show Row _ _ _ _ from (AD.out.far (p := ⟨g, _, none⟩) (by show w.heap.size ≠ g; omega) _).alloc _), (show Row _ _ _ _ from (AO.out.far (p := ⟨g, _, none⟩) (by show w1.heap.size ≠ g; omega) _).alloc _), ?_, (show Aside _ from fun j hj => ?_)⟩
              · show Row _ _ _ _
                rw [HT.out, ← ints_set]
                exact (AZ.out.set _ _).alloc _
              · by_cases e : j = kk
                · subst e
                  rw [HX.out]; exact HG.out
                · exact AA.out j (by omega)
          · have HK : Hid (fromErr p a b e = 5) := HF.out (by unfold inGrid; rw [decide_eq_false hin])
            go_wp2
            all_goals first
              | exact bodyPost_ret (v := .tuple #[.agg #[.int .i64 0, .int .i64 0, .int .i64 0, .slice none 0 0], .int .i64 5]) (by simp [results, Try.results21, go_sem, d0, d1, d2, d3, World.cell?_alloc_lt, z1]) rfl (gpost_err (fromR_err HK.out (by decide)) HK.out (by go_grown))
              | (exfalso; omega)
        · have hltz : ¬ (kk : Int) < (n : Int) := by omega
          obtain rfl : kk = n := by omega
          have HK : Hid (fromErr p a b e = 0) := by
            show _ = _
            unfold fromErr
            rw [if_pos ⟨HP.out, HS.out⟩, if_pos]
            exact all_true_gt _ _ (fun k hk => AA.out k (by rw [HL.out] at hk; exact hk))
          have BB := BW.out
          go_wp2
          refine bodyPost_ret (v := .tuple #[.agg #[.int .i64 a, .int .i64 b, .int .i64 e, .slice (some ⟨g, 0, none⟩) m m], .int .i64 0]) (by simp [results, Try.results21, go_sem, d0, d1, d2, d3]) rfl ?_
          show GPost _ _ _ _ _
          rw [fromR, if_pos HK.out, HK.out]
          refine ⟨some ⟨g, 0, none⟩, m, m, rfl, ⟨?_, by unfold maxLen; omega⟩, by go_grown⟩
          have := AZ.out
          rw [← HL.out, List.take_length] at this
          rw [HMM.out]
          exact ((((this.far (by show g ≠ w.heap.size; omega) _).far (by show g ≠ w.heap.size; omega) _).far (by show g ≠ w.heap.size; omega) _).far (by show g ≠ w.heap.size; omega) _).rd (by rw [ints_length, fill_length]; simp [zeros])
end Go.Proofs.Ytoldjjgogdbalaa
