/-
  The reference's From, walked.
-/
import Derived.Test.YtoldjjgogdbalaaGSet
import Derived.Test.YtoldjjgogdbalaaGFrom
import Derived.Test.YtoldjjgogdbalaaPat5c
import Derived.Test.YtoldjjgogdbalaaGLaw
namespace Go.Proofs.Ytoldjjgogdbalaa
open Go.RowKit
set_option linter.unusedSimpArgs false
set_option linter.unusedVariables false

set_option maxRecDepth 100000 in
set_option maxHeartbeats 2000000 in
theorem rGFrom_any (p : List Gt) (A : Option Addr) (n c : Nat) (a b e : Int) (w : World) (h : Rd w w.heap.size 3 A n (gatesCells p)) (hm : n ≤ maxLen) :
    Calls Try.prog 22 #[.slice A n c, .int .i64 a, .int .i64 b, .int .i64 e] w (GPost (fromR p a b e) (fromErr p a b e) w) := by
  have H : Hid (Rd w w.heap.size 3 A n (gatesCells p)) := h
  have HL : Hid (p.length = n) := by have := h.1; rw [gatesCells_length] at this; show _ = _; omega
  have HM : Hid (n ≤ maxLen) := hm
  unfold maxLen at hm
  clear h
  go_enter Try.func22, Try.ntmps22
  go_wp2_with fail
  refine (rPRight_any p A n c _ (H.out.up (by go_grown)) HM.out).mono ?_
  rintro en w2 ⟨rfl, hb⟩
  have HB2 : Hid (Below w.heap.size w w2) := below_next hb (by go_grown)
  have RD : Hid (Row w2 w.heap.size 24 [.int .i64 0, .int .i64 0, .int .i64 0, .slice none 0 0]) := rowCells (Row.new w 24 [.int .i64 0, .int .i64 0, .int .i64 0, .slice none 0 0]) hb
  clear hb
  have HBB := HB2.out
  have d0 := RD.out.cell 0
  have d1 := RD.out.cell 1
  have d2 := RD.out.cell 2
  have d3 := RD.out.cell 3
  have f0 := RD.out.frozen 0
  have f1 := RD.out.frozen 1
  have f2 := RD.out.frozen 2
  have f3 := RD.out.frozen 3
  simp only [List.getElem?_cons_zero, List.getElem?_cons_succ] at d0 d1 d2 d3
  cases hp : rightP p
  · have HK : Hid (fromErr p a b e = 2) := by show _ = _; unfold fromErr; rw [if_neg (by rw [hp]; simp)]
    go_wp2
    exact bodyPost_ret (v := .tuple #[.agg #[.int .i64 0, .int .i64 0, .int .i64 0, .slice none 0 0], .int .i64 2]) (by simp [results, Try.results22, go_sem, d0, d1, d2, d3]) rfl (gpost_err (fromR_err HK.out (by decide)) HK.out (by go_grown))
  · have HP : Hid (rightP p = true) := hp
    clear hp
    cases hs : sizedF a b e
    · have HK : Hid (fromErr p a b e = 2) := by show _ = _; unfold fromErr; rw [if_neg (by rw [hs]; simp)]
      go_wp2_with fail
      refine (rSize_any a b e _).mono ?_
      rw [hs]
      rintro en w3 ⟨rfl, rfl⟩
      go_wp2
      exact bodyPost_ret (v := .tuple #[.agg #[.int .i64 0, .int .i64 0, .int .i64 0, .slice none 0 0], .int .i64 2]) (by simp [results, Try.results22, go_sem, d0, d1, d2, d3]) rfl (gpost_err (fromR_err HK.out (by decide)) HK.out (by go_grown))
    · obtain ⟨⟨q1, q2⟩, ⟨h1, h2⟩, hm', he1, he2⟩ := sizedF_parts hs
      obtain ⟨p1, p2⟩ := prod_bd ⟨q1, q2⟩ ⟨h1, h2⟩
      have HS : Hid (sizedF a b e = true) := hs
      clear hs
      obtain ⟨m, hmm⟩ : ∃ m : Nat, (a * b).toNat = m := ⟨_, rfl⟩
      have HMM : Hid ((a * b).toNat = m) := hmm
      have hab : a * b = (m : Int) := by omega
      have hmk := fun W => make_like (P := Try.prog) Try.underlying22 int_infog rfl m (m : Int) rfl (by omega) (by omega) W
      clear hmm
      go_wp2_with fail
      refine (rSize_any a b e _).mono ?_
      rw [HS.out]
      rintro en w3 ⟨rfl, rfl⟩
      have l1 := RD.out.lt
      have RZ3 : Hid (Row ((w2.alloc (.cells (likeRow (.int .i64 0) m) 3)).alloc (.cells #[.int .i64 a, .int .i64 b, .int .i64 e, .slice (some ⟨w2.heap.size, 0, none⟩) m m] 24)) w2.heap.size 3 (ints (zeros m))) := by
        show Row _ _ _ _
        rw [ints_zeros]
        exact (Row.new w2 3 (List.replicate m (.int .i64 0))).alloc _
      have RD3 : Hid (Row ((w2.alloc (.cells (likeRow (.int .i64 0) m) 3)).alloc (.cells #[.int .i64 a, .int .i64 b, .int .i64 e, .slice (some ⟨w2.heap.size, 0, none⟩) m m] 24)) w.heap.size 24 [.int .i64 0, .int .i64 0, .int .i64 0, .slice none 0 0]) := (RD.out.alloc _).alloc _
      have RO3 : Hid (Row ((w2.alloc (.cells (likeRow (.int .i64 0) m) 3)).alloc (.cells #[.int .i64 a, .int .i64 b, .int .i64 e, .slice (some ⟨w2.heap.size, 0, none⟩) m m] 24)) (w2.heap.size + 1) 24 [.int .i64 a, .int .i64 b, .int .i64 e, .slice (some ⟨w2.heap.size, 0, none⟩) m m]) := rowNew1 w2 _ 24 [.int .i64 a, .int .i64 b, .int .i64 e, .slice (some ⟨w2.heap.size, 0, none⟩) m m]
      go_wp2
      clear hmk d0 d1 d2 d3 f0 f1 f2 f3
      go_loopg [11] n (fun gg s11 wr => ∃ kk : Nat, kk ≤ n ∧ n - kk ≤ gg ∧ s11 = .int .i64 kk ∧ Aside (Below w.heap.size w wr) ∧ Aside (Row wr w.heap.size 24 [.int .i64 0, .int .i64 0, .int .i64 0, .slice none 0 0]) ∧ Aside (Row wr (w2.heap.size + 1) 24 [.int .i64 a, .int .i64 b, .int .i64 e, .slice (some ⟨w2.heap.size, 0, none⟩) m m]) ∧ Aside (Row wr w2.heap.size 3 (ints (fill a (zeros m) (p.take kk)))) ∧ Aside (∀ j, j < kk → inGrid a b (p.getD j default) = true))
      case atStart => exact ⟨0, Nat.zero_le _, by omega, rfl, below_on2 HB2.out (by go_grown), RD3.out, RO3.out, RZ3.out, fun j hj => absurd hj (Nat.not_lt_zero _)⟩
      case round =>
        obtain ⟨kk, hkk, hg, rfl, BW, AD, AO, AZ, AA⟩ := hrel
        have d0 := AD.out.cell 0
        have d1 := AD.out.cell 1
        have d2 := AD.out.cell 2
        have d3 := AD.out.cell 3
        have f0 := AD.out.frozen 0
        have f1 := AD.out.frozen 1
        have f2 := AD.out.frozen 2
        have f3 := AD.out.frozen 3
        have o0 := AO.out.cell 0
        have o1 := AO.out.cell 1
        have o2 := AO.out.cell 2
        have o3 := AO.out.cell 3
        have z1 := AD.out.lt
        have z2 := AO.out.lt
        have z3 := AZ.out.lt
        have hne1 : w2.heap.size ≠ w.heap.size := by omega
        have hne2 : w2.heap.size ≠ (w2.heap.size + 1) := by omega
        have hne3 : (w2.heap.size + 1) ≠ w.heap.size := by omega
        simp only [List.getElem?_cons_zero, List.getElem?_cons_succ] at d0 d1 d2 d3 o0 o1 o2 o3
        have LZ : Hid ((fill a (zeros m) (p.take kk)).length = m) := by show _ = _; rw [fill_length]; simp [zeros]
        by_cases hlt : kk < n
        · have hltz : (kk : Int) < (n : Int) := by omega
          obtain ⟨ad, rfl, hb, g0, g1, g2⟩ := (H.out.up BW.out).gate hlt
          have hadz : (ad.add (kk * 3)).block < wr.heap.size := by rw [add_block]; exact hb
          have HT : Hid (fill a (zeros m) (p.take (kk + 1)) = _) := fill_step a (zeros m) p kk (by rw [HL.out]; exact hlt)
          have HF : Hid (inGrid a b (p.getD kk default) = false → fromErr p a b e = 5) := fun hf => by
            unfold fromErr
            rw [if_pos ⟨HP.out, HS.out⟩, if_neg]
            rw [all_false_gt _ _ kk (by rw [HL.out]; exact hlt) hf]
            simp
          generalize hx : p.getD kk default = x at g0 g1 g2 HT HF
          have HX : Hid (p.getD kk default = x) := hx
          clear hx
          have BB := BW.out
          by_cases hin : (0 ≤ x.op ∧ x.op < a) ∧ (0 ≤ x.a ∧ x.a < b)
          · have HG : Hid (inGrid a b x = true) := by show _ = _; unfold inGrid; simpa using hin
            obtain ⟨pl1, pl2⟩ := place_bd hin.1 hin.2
            obtain ⟨⟨x1, x2⟩, ⟨y1, y2⟩⟩ := hin
            have hy0 : 0 ≤ x.a * a := Int.mul_nonneg (by omega) (by omega)
            have hltm : x.a * a + x.op < (m : Int) := by omega
            have hi : (x.a * a + x.op).toNat < m := by omega
            have vc : wr.cell? ⟨w2.heap.size, (x.a * a + x.op).toNat, none⟩ = some (.int .i64 ((fill a (zeros m) (p.take kk)).getD (x.a * a + x.op).toNat 0)) := (AZ.out.cell _).trans (ints_get _ _ (by rw [LZ.out]; exact hi))
            have vf : wr.frozen? ⟨w2.heap.size, (x.a * a + x.op).toNat, none⟩ = false := AZ.out.frozen _
            generalize (fill a (zeros m) (p.take kk)).getD (x.a * a + x.op).toNat 0 = old at vc
            go_wp2
            go_roundg (n - (kk + 1))
            case measure => omega
            case rel =>
              refine ⟨kk + 1, by omega, by omega, by go_num, (show Below _ _ _ by go_grown), (show Row _ _ _ _ from (AD.out.far (p := ⟨w2.heap.size, _, none⟩) (by show w.heap.size ≠ w2.heap.size; omega) _).alloc _), (show Row _ _ _ _ from (AO.out.far (p := ⟨w2.heap.size, _, none⟩) (by show (w2.heap.size + 1) ≠ w2.heap.size; omega) _).alloc _), ?_, (show Aside _ from fun j hj => ?_)⟩
              · show Row _ _ _ _
                rw [HT.out, ← ints_set]
                exact (AZ.out.set _ _).alloc _
              · by_cases e : j = kk
                · subst e
                  rw [HX.out]; exact HG.out
                · exact AA.out j (by omega)
          · have HK : Hid (fromErr p a b e = 5) := HF.out (by unfold inGrid; rw [decide_eq_false hin])
            go_wp2
            all_goals first
              | exact bodyPost_ret (v := .tuple #[.agg #[.int .i64 0, .int .i64 0, .int .i64 0, .slice none 0 0], .int .i64 5]) (by simp [results, Try.results22, go_sem, d0, d1, d2, d3, World.cell?_alloc_lt, z1]) rfl (gpost_err (fromR_err HK.out (by decide)) HK.out (by go_grown))
              | (exfalso; omega)
        · have hltz : ¬ (kk : Int) < (n : Int) := by omega
          obtain rfl : kk = n := by omega
          have HK : Hid (fromErr p a b e = 0) := by
            show _ = _
            unfold fromErr
            rw [if_pos ⟨HP.out, HS.out⟩, if_pos]
            exact all_true_gt _ _ (fun k hk => AA.out k (by rw [HL.out] at hk; exact hk))
          have BB := BW.out
          go_wp2
          refine bodyPost_ret (v := .tuple #[.agg #[.int .i64 a, .int .i64 b, .int .i64 e, .slice (some ⟨w2.heap.size, 0, none⟩) m m], .int .i64 0]) (by simp [results, Try.results22, go_sem, d0, d1, d2, d3]) rfl ?_
          show GPost _ _ _ _ _
          rw [fromR, if_pos HK.out, HK.out]
          refine ⟨some ⟨w2.heap.size, 0, none⟩, m, m, rfl, ⟨?_, by unfold maxLen; omega⟩, by go_grown⟩
          have := AZ.out
          rw [← HL.out, List.take_length] at this
          rw [HMM.out]
          exact ((((this.far (by show w2.heap.size ≠ w.heap.size; omega) _).far (by show w2.heap.size ≠ w.heap.size; omega) _).far (by show w2.heap.size ≠ w.heap.size; omega) _).far (by show w2.heap.size ≠ w.heap.size; omega) _).rd (by rw [ints_length, fill_length]; simp [zeros])
end Go.Proofs.Ytoldjjgogdbalaa
