/-
  lower's inner function test, walked.
-/
import Derived.Test.YtlkpdmdgeppmdaaLGate
import Derived.Test.YtlkpdmdgeppmdaaTEval
namespace Go.Proofs.Ytlkpdmdgeppmdaa
open Go.RowKit
set_option linter.unusedSimpArgs false
set_option linter.unusedVariables false

theorem bit_int (x : Int) (k : Nat) (h0 : 0 ≤ x) (h1 : x ≤ 7) : bits BinOp.and IntKind.i64 (x / 2 ^ k) 1 = if bitI x k = true then 1 else 0 := by rw [bit_run x k h0 h1, bit_cases]
theorem iint_snoc (l : List Int) (x : Int) : ints (l ++ [x]) = ints l ++ [.int .i64 x] := by simp [ints]

set_option maxRecDepth 100000 in
set_option maxHeartbeats 2000000 in
theorem ltest_any (B b N bb i s Bn : Nat) (gs : List Gt) (cs : List Value) (nv : Value) (w : World) (h : LSt w B b N gs cs) (hN : N ≤ 100) (hl : gs.length ≤ 20000) (h6 : cs[4]? = some (.int .i64 bb)) (h7 : cs[5]? = some nv)
    (hn : w.ownsRow Bn 3 1 nv N (ints (notsW N))) (hb : 1 ≤ bb) (hb3 : bb ≤ 3) (hi : i * bb + bb ≤ N) (hs : s ≤ 7) :
    Calls Try.prog 26 #[.pointer (some ⟨b, 0, none⟩), .int .i64 i, .int .i64 s] w fun e w' => e = .returned (.int .i64 (testS N bb gs i s).2) ∧ LSt w' B b N (testS N bb gs i s).1 cs ∧ LFrm B w w' := by
  have H : Hid (LSt w B b N gs cs) := h
  have HN : Hid (w.ownsRow Bn 3 1 nv N (ints (notsW N))) := hn
  obtain ⟨NA, nc, rfl, _⟩ := Rd.own hn
  have H6 : Hid (cs[4]? = some (.int .i64 bb)) := h6
  have H7 : Hid (cs[5]? = some (.slice NA N nc)) := h7
  clear h hn h6 h7
  have c6 := (H.out.cs 4).trans H6.out
  obtain ⟨hbl, hBb⟩ := H.out.blk
  go_enter Try.func26, Try.ntmps26
  go_wp2
  clear c6 hbl
  go_loopg [7, 8, 13] bb (fun gg s7 _ s13 wr => ∃ (kk : Nat), kk ≤ bb ∧ bb - kk ≤ gg ∧ s13 = .int .i64 kk ∧ Aside (Below w.heap.size w wr) ∧ Aside (wr.ownsRow w.heap.size 3 1 s7 kk (ints ((litsF N bb i s).take kk))))
  case atStart => exact ⟨0, Nat.zero_le _, by omega, rfl, Below.refl _ _, World.ownsRow_nil _ _ _ _⟩
  case round =>
    obtain ⟨kk, hkk, hgg, rfl, BW, OW⟩ := hrel
    by_cases hlt : kk < bb
    · have hltz : (kk : Int) < (bb : Int) := by omega
      have hbit := bit_int (s : Int) kk (by omega) (by omega)
      obtain ⟨q, hq⟩ : ∃ q : Int, q = if bitI (s : Int) kk = true then 1 else 0 := ⟨_, rfl⟩
      rw [← hq] at hbit
      have HQ : Hid (q = if bitI (s : Int) kk = true then 1 else 0) := hq
      have HT : Hid ((litsF N bb i s).take (kk + 1) = (litsF N bb i s).take kk ++ [litF N (i * bb + kk) (bitI (s : Int) kk)]) := by
        show _ = _
        rw [il_snoc _ _ (by rw [litsF_length]; exact hlt), litsF_get _ _ _ _ _ hlt]
      obtain ⟨NA', nc', e9, hRN⟩ := Rd.own (own_below HN.out BW.out (Nat.le_refl _))
      cases e9
      have HRN : Hid (Rd wr wr.heap.size 1 NA N (ints (notsW N))) := hRN
      have LS := H.out.below BW.out
      have h6 : Hid (wr.cell? ⟨b, 6, none⟩ = some (.int .i64 bb)) := (LS.cs 4).trans H6.out
      have h7 : Hid (wr.cell? ⟨b, 7, none⟩ = some (.slice NA N nc)) := (LS.cs 5).trans H7.out
      have hsz : w.heap.size ≤ wr.heap.size := BW.out.size
      generalize (litsF N bb i s).take kk = xs at OW HT
      generalize hlit : litF N (i * bb + kk) (bitI (s : Int) kk) = lv at HT
      have HLV : Hid (litF N (i * bb + kk) (bitI (s : Int) kk) = lv) := hlit
      have hjN : Hid (i * bb + kk < N) := by show _ < _; omega
      clear LS hRN hq hlit
      go_wp2_with (first | (go_at_call 35; refine (llit_any b N bb i kk nc NA (bitI (s : Int) kk) q _ h6.out h7.out HRN.out hjN.out hN HQ.out).mono ?_; rw [HLV.out]; rintro e w4 ⟨rfl, rfl⟩) | (at_builtin; refine wpList_app rfl (.tmp 16) (.tmp 25) 26 rfl w.heap.size 3 (.int .i64 0) 1 8 Try.underlying26 int_infoL rfl (by decide) (by decide) u7 (kk) (ints xs) rfl ?own (wr.heap.size + 1) (some ⟨wr.heap.size, 0, none⟩) 1 1 [.int .i64 lv] rfl ?rd ?one ?hb ?hbase ?_))
      case own => exact (OW.out).alloc _
      case rd => exact Rd.lit wr #[.int .i64 lv] 3 (sz := 1) (m := 1) rfl
      case one => intro u hu; simp at hu; subst hu; rfl
      case hb => omega
      case hbase => simp; omega
      intro v' w' hown' hgrow' hat'
      have BB := BW.out
      have B3 : Below w.heap.size w (wr.alloc (.cells #[.int .i64 lv] 3)) := by go_grown
      have HB4 : Aside (Below w.heap.size w w') := B3.grown hgrow' (by simp; omega) (fun k hk => (OW.out.lt k hk).1)
      have HOWN' : Aside (w'.ownsRow w.heap.size 3 1 v' (kk + 1) (ints (xs ++ [lv]))) := by
        show w'.ownsRow _ _ _ _ _ _
        rw [iint_snoc]
        exact hown'
      clear B3 BB hown' hgrow' hat' hbit
      go_wp2
      go_roundg (bb - (kk + 1))
      case measure => omega
      case rel =>
        refine ⟨kk + 1, by omega, by omega, by go_num, HB4.out, ?_⟩
        show World.ownsRow _ _ _ _ _ _ _
        rw [HT.out]
        exact HOWN'.out
    · have hltz : ¬ (kk : Int) < (bb : Int) := by omega
      obtain rfl : kk = bb := by omega
      have LS : Hid (LSt wr B b N gs cs) := H.out.below BW.out
      have HA : Hid (allS N 3 gs ((litsF N kk i s).take kk) = testS N kk gs i s) := by
        show _ = _
        rw [List.take_of_length_le (by rw [litsF_length]; exact Nat.le_refl _)]; rfl
      have hbB : Hid (B ≤ w.heap.size) := by show _ ≤ _; have := H.out.blk; omega
      go_wp2_with fail
      refine (lall_any B b N w.heap.size kk gs cs 3 u7 ((litsF N kk i s).take kk) _ LS.out hN hl OW.out hb (by omega)).mono ?_
      rw [HA.out]
      rintro e w2 ⟨rfl, hl2, hf2⟩
      have LS2 : Hid (LSt w2 B b N (testS N kk gs i s).1 cs) := hl2
      have FF2 : Hid (LFrm B w w2) := Frm.trans (Frm.ofBelow BW.out hbB.out) hf2
      clear hl2 hf2
      go_wp2
      go_ret
      exact ⟨rfl, LS2.out, FF2.out⟩
end Go.Proofs.Ytlkpdmdgeppmdaa
