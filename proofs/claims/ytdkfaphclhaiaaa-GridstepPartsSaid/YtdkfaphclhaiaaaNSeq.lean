/-
  run of package gridstep: the iterator's contract.
-/
import Derived.Test.YtdkfaphclhaiaaaNNext
import Derived.Test.YtdkfaphclhaiaaaRgState
import Derived.Test.YtdkfaphclhaiaaaGPost
import Derived.Shelf.Abstract
import Derived.Shelf.RegionOpen
import Derived.WalkKit
import Derived.OwnWalkIn
import Derived.TacticsInMore
import Derived.LoopNIn
import Derived.LoopIn
namespace Go.Proofs.Ytdkfaphclhaiaaa
open Go.RowKit Go.Shelf
set_option linter.unusedSimpArgs false
set_option linter.unusedVariables false
attribute [local go_sem] Oper.semAt_some
theorem KC.cell {A B : World} (h : KC A B) {a : Addr} {v : Value} (hc : A.cell? a = some v) : B.cell? a = some v := by
  obtain ⟨o, ho, hk⟩ := cells_of_cell hc
  have := h.cells _ _ ho hk
  rw [← hc]
  unfold World.cell?
  rw [this, ho]
theorem KC.row {A B : World} (h : KC A B) {b : Nat} {T : TypeId} {xs : List Value} (hr : Row A b T xs) : Row B b T xs := h.cells _ _ hr rfl
theorem KC.rd {A B : World} (h : KC A B) {sz n : Nat} {ad : Option Addr} {xs : List Value} (hr : Rd A A.heap.size sz ad n xs) : Rd B B.heap.size sz ad n xs :=
  ⟨hr.1, fun hn => let ⟨a, e, hb, hc⟩ := hr.2 hn; ⟨a, e, Nat.lt_of_lt_of_le hb h.size, fun j u hu => h.cell (hc j u hu)⟩⟩
theorem TAt.kc {w w' : World} {t : Tre} {HA NA : Option Addr} {hn nn : Nat} {sl : List Sl} (h : TAt w t HA NA hn nn sl) (hb : KC w w') : TAt w' t HA NA hn nn sl :=
  { h with
    hood := hb.rd h.hood
    nodes := hb.rd h.nodes
    next := fun i hi => ⟨hb.rd (h.next i hi).1, (h.next i hi).2⟩ }
theorem GAt.kc {w w' : World} {g : Grd} {A : Option Addr} {n : Nat} (h : GAt w g A n) (hb : KC w w') : GAt w' g A n := ⟨hb.rd h.cells, h.c63⟩
/-- A store into a block at or beyond an old world's end. -/
theorem KC.setNew {w A : World} (h : KC w A) {p : Addr} (hp : w.heap.size ≤ p.block) (u : Value) : KC w (A.setCell p u) :=
  ⟨h.os, h.tape, h.output, by rw [World.size_setCell]; exact h.size, fun j o hj ho => by
    rw [Below.heap_setCell A p u j (by have := (Array.getElem?_eq_some_iff.1 hj).1; omega)]
    exact h.cells j o hj ho⟩
/-- What the iterator hands over in round k. -/
def GenAt (t : Tre) (g : Grd) (n B G : Nat) (k : Nat) (v : Value) (W : World) : Prop :=
  ∃ (A : Option Addr) (c : Nat), v = .agg #[.int .i64 g.w, .int .i64 g.h, .int .i64 g.edge, .slice A n c] ∧ GAt W (genG t g k) A n ∧ NewOr A n B (G + 1)
theorem GenAt.kc {t : Tre} {g : Grd} {n N G k : Nat} {v : Value} {A B : World} (h : GenAt t g n N G k v A) (hb : KC A B) : GenAt t g n N G k v B := by
  obtain ⟨Ad, c, e, hg, ho⟩ := h
  exact ⟨Ad, c, e, hg.kc hb, ho⟩
theorem grown_setG {A B : World} {G : Nat} (h : A.grownBy B (some G)) (i : Nat) (u : Value) : A.grownBy (B.setCell ⟨G, i, none⟩ u) (some G) :=
  ⟨h.os, h.tape, h.output, by rw [World.size_setCell]; exact h.size, fun j hj hne => by
    rw [Below.heap_setCell B ⟨G, i, none⟩ u j (fun e => hne (by rw [e]))]
    exact h.block j hj hne⟩
theorem row_types {W : World} {a b : Nat} {T S : TypeId} {xs ys : List Value} (h : Row W a T xs) (k : Row W b S ys) (hne : T ≠ S) : a ≠ b := fun e => by
  subst e
  unfold Row at h k
  rw [h] at k
  injection k with k
  injection k with _ ht
  exact hne ht
set_option maxRecDepth 100000 in
set_option maxHeartbeats 4000000 in
/-- The iterator: the generations of the grid, one after the other. -/
theorem run_seq (t : Tre) (g : Grd) (HA NA A0 : Option Addr) (hn hc nn nc n ac G T N b0 : Nat) (sl : List Sl) (w0 w : World) (hT : TAt w0 t HA NA hn nn sl) (hok : OkTG t g) (hcl : g.cells.length = n)
    (h0w : KC w0 w) (hG0 : w0.heap.size ≤ G) (rT : Row w T 25 [.int .i64 t.states, .slice HA hn hc, .slice NA nn nc]) (rG : Row w G 28 [.int .i64 g.w, .int .i64 g.h, .int .i64 g.edge, .slice A0 n ac]) (hg : GAt w0 g A0 n) (hTG : T ≠ G) (hN : N ≤ 20000) (hO : NewOr A0 n b0 (G + 1)) :
    SeqState Try.prog 41 #[.pointer (some ⟨G, 0, none⟩), .pointer (some ⟨T, 0, none⟩)] G (GenAt t g n b0 G) N w := by
  intro l J Jx W hl hl2 hW hJ hJN hY h0
  refine callsIn_of_wp Try.func41 rfl trivial ?_ rfl
  simp only [Try.ntmps41, List.size_toArray, List.length_cons, List.length_nil, Nat.reduceAdd, Nat.reduceSub, Array.replicate_succ, Array.replicate_zero, List.push_toArray, List.append_toArray, List.nil_append, List.cons_append]
  have KW : KC w0 W := h0w.trans (.below hW)
  have RTW : Row W T 25 [.int .i64 t.states, .slice HA hn hc, .slice NA nn nc] := (KC.below hW).row rT
  have RGW : Row W G 28 [.int .i64 g.w, .int .i64 g.h, .int .i64 g.edge, .slice A0 n ac] := (KC.below hW).row rG
  have GAW : GAt W g A0 n := hg.kc KW
  have HY : Hid (∀ k v W1, J k W1 → GenAt t g n b0 G k v W1 → YieldAt Fence.wide 1 Try.prog l #[.int .i64 (k : Int), v] W1 fun e W' =>
      (e = .returned (.bool true) ∧ J (k + 1) W' ∧ KC W1 W') ∨ (e = .returned (.bool false) ∧ Jx k W')) := hY
  have HJ : Hid (∀ k A B, J k A → A.grownBy B (some G) → J k B) := hJ
  have HJN : Hid (∀ k A, J k A → k < N) := hJN
  have HT : Hid (TAt w0 t HA NA hn nn sl) := hT
  have HOK : Hid (OkTG t g) := hok
  have HCL : Hid (g.cells.length = n) := hcl
  have OUT0 : Hid (NewOr A0 n b0 (G + 1)) := hO
  clear hO hY hJ hJN hT hok hcl rT rG hg h0w hW hl hl2
  gi_wp2
  gi_loopw [4] (fun p wr => ∃ (k : Nat) (A : Option Addr) (c : Nat), p = .int .i64 (k : Int) ∧ Aside (J k wr) ∧ Aside (KC w0 wr) ∧ Aside (Row wr T 25 [.int .i64 t.states, .slice HA hn hc, .slice NA nn nc]) ∧ Aside (Row wr G 28 [.int .i64 g.w, .int .i64 g.h, .int .i64 g.edge, .slice A n c]) ∧ Aside (GAt wr (genG t g k) A n) ∧ Aside (NewOr A n b0 (G + 1))) (fun p _ => N - (intOf p).toNat)
  case atStart => exact ⟨0, A0, ac, rfl, h0, KW, RTW, RGW, GAW, OUT0.out⟩
  case round =>
    obtain ⟨k, A, c, rfl, hj, KR, RT, RG, GA, GO⟩ := hrel
    have hkN := HJN.out k _ hj.out
    obtain ⟨fn, tmps, assign, body, hy, hR⟩ := HY.out k (.agg #[.int .i64 g.w, .int .i64 g.h, .int .i64 g.edge, .slice A n c]) wr hj.out ⟨A, c, rfl, GA.out, GO.out⟩
    have HR : Hid (RoundIn Fence.wide 1 Try.prog l fn tmps assign body wr _) := hR
    clear hR
    have k0 := RG.out.cell 0
    have k1 := RG.out.cell 1
    have k2 := RG.out.cell 2
    have k3 := RG.out.cell 3
    have kl := RG.out.lt
    simp only [List.getElem?_cons_zero, List.getElem?_cons_succ] at k0 k1 k2 k3
    gi_wp2
    refine HR.out.mono ?_
    rintro e W1 (⟨rfl, hj1, hk1⟩ | ⟨rfl, hjx⟩)
    · have RT1 : Hid (Row W1 T 25 [.int .i64 t.states, .slice HA hn hc, .slice NA nn nc]) := hk1.row RT.out
      have RG1 : Hid (Row W1 G 28 [.int .i64 g.w, .int .i64 g.h, .int .i64 g.edge, .slice A n c]) := hk1.row RG.out
      have GA1 : Hid (GAt W1 (genG t g k) A n) := GA.out.kc hk1
      have K1 : Hid (KC w0 W1) := KR.out.trans hk1
      have J1 : Hid (J (k + 1) W1) := hj1
      clear k0 k1 k2 k3 kl hj1 hk1 hy HR
      have p0 := RT1.out.cell 0
      have p1 := RT1.out.cell 1
      have p2 := RT1.out.cell 2
      have pl := RT1.out.lt
      simp only [List.getElem?_cons_zero, List.getElem?_cons_succ] at p0 p1 p2
      have k0 := RG1.out.cell 0
      have k1 := RG1.out.cell 1
      have k2 := RG1.out.cell 2
      have k3 := RG1.out.cell 3
      have kl := RG1.out.lt
      simp only [List.getElem?_cons_zero, List.getElem?_cons_succ] at k0 k1 k2 k3
      have HC := next_any t (genG t g k) HA NA A hn hc nn nc n c sl W1 (HT.out.kc K1.out) GA1.out (HOK.out.gen k)
      rw [(genG_shape t g k).1, (genG_shape t g k).2.1, (genG_shape t g k).2.2.1] at HC
      have HC1 : Hid (Calls Try.prog 30 _ W1 _) := HC
      clear HC
      gi_wp2
      refine ⟨trivial, (callsIn_wide.2 HC1.out).mono ?_⟩
      rintro e W2 ⟨gb, he, hrow, hgb, hb⟩
      have kl1 := RG1.out.lt
      clear HC1
      have HSH := genG_shape t g (k + 1)
      have he2 : e = .returned (.agg #[.int .i64 g.w, .int .i64 g.h, .int .i64 g.edge, .slice (some ⟨gb, 0, none⟩) n n]) := by
        rw [he, show nextG t (genG t g k) = genG t g (k + 1) from rfl, HSH.1, HSH.2.1, HSH.2.2.1, HSH.2.2.2, HCL.out]
      subst he2
      have HL2 : Hid ((genG t g (k + 1)).cells.length = n) := HSH.2.2.2.trans HCL.out
      clear HSH he
      have RT2 : Hid (Row W2 T 25 [.int .i64 t.states, .slice HA hn hc, .slice NA nn nc]) := rowCells RT1.out hb
      have RG2 : Hid (Row W2 G 28 [.int .i64 g.w, .int .i64 g.h, .int .i64 g.edge, .slice A n c]) := rowCells RG1.out hb
      have RN2 : Hid (Row W2 gb 3 (ints (genG t g (k + 1)).cells)) := hrow
      have K2 : Hid (KC w0 W2) := K1.out.trans (.below hb)
      have J2 : Hid (W1.grownBy W2 (some G)) := ⟨hb.os, hb.tape, hb.output, hb.size, fun j hj _ => hb.block j hj⟩
      have hgbG : gb ≠ G := row_types hrow RG2.out (by decide)
      clear hb hrow
      have kf0 := RG2.out.frozen 0
      have kf1 := RG2.out.frozen 1
      have kf2 := RG2.out.frozen 2
      have kf3 := RG2.out.frozen 3
      have q0 := RG2.out.cell 0
      have q1 := RG2.out.cell 1
      have q2 := RG2.out.cell 2
      have q3 := RG2.out.cell 3
      have ql := RG2.out.lt
      simp only [List.getElem?_cons_zero, List.getElem?_cons_succ] at q0 q1 q2 q3
      gi_wp2
      refine ⟨⟨k + 1, some ⟨gb, 0, none⟩, n, by push_cast; rfl, ?_, ?_, ?_, ?_, ?_, ?_⟩, ?_⟩
      · exact HJ.out _ _ _ J1.out (grown_setG (grown_setG (grown_setG (grown_setG J2.out 0 _) 1 _) 2 _) 3 _)
      · exact (((K2.out.setNew (p := ⟨G, 0, none⟩) hG0 _).setNew (p := ⟨G, 1, none⟩) hG0 _).setNew (p := ⟨G, 2, none⟩) hG0 _).setNew (p := ⟨G, 3, none⟩) hG0 _
      · exact (((RT2.out.far (p := ⟨G, 0, none⟩) hTG _).far (p := ⟨G, 1, none⟩) hTG _).far (p := ⟨G, 2, none⟩) hTG _).far (p := ⟨G, 3, none⟩) hTG _
      · exact (((RG2.out.set 0 _).set 1 _).set 2 _).set 3 _
      · exact ⟨((((RN2.out.far (p := ⟨G, 0, none⟩) hgbG _).far (p := ⟨G, 1, none⟩) hgbG _).far (p := ⟨G, 2, none⟩) hgbG _).far (p := ⟨G, 3, none⟩) hgbG _).rd (by simp [ints, HL2.out]), GA1.out.c63⟩
      · exact fun ad e _ => by cases e; exact .inr (Nat.lt_of_lt_of_le kl1 hgb)
      · show N - ((k : Int) + 1).toNat < N - ((k : Int)).toNat
        omega
    · clear k0 k1 k2 k3 kl
      gi_wp2
      refine bodyPost_end (results_none rfl _ _ _) rfl ?_
      exact ⟨⟨_, rfl⟩, k, hjx⟩
end Go.Proofs.Ytdkfaphclhaiaaa
