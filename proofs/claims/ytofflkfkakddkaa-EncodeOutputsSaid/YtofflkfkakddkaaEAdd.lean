/-
  add, gate and the reference's Clauses, walked.
-/
import Derived.Test.YtofflkfkakddkaaEVars
namespace Go.Proofs.Ytofflkfkakddkaa
open Go.RowKit
set_option linter.unusedSimpArgs false
set_option linter.unusedVariables false
/-- What a call returns that returns a formula that has grown: its clauses are owned. -/
def AddPost (V : Int) (base lo : Nat) (cls : List (List Int)) (row : Option Nat) (w : World) (e : Ending) (w' : World) : Prop :=
  ∃ (A : Option Addr) (n c : Nat) (sl : List Sl), e = .returned (.agg #[.int .i64 V, .slice A n c]) ∧ cls.length = n ∧ EOwn w' base lo (.slice A n c) sl cls ∧ w.grownBy w' row ∧ ((Value.slice A n c).ownBlock = row ∨ ∃ k, (Value.slice A n c).ownBlock = some k ∧ w.heap.size ≤ k)

set_option maxRecDepth 100000 in
set_option maxHeartbeats 2000000 in
theorem add_any (V : Int) (A : Option Addr) (n c base lo : Nat) (sl : List Sl) (cls : List (List Int)) (CA : Option Addr) (m mc : Nat) (sn : List Sl) (news : List (List Int)) (w : World)
    (h : EOwn w base lo (.slice A n c) sl cls) (hn : cls.length = n) (hr : Rd w w.heap.size 1 CA m (slCells sn)) (hl : sn.length = news.length) (hi : ∀ i, i < news.length → InAt w base lo (sn.getD i default) (news.getD i [])) (hB : base ≤ w.heap.size) (hb : n + m ≤ 1000000) :
    Calls Try.prog 36 #[.agg #[.int .i64 V, .slice A n c], .slice CA m mc] w (AddPost V base lo (cls ++ news) (Value.slice A n c).ownBlock w) := by
  have H : Hid (EOwn w base lo (.slice A n c) sl cls) := h
  have HO : Hid (w.ownsRow base 23 1 (.slice A n c) n (slCells sl)) := (by have := h.own; rw [hn] at this; exact this)
  have HR : Hid (Rd w w.heap.size 1 CA m (slCells sn)) := hr
  have HI : Hid (sn.length = news.length ∧ ∀ i, i < news.length → InAt w base lo (sn.getD i default) (news.getD i [])) := ⟨hl, hi⟩
  have HN : Hid (cls.length = n ∧ news.length = m) := by
    have := hr.1
    rw [slCells_length] at this
    exact ⟨hn, by omega⟩
  have HB : Hid (base ≤ w.heap.size) := hB
  clear h hn hr hl hi
  go_enter Try.func36, Try.ntmps36
  go_wp2_with (at_builtin; refine wpList_app rfl (.tmp 6) (.tmp 7) 28 rfl base 23 (.slice none 0 0) 1 24 Try.underlying28 row_infoE rfl (by decide) (by decide) (.slice A n c) n (slCells sl) rfl ?own w.heap.size CA m mc (slCells sn) rfl ?rd (slCells_one _) ?hb ?hbase ?_)
  case own => exact (HO.out.alloc _).alloc _
  case rd => exact (HR.out.alloc (Nat.le_refl _) _).alloc (by simp) _
  case hb => omega
  case hbase => first | (simp; omega) | omega
  intro v' w' hown' hgrow' hat'
  obtain ⟨VA, vc, rfl, _⟩ := Rd.own hown'
  have RB0 : Hid (Row ((w.alloc (.cells #[.int .i64 V, .slice A n c] 30)).alloc (.cells #[.int .i64 0, .slice none 0 0] 30)) w.heap.size 30 [.int .i64 V, .slice A n c]) := (Row.new w 30 [.int .i64 V, .slice A n c]).alloc _
  have RZ0 : Hid (Row ((w.alloc (.cells #[.int .i64 V, .slice A n c] 30)).alloc (.cells #[.int .i64 0, .slice none 0 0] 30)) (w.heap.size + 1) 30 [.int .i64 0, .slice none 0 0]) := rowNew1 w _ 30 [.int .i64 0, .slice none 0 0]
  have HB0 : Hid (Below w.heap.size w ((w.alloc (.cells #[.int .i64 V, .slice A n c] 30)).alloc (.cells #[.int .i64 0, .slice none 0 0] 30))) := (show Below _ _ _ by go_grown)
  have HG0 : Hid (w.grownBy ((w.alloc (.cells #[.int .i64 V, .slice A n c] 30)).alloc (.cells #[.int .i64 0, .slice none 0 0] 30)) (Value.slice A n c).ownBlock) := (World.grownBy_alloc _ _ _).trans (World.grownBy_alloc _ _ _)
  have HS0 : Hid (((w.alloc (.cells #[.int .i64 V, .slice A n c] 30)).alloc (.cells #[.int .i64 0, .slice none 0 0] 30)).heap.size = w.heap.size + 2) := (by show _ = _; simp)
  have HGW : Hid (World.grownBy _ w' (Value.slice A n c).ownBlock) := hgrow'
  have HOW : Hid (w'.ownsRow base 23 1 (.slice VA (n + m) vc) (n + m) (slCells sl ++ slCells sn)) := hown'
  have HAT : Hid ((Value.slice VA (n + m) vc).ownBlock = (Value.slice A n c).ownBlock ∨ _) := hat'
  clear hown' hgrow' hat'
  revert RB0 RZ0 HB0 HG0 HS0 HGW HAT
  generalize ((w.alloc (.cells #[.int .i64 V, .slice A n c] 30)).alloc (.cells #[.int .i64 0, .slice none 0 0] 30)) = w0
  intro RB0 RZ0 HB0 HG0 HS0 HGW HAT
  have hno : Hid (∀ (g : Nat) (xs : List Value), Row w0 g 30 xs → Row w' g 30 xs) := fun g xs hx => hx.grown HGW.out (fun e => own_ne_row (own_below HO.out HB0.out (Nat.le_refl _)) hx (by decide) e.symm)
  have RB : Hid (Row w' w.heap.size 30 [.int .i64 V, .slice A n c]) := hno.out _ _ RB0.out
  have RZ : Hid (Row w' (w.heap.size + 1) 30 [.int .i64 0, .slice none 0 0]) := hno.out _ _ RZ0.out
  have EA : Hid (EOwn w' base lo (.slice VA (n + m) vc) (sl ++ sn) (cls ++ news)) := by
    refine (H.out.up HB.out HB0.out).app (by rw [HS0.out]; have := HB.out; omega) HI.out.1 (fun i hi => (HI.out.2 i hi).up HB.out HB0.out) HGW.out ?_
    rw [HN.out.1, HN.out.2]
    exact HOW.out
  have HG : Hid (w.grownBy w' (Value.slice A n c).ownBlock) := HG0.out.trans HGW.out
  have k0 := RB.out.cell 0
  have k1 := RB.out.cell 1
  have kl := RB.out.lt
  simp only [List.getElem?_cons_zero, List.getElem?_cons_succ] at k0 k1
  have d0 := RZ.out.cell 0
  have d1 := RZ.out.cell 1
  have dl := RZ.out.lt
  simp only [List.getElem?_cons_zero, List.getElem?_cons_succ] at d0 d1
  have kf0 := RB.out.frozen 0
  have kf1 := RB.out.frozen 1
  have f0 := RZ.out.frozen 0
  have f1 := RZ.out.frozen 1
  go_wp2
  have B1 := RB.out.set 1 (.slice VA (n + m) vc)
  have Z1 := RZ.out.far (p := ⟨w.heap.size, 1, none⟩) (by show w.heap.size + 1 ≠ w.heap.size; omega) (.slice VA (n + m) vc)
  have Z2 := Z1.set 0 (.int .i64 V)
  have Z3 := Z2.set 1 (.slice VA (n + m) vc)
  have E1 := EA.out.far (p := ⟨w.heap.size, 1, none⟩) RB.out (by decide) (by decide) HB.out (.slice VA (n + m) vc)
  have E2 := E1.far (p := ⟨w.heap.size + 1, 0, none⟩) Z1 (by decide) (by decide) (Nat.le_succ_of_le HB.out) (.int .i64 V)
  have E3 := E2.far (p := ⟨w.heap.size + 1, 1, none⟩) Z2 (by decide) (by decide) (Nat.le_succ_of_le HB.out) (.slice VA (n + m) vc)
  have G3 := grown_setNew (grown_setNew (grown_setNew HG.out (p := ⟨w.heap.size, 1, none⟩) (Nat.le_refl _) (.slice VA (n + m) vc)) (p := ⟨w.heap.size + 1, 0, none⟩) (Nat.le_succ _) (.int .i64 V)) (p := ⟨w.heap.size + 1, 1, none⟩) (Nat.le_succ _) (.slice VA (n + m) vc)
  have r0 := Z3.cell 0
  have r1 := Z3.cell 1
  simp only [List.getElem?_cons_zero, List.getElem?_cons_succ, List.set_cons_zero, List.set_cons_succ] at r0 r1
  clear B1 Z1 Z2 Z3 E1 E2
  revert E3 G3 r0 r1
  generalize ((w'.setCell ⟨w.heap.size, 1, none⟩ (.slice VA (n + m) vc)).setCell ⟨w.heap.size + 1, 0, none⟩ (.int .i64 V)).setCell ⟨w.heap.size + 1, 1, none⟩ (.slice VA (n + m) vc) = wz
  intro E3 G3 r0 r1
  refine bodyPost_ret (v := .agg #[.int .i64 V, .slice VA (n + m) vc]) (by simp [results, Try.results36, go_sem, r0, r1]) rfl ⟨VA, n + m, vc, _, rfl, by rw [List.length_append, HN.out.1, HN.out.2], E3, G3, ?_⟩
  rcases HAT.out with e | e
  · exact .inl e
  · exact .inr ⟨_, e, by omega⟩
theorem below_grown {w w' : World} (hb : Below w.heap.size w w') (row : Option Nat) : w.grownBy w' row := ⟨hb.os, hb.tape, hb.output, hb.size, fun k hk _ => hb.block k hk⟩
set_option maxRecDepth 100000 in
set_option maxHeartbeats 4000000 in
theorem gate_any (V op g a b : Int) (A : Option Addr) (n c base lo : Nat) (sl : List Sl) (cls : List (List Int)) (w : World)
    (h : EOwn w base lo (.slice A n c) sl cls) (hn : cls.length = n) (hB : base ≤ w.heap.size) (hlo : lo ≤ w.heap.size) (hb : n ≤ 900000) (hop : op = 0 ∨ op = 1 ∨ op = 2 ∨ op = 3 ∨ op = 4 ∨ op = 5)
    (g1 : -1000000 ≤ g) (g2 : g ≤ 1000000) (a1 : -1000000 ≤ a) (a2 : a ≤ 1000000) (b1 : -1000000 ≤ b) (b2 : b ≤ 1000000) :
    Calls Try.prog 32 #[.agg #[.int .i64 V, .slice A n c], .int .i64 op, .int .i64 g, .int .i64 a, .int .i64 b] w (AddPost V base lo (cls ++ clausesF op g a b) (Value.slice A n c).ownBlock w) := by
  have H : Hid (EOwn w base lo (.slice A n c) sl cls) := h
  have HN : Hid (cls.length = n) := hn
  have HB : Hid (base ≤ w.heap.size) := hB
  clear h hn hB
  rcases hop with rfl | rfl | rfl | rfl | rfl | rfl
  all_goals go_enter Try.func32, Try.ntmps32
  · go_wp2_with fail
    have RF : Hid (Row (World.alloc (World.alloc (World.alloc (World.alloc w (.cells #[.int .i64 V, .slice A n c] 30)) (.cells #[.int .i64 0, .slice none 0 0] 30)) (.cells #[.int .i64 (-g)] 3)) (.cells #[.slice (some ⟨w.heap.size + 1 + 1, 0, none⟩) 1 1] 23)) (w.heap.size) 30 [.int .i64 V, .slice A n c]) := by
      have h0 := Row.new w 30 [.int .i64 V, .slice A n c]
      try simp only [World.size_alloc] at h0
      exact (((h0.alloc _).alloc _).alloc _)
    have RZ : Hid (Row (World.alloc (World.alloc (World.alloc (World.alloc w (.cells #[.int .i64 V, .slice A n c] 30)) (.cells #[.int .i64 0, .slice none 0 0] 30)) (.cells #[.int .i64 (-g)] 3)) (.cells #[.slice (some ⟨w.heap.size + 1 + 1, 0, none⟩) 1 1] 23)) (w.heap.size + 1) 30 [.int .i64 0, .slice none 0 0]) := by
      have h0 := Row.new (World.alloc w (.cells #[.int .i64 V, .slice A n c] 30)) 30 [.int .i64 0, .slice none 0 0]
      try simp only [World.size_alloc] at h0
      exact ((h0.alloc _).alloc _)
    have R0 : Hid (Row (World.alloc (World.alloc (World.alloc (World.alloc w (.cells #[.int .i64 V, .slice A n c] 30)) (.cells #[.int .i64 0, .slice none 0 0] 30)) (.cells #[.int .i64 (-g)] 3)) (.cells #[.slice (some ⟨w.heap.size + 1 + 1, 0, none⟩) 1 1] 23)) (w.heap.size + 1 + 1) 3 [.int .i64 (-g)]) := by
      have h0 := Row.new (World.alloc (World.alloc w (.cells #[.int .i64 V, .slice A n c] 30)) (.cells #[.int .i64 0, .slice none 0 0] 30)) 3 [.int .i64 (-g)]
      try simp only [World.size_alloc] at h0
      exact (h0.alloc _)
    have RO : Hid (Row (World.alloc (World.alloc (World.alloc (World.alloc w (.cells #[.int .i64 V, .slice A n c] 30)) (.cells #[.int .i64 0, .slice none 0 0] 30)) (.cells #[.int .i64 (-g)] 3)) (.cells #[.slice (some ⟨w.heap.size + 1 + 1, 0, none⟩) 1 1] 23)) (w.heap.size + 1 + 1 + 1) 23 [.slice (some ⟨w.heap.size + 1 + 1, 0, none⟩) 1 1]) := by
      have h0 := Row.new (World.alloc (World.alloc (World.alloc w (.cells #[.int .i64 V, .slice A n c] 30)) (.cells #[.int .i64 0, .slice none 0 0] 30)) (.cells #[.int .i64 (-g)] 3)) 23 [.slice (some ⟨w.heap.size + 1 + 1, 0, none⟩) 1 1]
      try simp only [World.size_alloc] at h0
      exact h0
    have hgr9 : Below w.heap.size w (World.alloc (World.alloc (World.alloc (World.alloc w (.cells #[.int .i64 V, .slice A n c] 30)) (.cells #[.int .i64 0, .slice none 0 0] 30)) (.cells #[.int .i64 (-g)] 3)) (.cells #[.slice (some ⟨w.heap.size + 1 + 1, 0, none⟩) 1 1] 23)) := by go_grown
    have B_w : Hid (Below w.heap.size w (World.alloc (World.alloc (World.alloc (World.alloc w (.cells #[.int .i64 V, .slice A n c] 30)) (.cells #[.int .i64 0, .slice none 0 0] 30)) (.cells #[.int .i64 (-g)] 3)) (.cells #[.slice (some ⟨w.heap.size + 1 + 1, 0, none⟩) 1 1] 23))) := hgr9
    clear hgr9
    revert RF RZ R0 RO B_w
    generalize (World.alloc (World.alloc (World.alloc (World.alloc w (.cells #[.int .i64 V, .slice A n c] 30)) (.cells #[.int .i64 0, .slice none 0 0] 30)) (.cells #[.int .i64 (-g)] 3)) (.cells #[.slice (some ⟨w.heap.size + 1 + 1, 0, none⟩) 1 1] 23)) = wa
    intro RF RZ R0 RO B_w
    have EW : Hid (EOwn wa base lo (.slice A n c) sl cls) := H.out.up HB.out B_w.out
    have hszb : base ≤ wa.heap.size := Nat.le_trans HB.out B_w.out.size
    refine (add_any V A n c base lo sl cls (some ⟨w.heap.size + 1 + 1 + 1, 0, none⟩) 1 1 [⟨some ⟨w.heap.size + 1 + 1, 0, none⟩, 1, 1⟩] [[-g]] wa EW.out HN.out (RO.out.rd rfl) rfl ?_ hszb (by omega)).mono ?_
    · intro i hi
      have hc : i = 0 := by simp at hi; omega
      rcases hc with rfl
      exact ⟨.inr ⟨_, (by omega), rfl, rfl, R0.out⟩, by show 1 ≤ maxLen; unfold maxLen; omega⟩
    rintro e w1 ⟨XA, xn, xc, sl', rfl, hlen, hE, hG, hat⟩
    have RZ1 : Hid (Row w1 (w.heap.size + 1) 30 [.int .i64 0, .slice none 0 0]) := RZ.out.grown hG (fun e => own_ne_row EW.out.own RZ.out (by decide) e.symm)
    have HE : Hid (EOwn w1 base lo (.slice XA xn xc) sl' (cls ++ [[-g]])) := hE
    have HG1 : Hid (w.grownBy w1 (Value.slice A n c).ownBlock) := (below_grown B_w.out _).trans hG
    have HLN : Hid ((cls ++ [[-g]]).length = xn) := hlen
    have HAT : Hid ((Value.slice XA xn xc).ownBlock = (Value.slice A n c).ownBlock ∨ ∃ k, (Value.slice XA xn xc).ownBlock = some k ∧ w.heap.size ≤ k) := hat.imp id (fun ⟨k, e1, e2⟩ => ⟨k, e1, Nat.le_trans B_w.out.size e2⟩)
    clear hE hG hlen hat EW RF RZ RO B_w hszb R0
    have d0 := RZ1.out.cell 0
    have d1 := RZ1.out.cell 1
    have dl := RZ1.out.lt
    simp only [List.getElem?_cons_zero, List.getElem?_cons_succ] at d0 d1
    have f0 := RZ1.out.frozen 0
    have f1 := RZ1.out.frozen 1
    go_wp2
    have Z1 := RZ1.out.set 0 (.int .i64 V)
    have Z2 := Z1.set 1 (.slice XA xn xc)
    have E1 := HE.out.far (p := ⟨w.heap.size + 1, 0, none⟩) RZ1.out (by decide) (by decide) (Nat.le_succ_of_le HB.out) (.int .i64 V)
    have E2 := E1.far (p := ⟨w.heap.size + 1, 1, none⟩) Z1 (by decide) (by decide) (Nat.le_succ_of_le HB.out) (.slice XA xn xc)
    have G2 := grown_setNew (grown_setNew HG1.out (p := ⟨w.heap.size + 1, 0, none⟩) (Nat.le_succ _) (.int .i64 V)) (p := ⟨w.heap.size + 1, 1, none⟩) (Nat.le_succ _) (.slice XA xn xc)
    have r0 := Z2.cell 0
    have r1 := Z2.cell 1
    simp only [List.getElem?_cons_zero, List.getElem?_cons_succ, List.set_cons_zero, List.set_cons_succ] at r0 r1
    clear Z1 Z2 E1
    revert E2 G2 r0 r1
    generalize (w1.setCell ⟨w.heap.size + 1, 0, none⟩ (.int .i64 V)).setCell ⟨w.heap.size + 1, 1, none⟩ (.slice XA xn xc) = wz
    intro E2 G2 r0 r1
    exact bodyPost_ret (v := .agg #[.int .i64 V, .slice XA xn xc]) (by simp [results, Try.results32, go_sem, r0, r1]) rfl ⟨XA, xn, xc, sl', rfl, HLN.out, E2, G2, HAT.out⟩
  · go_wp2_with fail
    have RF : Hid (Row (World.alloc (World.alloc (World.alloc (World.alloc w (.cells #[.int .i64 V, .slice A n c] 30)) (.cells #[.int .i64 0, .slice none 0 0] 30)) (.cells #[.int .i64 g] 3)) (.cells #[.slice (some ⟨w.heap.size + 1 + 1, 0, none⟩) 1 1] 23)) (w.heap.size) 30 [.int .i64 V, .slice A n c]) := by
      have h0 := Row.new w 30 [.int .i64 V, .slice A n c]
      try simp only [World.size_alloc] at h0
      exact (((h0.alloc _).alloc _).alloc _)
    have RZ : Hid (Row (World.alloc (World.alloc (World.alloc (World.alloc w (.cells #[.int .i64 V, .slice A n c] 30)) (.cells #[.int .i64 0, .slice none 0 0] 30)) (.cells #[.int .i64 g] 3)) (.cells #[.slice (some ⟨w.heap.size + 1 + 1, 0, none⟩) 1 1] 23)) (w.heap.size + 1) 30 [.int .i64 0, .slice none 0 0]) := by
      have h0 := Row.new (World.alloc w (.cells #[.int .i64 V, .slice A n c] 30)) 30 [.int .i64 0, .slice none 0 0]
      try simp only [World.size_alloc] at h0
      exact ((h0.alloc _).alloc _)
    have R0 : Hid (Row (World.alloc (World.alloc (World.alloc (World.alloc w (.cells #[.int .i64 V, .slice A n c] 30)) (.cells #[.int .i64 0, .slice none 0 0] 30)) (.cells #[.int .i64 g] 3)) (.cells #[.slice (some ⟨w.heap.size + 1 + 1, 0, none⟩) 1 1] 23)) (w.heap.size + 1 + 1) 3 [.int .i64 g]) := by
      have h0 := Row.new (World.alloc (World.alloc w (.cells #[.int .i64 V, .slice A n c] 30)) (.cells #[.int .i64 0, .slice none 0 0] 30)) 3 [.int .i64 g]
      try simp only [World.size_alloc] at h0
      exact (h0.alloc _)
    have RO : Hid (Row (World.alloc (World.alloc (World.alloc (World.alloc w (.cells #[.int .i64 V, .slice A n c] 30)) (.cells #[.int .i64 0, .slice none 0 0] 30)) (.cells #[.int .i64 g] 3)) (.cells #[.slice (some ⟨w.heap.size + 1 + 1, 0, none⟩) 1 1] 23)) (w.heap.size + 1 + 1 + 1) 23 [.slice (some ⟨w.heap.size + 1 + 1, 0, none⟩) 1 1]) := by
      have h0 := Row.new (World.alloc (World.alloc (World.alloc w (.cells #[.int .i64 V, .slice A n c] 30)) (.cells #[.int .i64 0, .slice none 0 0] 30)) (.cells #[.int .i64 g] 3)) 23 [.slice (some ⟨w.heap.size + 1 + 1, 0, none⟩) 1 1]
      try simp only [World.size_alloc] at h0
      exact h0
    have hgr9 : Below w.heap.size w (World.alloc (World.alloc (World.alloc (World.alloc w (.cells #[.int .i64 V, .slice A n c] 30)) (.cells #[.int .i64 0, .slice none 0 0] 30)) (.cells #[.int .i64 g] 3)) (.cells #[.slice (some ⟨w.heap.size + 1 + 1, 0, none⟩) 1 1] 23)) := by go_grown
    have B_w : Hid (Below w.heap.size w (World.alloc (World.alloc (World.alloc (World.alloc w (.cells #[.int .i64 V, .slice A n c] 30)) (.cells #[.int .i64 0, .slice none 0 0] 30)) (.cells #[.int .i64 g] 3)) (.cells #[.slice (some ⟨w.heap.size + 1 + 1, 0, none⟩) 1 1] 23))) := hgr9
    clear hgr9
    revert RF RZ R0 RO B_w
    generalize (World.alloc (World.alloc (World.alloc (World.alloc w (.cells #[.int .i64 V, .slice A n c] 30)) (.cells #[.int .i64 0, .slice none 0 0] 30)) (.cells #[.int .i64 g] 3)) (.cells #[.slice (some ⟨w.heap.size + 1 + 1, 0, none⟩) 1 1] 23)) = wa
    intro RF RZ R0 RO B_w
    have EW : Hid (EOwn wa base lo (.slice A n c) sl cls) := H.out.up HB.out B_w.out
    have hszb : base ≤ wa.heap.size := Nat.le_trans HB.out B_w.out.size
    refine (add_any V A n c base lo sl cls (some ⟨w.heap.size + 1 + 1 + 1, 0, none⟩) 1 1 [⟨some ⟨w.heap.size + 1 + 1, 0, none⟩, 1, 1⟩] [[g]] wa EW.out HN.out (RO.out.rd rfl) rfl ?_ hszb (by omega)).mono ?_
    · intro i hi
      have hc : i = 0 := by simp at hi; omega
      rcases hc with rfl
      exact ⟨.inr ⟨_, (by omega), rfl, rfl, R0.out⟩, by show 1 ≤ maxLen; unfold maxLen; omega⟩
    rintro e w1 ⟨XA, xn, xc, sl', rfl, hlen, hE, hG, hat⟩
    have RZ1 : Hid (Row w1 (w.heap.size + 1) 30 [.int .i64 0, .slice none 0 0]) := RZ.out.grown hG (fun e => own_ne_row EW.out.own RZ.out (by decide) e.symm)
    have HE : Hid (EOwn w1 base lo (.slice XA xn xc) sl' (cls ++ [[g]])) := hE
    have HG1 : Hid (w.grownBy w1 (Value.slice A n c).ownBlock) := (below_grown B_w.out _).trans hG
    have HLN : Hid ((cls ++ [[g]]).length = xn) := hlen
    have HAT : Hid ((Value.slice XA xn xc).ownBlock = (Value.slice A n c).ownBlock ∨ ∃ k, (Value.slice XA xn xc).ownBlock = some k ∧ w.heap.size ≤ k) := hat.imp id (fun ⟨k, e1, e2⟩ => ⟨k, e1, Nat.le_trans B_w.out.size e2⟩)
    clear hE hG hlen hat EW RF RZ RO B_w hszb R0
    have d0 := RZ1.out.cell 0
    have d1 := RZ1.out.cell 1
    have dl := RZ1.out.lt
    simp only [List.getElem?_cons_zero, List.getElem?_cons_succ] at d0 d1
    have f0 := RZ1.out.frozen 0
    have f1 := RZ1.out.frozen 1
    go_wp2
    have Z1 := RZ1.out.set 0 (.int .i64 V)
    have Z2 := Z1.set 1 (.slice XA xn xc)
    have E1 := HE.out.far (p := ⟨w.heap.size + 1, 0, none⟩) RZ1.out (by decide) (by decide) (Nat.le_succ_of_le HB.out) (.int .i64 V)
    have E2 := E1.far (p := ⟨w.heap.size + 1, 1, none⟩) Z1 (by decide) (by decide) (Nat.le_succ_of_le HB.out) (.slice XA xn xc)
    have G2 := grown_setNew (grown_setNew HG1.out (p := ⟨w.heap.size + 1, 0, none⟩) (Nat.le_succ _) (.int .i64 V)) (p := ⟨w.heap.size + 1, 1, none⟩) (Nat.le_succ _) (.slice XA xn xc)
    have r0 := Z2.cell 0
    have r1 := Z2.cell 1
    simp only [List.getElem?_cons_zero, List.getElem?_cons_succ, List.set_cons_zero, List.set_cons_succ] at r0 r1
    clear Z1 Z2 E1
    revert E2 G2 r0 r1
    generalize (w1.setCell ⟨w.heap.size + 1, 0, none⟩ (.int .i64 V)).setCell ⟨w.heap.size + 1, 1, none⟩ (.slice XA xn xc) = wz
    intro E2 G2 r0 r1
    exact bodyPost_ret (v := .agg #[.int .i64 V, .slice XA xn xc]) (by simp [results, Try.results32, go_sem, r0, r1]) rfl ⟨XA, xn, xc, sl', rfl, HLN.out, E2, G2, HAT.out⟩
  · go_wp2_with fail
    have RF : Hid (Row (World.alloc (World.alloc (World.alloc (World.alloc (World.alloc w (.cells #[.int .i64 V, .slice A n c] 30)) (.cells #[.int .i64 0, .slice none 0 0] 30)) (.cells #[.int .i64 g, .int .i64 a] 3)) (.cells #[.int .i64 (-g), .int .i64 (-a)] 3)) (.cells #[.slice (some ⟨w.heap.size + 1 + 1, 0, none⟩) 2 2, .slice (some ⟨w.heap.size + 1 + 1 + 1, 0, none⟩) 2 2] 23)) (w.heap.size) 30 [.int .i64 V, .slice A n c]) := by
      have h0 := Row.new w 30 [.int .i64 V, .slice A n c]
      try simp only [World.size_alloc] at h0
      exact ((((h0.alloc _).alloc _).alloc _).alloc _)
    have RZ : Hid (Row (World.alloc (World.alloc (World.alloc (World.alloc (World.alloc w (.cells #[.int .i64 V, .slice A n c] 30)) (.cells #[.int .i64 0, .slice none 0 0] 30)) (.cells #[.int .i64 g, .int .i64 a] 3)) (.cells #[.int .i64 (-g), .int .i64 (-a)] 3)) (.cells #[.slice (some ⟨w.heap.size + 1 + 1, 0, none⟩) 2 2, .slice (some ⟨w.heap.size + 1 + 1 + 1, 0, none⟩) 2 2] 23)) (w.heap.size + 1) 30 [.int .i64 0, .slice none 0 0]) := by
      have h0 := Row.new (World.alloc w (.cells #[.int .i64 V, .slice A n c] 30)) 30 [.int .i64 0, .slice none 0 0]
      try simp only [World.size_alloc] at h0
      exact (((h0.alloc _).alloc _).alloc _)
    have R0 : Hid (Row (World.alloc (World.alloc (World.alloc (World.alloc (World.alloc w (.cells #[.int .i64 V, .slice A n c] 30)) (.cells #[.int .i64 0, .slice none 0 0] 30)) (.cells #[.int .i64 g, .int .i64 a] 3)) (.cells #[.int .i64 (-g), .int .i64 (-a)] 3)) (.cells #[.slice (some ⟨w.heap.size + 1 + 1, 0, none⟩) 2 2, .slice (some ⟨w.heap.size + 1 + 1 + 1, 0, none⟩) 2 2] 23)) (w.heap.size + 1 + 1) 3 [.int .i64 g, .int .i64 a]) := by
      have h0 := Row.new (World.alloc (World.alloc w (.cells #[.int .i64 V, .slice A n c] 30)) (.cells #[.int .i64 0, .slice none 0 0] 30)) 3 [.int .i64 g, .int .i64 a]
      try simp only [World.size_alloc] at h0
      exact ((h0.alloc _).alloc _)
    have R1 : Hid (Row (World.alloc (World.alloc (World.alloc (World.alloc (World.alloc w (.cells #[.int .i64 V, .slice A n c] 30)) (.cells #[.int .i64 0, .slice none 0 0] 30)) (.cells #[.int .i64 g, .int .i64 a] 3)) (.cells #[.int .i64 (-g), .int .i64 (-a)] 3)) (.cells #[.slice (some ⟨w.heap.size + 1 + 1, 0, none⟩) 2 2, .slice (some ⟨w.heap.size + 1 + 1 + 1, 0, none⟩) 2 2] 23)) (w.heap.size + 1 + 1 + 1) 3 [.int .i64 (-g), .int .i64 (-a)]) := by
      have h0 := Row.new (World.alloc (World.alloc (World.alloc w (.cells #[.int .i64 V, .slice A n c] 30)) (.cells #[.int .i64 0, .slice none 0 0] 30)) (.cells #[.int .i64 g, .int .i64 a] 3)) 3 [.int .i64 (-g), .int .i64 (-a)]
      try simp only [World.size_alloc] at h0
      exact (h0.alloc _)
    have RO : Hid (Row (World.alloc (World.alloc (World.alloc (World.alloc (World.alloc w (.cells #[.int .i64 V, .slice A n c] 30)) (.cells #[.int .i64 0, .slice none 0 0] 30)) (.cells #[.int .i64 g, .int .i64 a] 3)) (.cells #[.int .i64 (-g), .int .i64 (-a)] 3)) (.cells #[.slice (some ⟨w.heap.size + 1 + 1, 0, none⟩) 2 2, .slice (some ⟨w.heap.size + 1 + 1 + 1, 0, none⟩) 2 2] 23)) (w.heap.size + 1 + 1 + 1 + 1) 23 [.slice (some ⟨w.heap.size + 1 + 1, 0, none⟩) 2 2, .slice (some ⟨w.heap.size + 1 + 1 + 1, 0, none⟩) 2 2]) := by
      have h0 := Row.new (World.alloc (World.alloc (World.alloc (World.alloc w (.cells #[.int .i64 V, .slice A n c] 30)) (.cells #[.int .i64 0, .slice none 0 0] 30)) (.cells #[.int .i64 g, .int .i64 a] 3)) (.cells #[.int .i64 (-g), .int .i64 (-a)] 3)) 23 [.slice (some ⟨w.heap.size + 1 + 1, 0, none⟩) 2 2, .slice (some ⟨w.heap.size + 1 + 1 + 1, 0, none⟩) 2 2]
      try simp only [World.size_alloc] at h0
      exact h0
    have hgr9 : Below w.heap.size w (World.alloc (World.alloc (World.alloc (World.alloc (World.alloc w (.cells #[.int .i64 V, .slice A n c] 30)) (.cells #[.int .i64 0, .slice none 0 0] 30)) (.cells #[.int .i64 g, .int .i64 a] 3)) (.cells #[.int .i64 (-g), .int .i64 (-a)] 3)) (.cells #[.slice (some ⟨w.heap.size + 1 + 1, 0, none⟩) 2 2, .slice (some ⟨w.heap.size + 1 + 1 + 1, 0, none⟩) 2 2] 23)) := by go_grown
    have B_w : Hid (Below w.heap.size w (World.alloc (World.alloc (World.alloc (World.alloc (World.alloc w (.cells #[.int .i64 V, .slice A n c] 30)) (.cells #[.int .i64 0, .slice none 0 0] 30)) (.cells #[.int .i64 g, .int .i64 a] 3)) (.cells #[.int .i64 (-g), .int .i64 (-a)] 3)) (.cells #[.slice (some ⟨w.heap.size + 1 + 1, 0, none⟩) 2 2, .slice (some ⟨w.heap.size + 1 + 1 + 1, 0, none⟩) 2 2] 23))) := hgr9
    clear hgr9
    revert RF RZ R0 R1 RO B_w
    generalize (World.alloc (World.alloc (World.alloc (World.alloc (World.alloc w (.cells #[.int .i64 V, .slice A n c] 30)) (.cells #[.int .i64 0, .slice none 0 0] 30)) (.cells #[.int .i64 g, .int .i64 a] 3)) (.cells #[.int .i64 (-g), .int .i64 (-a)] 3)) (.cells #[.slice (some ⟨w.heap.size + 1 + 1, 0, none⟩) 2 2, .slice (some ⟨w.heap.size + 1 + 1 + 1, 0, none⟩) 2 2] 23)) = wa
    intro RF RZ R0 R1 RO B_w
    have EW : Hid (EOwn wa base lo (.slice A n c) sl cls) := H.out.up HB.out B_w.out
    have hszb : base ≤ wa.heap.size := Nat.le_trans HB.out B_w.out.size
    refine (add_any V A n c base lo sl cls (some ⟨w.heap.size + 1 + 1 + 1 + 1, 0, none⟩) 2 2 [⟨some ⟨w.heap.size + 1 + 1, 0, none⟩, 2, 2⟩, ⟨some ⟨w.heap.size + 1 + 1 + 1, 0, none⟩, 2, 2⟩] [[g, a], [-g, -a]] wa EW.out HN.out (RO.out.rd rfl) rfl ?_ hszb (by omega)).mono ?_
    · intro i hi
      have hc : i = 0 ∨ i = 1 := by simp at hi; omega
      rcases hc with rfl | rfl
      · exact ⟨.inr ⟨_, (by omega), rfl, rfl, R0.out⟩, by show 2 ≤ maxLen; unfold maxLen; omega⟩
      · exact ⟨.inr ⟨_, (by omega), rfl, rfl, R1.out⟩, by show 2 ≤ maxLen; unfold maxLen; omega⟩
    rintro e w1 ⟨XA, xn, xc, sl', rfl, hlen, hE, hG, hat⟩
    have RZ1 : Hid (Row w1 (w.heap.size + 1) 30 [.int .i64 0, .slice none 0 0]) := RZ.out.grown hG (fun e => own_ne_row EW.out.own RZ.out (by decide) e.symm)
    have HE : Hid (EOwn w1 base lo (.slice XA xn xc) sl' (cls ++ [[g, a], [-g, -a]])) := hE
    have HG1 : Hid (w.grownBy w1 (Value.slice A n c).ownBlock) := (below_grown B_w.out _).trans hG
    have HLN : Hid ((cls ++ [[g, a], [-g, -a]]).length = xn) := hlen
    have HAT : Hid ((Value.slice XA xn xc).ownBlock = (Value.slice A n c).ownBlock ∨ ∃ k, (Value.slice XA xn xc).ownBlock = some k ∧ w.heap.size ≤ k) := hat.imp id (fun ⟨k, e1, e2⟩ => ⟨k, e1, Nat.le_trans B_w.out.size e2⟩)
    clear hE hG hlen hat EW RF RZ RO B_w hszb R0 R1
    have d0 := RZ1.out.cell 0
    have d1 := RZ1.out.cell 1
    have dl := RZ1.out.lt
    simp only [List.getElem?_cons_zero, List.getElem?_cons_succ] at d0 d1
    have f0 := RZ1.out.frozen 0
    have f1 := RZ1.out.frozen 1
    go_wp2
    have Z1 := RZ1.out.set 0 (.int .i64 V)
    have Z2 := Z1.set 1 (.slice XA xn xc)
    have E1 := HE.out.far (p := ⟨w.heap.size + 1, 0, none⟩) RZ1.out (by decide) (by decide) (Nat.le_succ_of_le HB.out) (.int .i64 V)
    have E2 := E1.far (p := ⟨w.heap.size + 1, 1, none⟩) Z1 (by decide) (by decide) (Nat.le_succ_of_le HB.out) (.slice XA xn xc)
    have G2 := grown_setNew (grown_setNew HG1.out (p := ⟨w.heap.size + 1, 0, none⟩) (Nat.le_succ _) (.int .i64 V)) (p := ⟨w.heap.size + 1, 1, none⟩) (Nat.le_succ _) (.slice XA xn xc)
    have r0 := Z2.cell 0
    have r1 := Z2.cell 1
    simp only [List.getElem?_cons_zero, List.getElem?_cons_succ, List.set_cons_zero, List.set_cons_succ] at r0 r1
    clear Z1 Z2 E1
    revert E2 G2 r0 r1
    generalize (w1.setCell ⟨w.heap.size + 1, 0, none⟩ (.int .i64 V)).setCell ⟨w.heap.size + 1, 1, none⟩ (.slice XA xn xc) = wz
    intro E2 G2 r0 r1
    exact bodyPost_ret (v := .agg #[.int .i64 V, .slice XA xn xc]) (by simp [results, Try.results32, go_sem, r0, r1]) rfl ⟨XA, xn, xc, sl', rfl, HLN.out, E2, G2, HAT.out⟩
  · go_wp2_with fail
    have RF : Hid (Row (World.alloc (World.alloc (World.alloc (World.alloc (World.alloc (World.alloc w (.cells #[.int .i64 V, .slice A n c] 30)) (.cells #[.int .i64 0, .slice none 0 0] 30)) (.cells #[.int .i64 (-g), .int .i64 a] 3)) (.cells #[.int .i64 (-g), .int .i64 b] 3)) (.cells #[.int .i64 g, .int .i64 (-a), .int .i64 (-b)] 3)) (.cells #[.slice (some ⟨w.heap.size + 1 + 1, 0, none⟩) 2 2, .slice (some ⟨w.heap.size + 1 + 1 + 1, 0, none⟩) 2 2, .slice (some ⟨w.heap.size + 1 + 1 + 1 + 1, 0, none⟩) 3 3] 23)) (w.heap.size) 30 [.int .i64 V, .slice A n c]) := by
      have h0 := Row.new w 30 [.int .i64 V, .slice A n c]
      try simp only [World.size_alloc] at h0
      exact (((((h0.alloc _).alloc _).alloc _).alloc _).alloc _)
    have RZ : Hid (Row (World.alloc (World.alloc (World.alloc (World.alloc (World.alloc (World.alloc w (.cells #[.int .i64 V, .slice A n c] 30)) (.cells #[.int .i64 0, .slice none 0 0] 30)) (.cells #[.int .i64 (-g), .int .i64 a] 3)) (.cells #[.int .i64 (-g), .int .i64 b] 3)) (.cells #[.int .i64 g, .int .i64 (-a), .int .i64 (-b)] 3)) (.cells #[.slice (some ⟨w.heap.size + 1 + 1, 0, none⟩) 2 2, .slice (some ⟨w.heap.size + 1 + 1 + 1, 0, none⟩) 2 2, .slice (some ⟨w.heap.size + 1 + 1 + 1 + 1, 0, none⟩) 3 3] 23)) (w.heap.size + 1) 30 [.int .i64 0, .slice none 0 0]) := by
      have h0 := Row.new (World.alloc w (.cells #[.int .i64 V, .slice A n c] 30)) 30 [.int .i64 0, .slice none 0 0]
      try simp only [World.size_alloc] at h0
      exact ((((h0.alloc _).alloc _).alloc _).alloc _)
    have R0 : Hid (Row (World.alloc (World.alloc (World.alloc (World.alloc (World.alloc (World.alloc w (.cells #[.int .i64 V, .slice A n c] 30)) (.cells #[.int .i64 0, .slice none 0 0] 30)) (.cells #[.int .i64 (-g), .int .i64 a] 3)) (.cells #[.int .i64 (-g), .int .i64 b] 3)) (.cells #[.int .i64 g, .int .i64 (-a), .int .i64 (-b)] 3)) (.cells #[.slice (some ⟨w.heap.size + 1 + 1, 0, none⟩) 2 2, .slice (some ⟨w.heap.size + 1 + 1 + 1, 0, none⟩) 2 2, .slice (some ⟨w.heap.size + 1 + 1 + 1 + 1, 0, none⟩) 3 3] 23)) (w.heap.size + 1 + 1) 3 [.int .i64 (-g), .int .i64 a]) := by
      have h0 := Row.new (World.alloc (World.alloc w (.cells #[.int .i64 V, .slice A n c] 30)) (.cells #[.int .i64 0, .slice none 0 0] 30)) 3 [.int .i64 (-g), .int .i64 a]
      try simp only [World.size_alloc] at h0
      exact (((h0.alloc _).alloc _).alloc _)
    have R1 : Hid (Row (World.alloc (World.alloc (World.alloc (World.alloc (World.alloc (World.alloc w (.cells #[.int .i64 V, .slice A n c] 30)) (.cells #[.int .i64 0, .slice none 0 0] 30)) (.cells #[.int .i64 (-g), .int .i64 a] 3)) (.cells #[.int .i64 (-g), .int .i64 b] 3)) (.cells #[.int .i64 g, .int .i64 (-a), .int .i64 (-b)] 3)) (.cells #[.slice (some ⟨w.heap.size + 1 + 1, 0, none⟩) 2 2, .slice (some ⟨w.heap.size + 1 + 1 + 1, 0, none⟩) 2 2, .slice (some ⟨w.heap.size + 1 + 1 + 1 + 1, 0, none⟩) 3 3] 23)) (w.heap.size + 1 + 1 + 1) 3 [.int .i64 (-g), .int .i64 b]) := by
      have h0 := Row.new (World.alloc (World.alloc (World.alloc w (.cells #[.int .i64 V, .slice A n c] 30)) (.cells #[.int .i64 0, .slice none 0 0] 30)) (.cells #[.int .i64 (-g), .int .i64 a] 3)) 3 [.int .i64 (-g), .int .i64 b]
      try simp only [World.size_alloc] at h0
      exact ((h0.alloc _).alloc _)
    have R2 : Hid (Row (World.alloc (World.alloc (World.alloc (World.alloc (World.alloc (World.alloc w (.cells #[.int .i64 V, .slice A n c] 30)) (.cells #[.int .i64 0, .slice none 0 0] 30)) (.cells #[.int .i64 (-g), .int .i64 a] 3)) (.cells #[.int .i64 (-g), .int .i64 b] 3)) (.cells #[.int .i64 g, .int .i64 (-a), .int .i64 (-b)] 3)) (.cells #[.slice (some ⟨w.heap.size + 1 + 1, 0, none⟩) 2 2, .slice (some ⟨w.heap.size + 1 + 1 + 1, 0, none⟩) 2 2, .slice (some ⟨w.heap.size + 1 + 1 + 1 + 1, 0, none⟩) 3 3] 23)) (w.heap.size + 1 + 1 + 1 + 1) 3 [.int .i64 g, .int .i64 (-a), .int .i64 (-b)]) := by
      have h0 := Row.new (World.alloc (World.alloc (World.alloc (World.alloc w (.cells #[.int .i64 V, .slice A n c] 30)) (.cells #[.int .i64 0, .slice none 0 0] 30)) (.cells #[.int .i64 (-g), .int .i64 a] 3)) (.cells #[.int .i64 (-g), .int .i64 b] 3)) 3 [.int .i64 g, .int .i64 (-a), .int .i64 (-b)]
      try simp only [World.size_alloc] at h0
      exact (h0.alloc _)
    have RO : Hid (Row (World.alloc (World.alloc (World.alloc (World.alloc (World.alloc (World.alloc w (.cells #[.int .i64 V, .slice A n c] 30)) (.cells #[.int .i64 0, .slice none 0 0] 30)) (.cells #[.int .i64 (-g), .int .i64 a] 3)) (.cells #[.int .i64 (-g), .int .i64 b] 3)) (.cells #[.int .i64 g, .int .i64 (-a), .int .i64 (-b)] 3)) (.cells #[.slice (some ⟨w.heap.size + 1 + 1, 0, none⟩) 2 2, .slice (some ⟨w.heap.size + 1 + 1 + 1, 0, none⟩) 2 2, .slice (some ⟨w.heap.size + 1 + 1 + 1 + 1, 0, none⟩) 3 3] 23)) (w.heap.size + 1 + 1 + 1 + 1 + 1) 23 [.slice (some ⟨w.heap.size + 1 + 1, 0, none⟩) 2 2, .slice (some ⟨w.heap.size + 1 + 1 + 1, 0, none⟩) 2 2, .slice (some ⟨w.heap.size + 1 + 1 + 1 + 1, 0, none⟩) 3 3]) := by
      have h0 := Row.new (World.alloc (World.alloc (World.alloc (World.alloc (World.alloc w (.cells #[.int .i64 V, .slice A n c] 30)) (.cells #[.int .i64 0, .slice none 0 0] 30)) (.cells #[.int .i64 (-g), .int .i64 a] 3)) (.cells #[.int .i64 (-g), .int .i64 b] 3)) (.cells #[.int .i64 g, .int .i64 (-a), .int .i64 (-b)] 3)) 23 [.slice (some ⟨w.heap.size + 1 + 1, 0, none⟩) 2 2, .slice (some ⟨w.heap.size + 1 + 1 + 1, 0, none⟩) 2 2, .slice (some ⟨w.heap.size + 1 + 1 + 1 + 1, 0, none⟩) 3 3]
      try simp only [World.size_alloc] at h0
      exact h0
    have hgr9 : Below w.heap.size w (World.alloc (World.alloc (World.alloc (World.alloc (World.alloc (World.alloc w (.cells #[.int .i64 V, .slice A n c] 30)) (.cells #[.int .i64 0, .slice none 0 0] 30)) (.cells #[.int .i64 (-g), .int .i64 a] 3)) (.cells #[.int .i64 (-g), .int .i64 b] 3)) (.cells #[.int .i64 g, .int .i64 (-a), .int .i64 (-b)] 3)) (.cells #[.slice (some ⟨w.heap.size + 1 + 1, 0, none⟩) 2 2, .slice (some ⟨w.heap.size + 1 + 1 + 1, 0, none⟩) 2 2, .slice (some ⟨w.heap.size + 1 + 1 + 1 + 1, 0, none⟩) 3 3] 23)) := by go_grown
    have B_w : Hid (Below w.heap.size w (World.alloc (World.alloc (World.alloc (World.alloc (World.alloc (World.alloc w (.cells #[.int .i64 V, .slice A n c] 30)) (.cells #[.int .i64 0, .slice none 0 0] 30)) (.cells #[.int .i64 (-g), .int .i64 a] 3)) (.cells #[.int .i64 (-g), .int .i64 b] 3)) (.cells #[.int .i64 g, .int .i64 (-a), .int .i64 (-b)] 3)) (.cells #[.slice (some ⟨w.heap.size + 1 + 1, 0, none⟩) 2 2, .slice (some ⟨w.heap.size + 1 + 1 + 1, 0, none⟩) 2 2, .slice (some ⟨w.heap.size + 1 + 1 + 1 + 1, 0, none⟩) 3 3] 23))) := hgr9
    clear hgr9
    revert RF RZ R0 R1 R2 RO B_w
    generalize (World.alloc (World.alloc (World.alloc (World.alloc (World.alloc (World.alloc w (.cells #[.int .i64 V, .slice A n c] 30)) (.cells #[.int .i64 0, .slice none 0 0] 30)) (.cells #[.int .i64 (-g), .int .i64 a] 3)) (.cells #[.int .i64 (-g), .int .i64 b] 3)) (.cells #[.int .i64 g, .int .i64 (-a), .int .i64 (-b)] 3)) (.cells #[.slice (some ⟨w.heap.size + 1 + 1, 0, none⟩) 2 2, .slice (some ⟨w.heap.size + 1 + 1 + 1, 0, none⟩) 2 2, .slice (some ⟨w.heap.size + 1 + 1 + 1 + 1, 0, none⟩) 3 3] 23)) = wa
    intro RF RZ R0 R1 R2 RO B_w
    have EW : Hid (EOwn wa base lo (.slice A n c) sl cls) := H.out.up HB.out B_w.out
    have hszb : base ≤ wa.heap.size := Nat.le_trans HB.out B_w.out.size
    refine (add_any V A n c base lo sl cls (some ⟨w.heap.size + 1 + 1 + 1 + 1 + 1, 0, none⟩) 3 3 [⟨some ⟨w.heap.size + 1 + 1, 0, none⟩, 2, 2⟩, ⟨some ⟨w.heap.size + 1 + 1 + 1, 0, none⟩, 2, 2⟩, ⟨some ⟨w.heap.size + 1 + 1 + 1 + 1, 0, none⟩, 3, 3⟩] [[-g, a], [-g, b], [g, -a, -b]] wa EW.out HN.out (RO.out.rd rfl) rfl ?_ hszb (by omega)).mono ?_
    · intro i hi
      have hc : i = 0 ∨ i = 1 ∨ i = 2 := by simp at hi; omega
      rcases hc with rfl | rfl | rfl
      · exact ⟨.inr ⟨_, (by omega), rfl, rfl, R0.out⟩, by show 2 ≤ maxLen; unfold maxLen; omega⟩
      · exact ⟨.inr ⟨_, (by omega), rfl, rfl, R1.out⟩, by show 2 ≤ maxLen; unfold maxLen; omega⟩
      · exact ⟨.inr ⟨_, (by omega), rfl, rfl, R2.out⟩, by show 3 ≤ maxLen; unfold maxLen; omega⟩
    rintro e w1 ⟨XA, xn, xc, sl', rfl, hlen, hE, hG, hat⟩
    have RZ1 : Hid (Row w1 (w.heap.size + 1) 30 [.int .i64 0, .slice none 0 0]) := RZ.out.grown hG (fun e => own_ne_row EW.out.own RZ.out (by decide) e.symm)
    have HE : Hid (EOwn w1 base lo (.slice XA xn xc) sl' (cls ++ [[-g, a], [-g, b], [g, -a, -b]])) := hE
    have HG1 : Hid (w.grownBy w1 (Value.slice A n c).ownBlock) := (below_grown B_w.out _).trans hG
    have HLN : Hid ((cls ++ [[-g, a], [-g, b], [g, -a, -b]]).length = xn) := hlen
    have HAT : Hid ((Value.slice XA xn xc).ownBlock = (Value.slice A n c).ownBlock ∨ ∃ k, (Value.slice XA xn xc).ownBlock = some k ∧ w.heap.size ≤ k) := hat.imp id (fun ⟨k, e1, e2⟩ => ⟨k, e1, Nat.le_trans B_w.out.size e2⟩)
    clear hE hG hlen hat EW RF RZ RO B_w hszb R0 R1 R2
    have d0 := RZ1.out.cell 0
    have d1 := RZ1.out.cell 1
    have dl := RZ1.out.lt
    simp only [List.getElem?_cons_zero, List.getElem?_cons_succ] at d0 d1
    have f0 := RZ1.out.frozen 0
    have f1 := RZ1.out.frozen 1
    go_wp2
    have Z1 := RZ1.out.set 0 (.int .i64 V)
    have Z2 := Z1.set 1 (.slice XA xn xc)
    have E1 := HE.out.far (p := ⟨w.heap.size + 1, 0, none⟩) RZ1.out (by decide) (by decide) (Nat.le_succ_of_le HB.out) (.int .i64 V)
    have E2 := E1.far (p := ⟨w.heap.size + 1, 1, none⟩) Z1 (by decide) (by decide) (Nat.le_succ_of_le HB.out) (.slice XA xn xc)
    have G2 := grown_setNew (grown_setNew HG1.out (p := ⟨w.heap.size + 1, 0, none⟩) (Nat.le_succ _) (.int .i64 V)) (p := ⟨w.heap.size + 1, 1, none⟩) (Nat.le_succ _) (.slice XA xn xc)
    have r0 := Z2.cell 0
    have r1 := Z2.cell 1
    simp only [List.getElem?_cons_zero, List.getElem?_cons_succ, List.set_cons_zero, List.set_cons_succ] at r0 r1
    clear Z1 Z2 E1
    revert E2 G2 r0 r1
    generalize (w1.setCell ⟨w.heap.size + 1, 0, none⟩ (.int .i64 V)).setCell ⟨w.heap.size + 1, 1, none⟩ (.slice XA xn xc) = wz
    intro E2 G2 r0 r1
    exact bodyPost_ret (v := .agg #[.int .i64 V, .slice XA xn xc]) (by simp [results, Try.results32, go_sem, r0, r1]) rfl ⟨XA, xn, xc, sl', rfl, HLN.out, E2, G2, HAT.out⟩
  · go_wp2_with fail
    have RF : Hid (Row (World.alloc (World.alloc (World.alloc (World.alloc (World.alloc (World.alloc w (.cells #[.int .i64 V, .slice A n c] 30)) (.cells #[.int .i64 0, .slice none 0 0] 30)) (.cells #[.int .i64 g, .int .i64 (-a)] 3)) (.cells #[.int .i64 g, .int .i64 (-b)] 3)) (.cells #[.int .i64 (-g), .int .i64 a, .int .i64 b] 3)) (.cells #[.slice (some ⟨w.heap.size + 1 + 1, 0, none⟩) 2 2, .slice (some ⟨w.heap.size + 1 + 1 + 1, 0, none⟩) 2 2, .slice (some ⟨w.heap.size + 1 + 1 + 1 + 1, 0, none⟩) 3 3] 23)) (w.heap.size) 30 [.int .i64 V, .slice A n c]) := by
      have h0 := Row.new w 30 [.int .i64 V, .slice A n c]
      try simp only [World.size_alloc] at h0
      exact (((((h0.alloc _).alloc _).alloc _).alloc _).alloc _)
    have RZ : Hid (Row (World.alloc (World.alloc (World.alloc (World.alloc (World.alloc (World.alloc w (.cells #[.int .i64 V, .slice A n c] 30)) (.cells #[.int .i64 0, .slice none 0 0] 30)) (.cells #[.int .i64 g, .int .i64 (-a)] 3)) (.cells #[.int .i64 g, .int .i64 (-b)] 3)) (.cells #[.int .i64 (-g), .int .i64 a, .int .i64 b] 3)) (.cells #[.slice (some ⟨w.heap.size + 1 + 1, 0, none⟩) 2 2, .slice (some ⟨w.heap.size + 1 + 1 + 1, 0, none⟩) 2 2, .slice (some ⟨w.heap.size + 1 + 1 + 1 + 1, 0, none⟩) 3 3] 23)) (w.heap.size + 1) 30 [.int .i64 0, .slice none 0 0]) := by
      have h0 := Row.new (World.alloc w (.cells #[.int .i64 V, .slice A n c] 30)) 30 [.int .i64 0, .slice none 0 0]
      try simp only [World.size_alloc] at h0
      exact ((((h0.alloc _).alloc _).alloc _).alloc _)
    have R0 : Hid (Row (World.alloc (World.alloc (World.alloc (World.alloc (World.alloc (World.alloc w (.cells #[.int .i64 V, .slice A n c] 30)) (.cells #[.int .i64 0, .slice none 0 0] 30)) (.cells #[.int .i64 g, .int .i64 (-a)] 3)) (.cells #[.int .i64 g, .int .i64 (-b)] 3)) (.cells #[.int .i64 (-g), .int .i64 a, .int .i64 b] 3)) (.cells #[.slice (some ⟨w.heap.size + 1 + 1, 0, none⟩) 2 2, .slice (some ⟨w.heap.size + 1 + 1 + 1, 0, none⟩) 2 2, .slice (some ⟨w.heap.size + 1 + 1 + 1 + 1, 0, none⟩) 3 3] 23)) (w.heap.size + 1 + 1) 3 [.int .i64 g, .int .i64 (-a)]) := by
      have h0 := Row.new (World.alloc (World.alloc w (.cells #[.int .i64 V, .slice A n c] 30)) (.cells #[.int .i64 0, .slice none 0 0] 30)) 3 [.int .i64 g, .int .i64 (-a)]
      try simp only [World.size_alloc] at h0
      exact (((h0.alloc _).alloc _).alloc _)
    have R1 : Hid (Row (World.alloc (World.alloc (World.alloc (World.alloc (World.alloc (World.alloc w (.cells #[.int .i64 V, .slice A n c] 30)) (.cells #[.int .i64 0, .slice none 0 0] 30)) (.cells #[.int .i64 g, .int .i64 (-a)] 3)) (.cells #[.int .i64 g, .int .i64 (-b)] 3)) (.cells #[.int .i64 (-g), .int .i64 a, .int .i64 b] 3)) (.cells #[.slice (some ⟨w.heap.size + 1 + 1, 0, none⟩) 2 2, .slice (some ⟨w.heap.size + 1 + 1 + 1, 0, none⟩) 2 2, .slice (some ⟨w.heap.size + 1 + 1 + 1 + 1, 0, none⟩) 3 3] 23)) (w.heap.size + 1 + 1 + 1) 3 [.int .i64 g, .int .i64 (-b)]) := by
      have h0 := Row.new (World.alloc (World.alloc (World.alloc w (.cells #[.int .i64 V, .slice A n c] 30)) (.cells #[.int .i64 0, .slice none 0 0] 30)) (.cells #[.int .i64 g, .int .i64 (-a)] 3)) 3 [.int .i64 g, .int .i64 (-b)]
      try simp only [World.size_alloc] at h0
      exact ((h0.alloc _).alloc _)
    have R2 : Hid (Row (World.alloc (World.alloc (World.alloc (World.alloc (World.alloc (World.alloc w (.cells #[.int .i64 V, .slice A n c] 30)) (.cells #[.int .i64 0, .slice none 0 0] 30)) (.cells #[.int .i64 g, .int .i64 (-a)] 3)) (.cells #[.int .i64 g, .int .i64 (-b)] 3)) (.cells #[.int .i64 (-g), .int .i64 a, .int .i64 b] 3)) (.cells #[.slice (some ⟨w.heap.size + 1 + 1, 0, none⟩) 2 2, .slice (some ⟨w.heap.size + 1 + 1 + 1, 0, none⟩) 2 2, .slice (some ⟨w.heap.size + 1 + 1 + 1 + 1, 0, none⟩) 3 3] 23)) (w.heap.size + 1 + 1 + 1 + 1) 3 [.int .i64 (-g), .int .i64 a, .int .i64 b]) := by
      have h0 := Row.new (World.alloc (World.alloc (World.alloc (World.alloc w (.cells #[.int .i64 V, .slice A n c] 30)) (.cells #[.int .i64 0, .slice none 0 0] 30)) (.cells #[.int .i64 g, .int .i64 (-a)] 3)) (.cells #[.int .i64 g, .int .i64 (-b)] 3)) 3 [.int .i64 (-g), .int .i64 a, .int .i64 b]
      try simp only [World.size_alloc] at h0
      exact (h0.alloc _)
    have RO : Hid (Row (World.alloc (World.alloc (World.alloc (World.alloc (World.alloc (World.alloc w (.cells #[.int .i64 V, .slice A n c] 30)) (.cells #[.int .i64 0, .slice none 0 0] 30)) (.cells #[.int .i64 g, .int .i64 (-a)] 3)) (.cells #[.int .i64 g, .int .i64 (-b)] 3)) (.cells #[.int .i64 (-g), .int .i64 a, .int .i64 b] 3)) (.cells #[.slice (some ⟨w.heap.size + 1 + 1, 0, none⟩) 2 2, .slice (some ⟨w.heap.size + 1 + 1 + 1, 0, none⟩) 2 2, .slice (some ⟨w.heap.size + 1 + 1 + 1 + 1, 0, none⟩) 3 3] 23)) (w.heap.size + 1 + 1 + 1 + 1 + 1) 23 [.slice (some ⟨w.heap.size + 1 + 1, 0, none⟩) 2 2, .slice (some ⟨w.heap.size + 1 + 1 + 1, 0, none⟩) 2 2, .slice (some ⟨w.heap.size + 1 + 1 + 1 + 1, 0, none⟩) 3 3]) := by
      have h0 := Row.new (World.alloc (World.alloc (World.alloc (World.alloc (World.alloc w (.cells #[.int .i64 V, .slice A n c] 30)) (.cells #[.int .i64 0, .slice none 0 0] 30)) (.cells #[.int .i64 g, .int .i64 (-a)] 3)) (.cells #[.int .i64 g, .int .i64 (-b)] 3)) (.cells #[.int .i64 (-g), .int .i64 a, .int .i64 b] 3)) 23 [.slice (some ⟨w.heap.size + 1 + 1, 0, none⟩) 2 2, .slice (some ⟨w.heap.size + 1 + 1 + 1, 0, none⟩) 2 2, .slice (some ⟨w.heap.size + 1 + 1 + 1 + 1, 0, none⟩) 3 3]
      try simp only [World.size_alloc] at h0
      exact h0
    have hgr9 : Below w.heap.size w (World.alloc (World.alloc (World.alloc (World.alloc (World.alloc (World.alloc w (.cells #[.int .i64 V, .slice A n c] 30)) (.cells #[.int .i64 0, .slice none 0 0] 30)) (.cells #[.int .i64 g, .int .i64 (-a)] 3)) (.cells #[.int .i64 g, .int .i64 (-b)] 3)) (.cells #[.int .i64 (-g), .int .i64 a, .int .i64 b] 3)) (.cells #[.slice (some ⟨w.heap.size + 1 + 1, 0, none⟩) 2 2, .slice (some ⟨w.heap.size + 1 + 1 + 1, 0, none⟩) 2 2, .slice (some ⟨w.heap.size + 1 + 1 + 1 + 1, 0, none⟩) 3 3] 23)) := by go_grown
    have B_w : Hid (Below w.heap.size w (World.alloc (World.alloc (World.alloc (World.alloc (World.alloc (World.alloc w (.cells #[.int .i64 V, .slice A n c] 30)) (.cells #[.int .i64 0, .slice none 0 0] 30)) (.cells #[.int .i64 g, .int .i64 (-a)] 3)) (.cells #[.int .i64 g, .int .i64 (-b)] 3)) (.cells #[.int .i64 (-g), .int .i64 a, .int .i64 b] 3)) (.cells #[.slice (some ⟨w.heap.size + 1 + 1, 0, none⟩) 2 2, .slice (some ⟨w.heap.size + 1 + 1 + 1, 0, none⟩) 2 2, .slice (some ⟨w.heap.size + 1 + 1 + 1 + 1, 0, none⟩) 3 3] 23))) := hgr9
    clear hgr9
    revert RF RZ R0 R1 R2 RO B_w
    generalize (World.alloc (World.alloc (World.alloc (World.alloc (World.alloc (World.alloc w (.cells #[.int .i64 V, .slice A n c] 30)) (.cells #[.int .i64 0, .slice none 0 0] 30)) (.cells #[.int .i64 g, .int .i64 (-a)] 3)) (.cells #[.int .i64 g, .int .i64 (-b)] 3)) (.cells #[.int .i64 (-g), .int .i64 a, .int .i64 b] 3)) (.cells #[.slice (some ⟨w.heap.size + 1 + 1, 0, none⟩) 2 2, .slice (some ⟨w.heap.size + 1 + 1 + 1, 0, none⟩) 2 2, .slice (some ⟨w.heap.size + 1 + 1 + 1 + 1, 0, none⟩) 3 3] 23)) = wa
    intro RF RZ R0 R1 R2 RO B_w
    have EW : Hid (EOwn wa base lo (.slice A n c) sl cls) := H.out.up HB.out B_w.out
    have hszb : base ≤ wa.heap.size := Nat.le_trans HB.out B_w.out.size
    refine (add_any V A n c base lo sl cls (some ⟨w.heap.size + 1 + 1 + 1 + 1 + 1, 0, none⟩) 3 3 [⟨some ⟨w.heap.size + 1 + 1, 0, none⟩, 2, 2⟩, ⟨some ⟨w.heap.size + 1 + 1 + 1, 0, none⟩, 2, 2⟩, ⟨some ⟨w.heap.size + 1 + 1 + 1 + 1, 0, none⟩, 3, 3⟩] [[g, -a], [g, -b], [-g, a, b]] wa EW.out HN.out (RO.out.rd rfl) rfl ?_ hszb (by omega)).mono ?_
    · intro i hi
      have hc : i = 0 ∨ i = 1 ∨ i = 2 := by simp at hi; omega
      rcases hc with rfl | rfl | rfl
      · exact ⟨.inr ⟨_, (by omega), rfl, rfl, R0.out⟩, by show 2 ≤ maxLen; unfold maxLen; omega⟩
      · exact ⟨.inr ⟨_, (by omega), rfl, rfl, R1.out⟩, by show 2 ≤ maxLen; unfold maxLen; omega⟩
      · exact ⟨.inr ⟨_, (by omega), rfl, rfl, R2.out⟩, by show 3 ≤ maxLen; unfold maxLen; omega⟩
    rintro e w1 ⟨XA, xn, xc, sl', rfl, hlen, hE, hG, hat⟩
    have RZ1 : Hid (Row w1 (w.heap.size + 1) 30 [.int .i64 0, .slice none 0 0]) := RZ.out.grown hG (fun e => own_ne_row EW.out.own RZ.out (by decide) e.symm)
    have HE : Hid (EOwn w1 base lo (.slice XA xn xc) sl' (cls ++ [[g, -a], [g, -b], [-g, a, b]])) := hE
    have HG1 : Hid (w.grownBy w1 (Value.slice A n c).ownBlock) := (below_grown B_w.out _).trans hG
    have HLN : Hid ((cls ++ [[g, -a], [g, -b], [-g, a, b]]).length = xn) := hlen
    have HAT : Hid ((Value.slice XA xn xc).ownBlock = (Value.slice A n c).ownBlock ∨ ∃ k, (Value.slice XA xn xc).ownBlock = some k ∧ w.heap.size ≤ k) := hat.imp id (fun ⟨k, e1, e2⟩ => ⟨k, e1, Nat.le_trans B_w.out.size e2⟩)
    clear hE hG hlen hat EW RF RZ RO B_w hszb R0 R1 R2
    have d0 := RZ1.out.cell 0
    have d1 := RZ1.out.cell 1
    have dl := RZ1.out.lt
    simp only [List.getElem?_cons_zero, List.getElem?_cons_succ] at d0 d1
    have f0 := RZ1.out.frozen 0
    have f1 := RZ1.out.frozen 1
    go_wp2
    have Z1 := RZ1.out.set 0 (.int .i64 V)
    have Z2 := Z1.set 1 (.slice XA xn xc)
    have E1 := HE.out.far (p := ⟨w.heap.size + 1, 0, none⟩) RZ1.out (by decide) (by decide) (Nat.le_succ_of_le HB.out) (.int .i64 V)
    have E2 := E1.far (p := ⟨w.heap.size + 1, 1, none⟩) Z1 (by decide) (by decide) (Nat.le_succ_of_le HB.out) (.slice XA xn xc)
    have G2 := grown_setNew (grown_setNew HG1.out (p := ⟨w.heap.size + 1, 0, none⟩) (Nat.le_succ _) (.int .i64 V)) (p := ⟨w.heap.size + 1, 1, none⟩) (Nat.le_succ _) (.slice XA xn xc)
    have r0 := Z2.cell 0
    have r1 := Z2.cell 1
    simp only [List.getElem?_cons_zero, List.getElem?_cons_succ, List.set_cons_zero, List.set_cons_succ] at r0 r1
    clear Z1 Z2 E1
    revert E2 G2 r0 r1
    generalize (w1.setCell ⟨w.heap.size + 1, 0, none⟩ (.int .i64 V)).setCell ⟨w.heap.size + 1, 1, none⟩ (.slice XA xn xc) = wz
    intro E2 G2 r0 r1
    exact bodyPost_ret (v := .agg #[.int .i64 V, .slice XA xn xc]) (by simp [results, Try.results32, go_sem, r0, r1]) rfl ⟨XA, xn, xc, sl', rfl, HLN.out, E2, G2, HAT.out⟩
  · go_wp2_with fail
    have RF : Hid (Row (World.alloc (World.alloc (World.alloc (World.alloc (World.alloc (World.alloc (World.alloc w (.cells #[.int .i64 V, .slice A n c] 30)) (.cells #[.int .i64 0, .slice none 0 0] 30)) (.cells #[.int .i64 (-g), .int .i64 a, .int .i64 b] 3)) (.cells #[.int .i64 (-g), .int .i64 (-a), .int .i64 (-b)] 3)) (.cells #[.int .i64 g, .int .i64 (-a), .int .i64 b] 3)) (.cells #[.int .i64 g, .int .i64 a, .int .i64 (-b)] 3)) (.cells #[.slice (some ⟨w.heap.size + 1 + 1, 0, none⟩) 3 3, .slice (some ⟨w.heap.size + 1 + 1 + 1, 0, none⟩) 3 3, .slice (some ⟨w.heap.size + 1 + 1 + 1 + 1, 0, none⟩) 3 3, .slice (some ⟨w.heap.size + 1 + 1 + 1 + 1 + 1, 0, none⟩) 3 3] 23)) (w.heap.size) 30 [.int .i64 V, .slice A n c]) := by
      have h0 := Row.new w 30 [.int .i64 V, .slice A n c]
      try simp only [World.size_alloc] at h0
      exact ((((((h0.alloc _).alloc _).alloc _).alloc _).alloc _).alloc _)
    have RZ : Hid (Row (World.alloc (World.alloc (World.alloc (World.alloc (World.alloc (World.alloc (World.alloc w (.cells #[.int .i64 V, .slice A n c] 30)) (.cells #[.int .i64 0, .slice none 0 0] 30)) (.cells #[.int .i64 (-g), .int .i64 a, .int .i64 b] 3)) (.cells #[.int .i64 (-g), .int .i64 (-a), .int .i64 (-b)] 3)) (.cells #[.int .i64 g, .int .i64 (-a), .int .i64 b] 3)) (.cells #[.int .i64 g, .int .i64 a, .int .i64 (-b)] 3)) (.cells #[.slice (some ⟨w.heap.size + 1 + 1, 0, none⟩) 3 3, .slice (some ⟨w.heap.size + 1 + 1 + 1, 0, none⟩) 3 3, .slice (some ⟨w.heap.size + 1 + 1 + 1 + 1, 0, none⟩) 3 3, .slice (some ⟨w.heap.size + 1 + 1 + 1 + 1 + 1, 0, none⟩) 3 3] 23)) (w.heap.size + 1) 30 [.int .i64 0, .slice none 0 0]) := by
      have h0 := Row.new (World.alloc w (.cells #[.int .i64 V, .slice A n c] 30)) 30 [.int .i64 0, .slice none 0 0]
      try simp only [World.size_alloc] at h0
      exact (((((h0.alloc _).alloc _).alloc _).alloc _).alloc _)
    have R0 : Hid (Row (World.alloc (World.alloc (World.alloc (World.alloc (World.alloc (World.alloc (World.alloc w (.cells #[.int .i64 V, .slice A n c] 30)) (.cells #[.int .i64 0, .slice none 0 0] 30)) (.cells #[.int .i64 (-g), .int .i64 a, .int .i64 b] 3)) (.cells #[.int .i64 (-g), .int .i64 (-a), .int .i64 (-b)] 3)) (.cells #[.int .i64 g, .int .i64 (-a), .int .i64 b] 3)) (.cells #[.int .i64 g, .int .i64 a, .int .i64 (-b)] 3)) (.cells #[.slice (some ⟨w.heap.size + 1 + 1, 0, none⟩) 3 3, .slice (some ⟨w.heap.size + 1 + 1 + 1, 0, none⟩) 3 3, .slice (some ⟨w.heap.size + 1 + 1 + 1 + 1, 0, none⟩) 3 3, .slice (some ⟨w.heap.size + 1 + 1 + 1 + 1 + 1, 0, none⟩) 3 3] 23)) (w.heap.size + 1 + 1) 3 [.int .i64 (-g), .int .i64 a, .int .i64 b]) := by
      have h0 := Row.new (World.alloc (World.alloc w (.cells #[.int .i64 V, .slice A n c] 30)) (.cells #[.int .i64 0, .slice none 0 0] 30)) 3 [.int .i64 (-g), .int .i64 a, .int .i64 b]
      try simp only [World.size_alloc] at h0
      exact ((((h0.alloc _).alloc _).alloc _).alloc _)
    have R1 : Hid (Row (World.alloc (World.alloc (World.alloc (World.alloc (World.alloc (World.alloc (World.alloc w (.cells #[.int .i64 V, .slice A n c] 30)) (.cells #[.int .i64 0, .slice none 0 0] 30)) (.cells #[.int .i64 (-g), .int .i64 a, .int .i64 b] 3)) (.cells #[.int .i64 (-g), .int .i64 (-a), .int .i64 (-b)] 3)) (.cells #[.int .i64 g, .int .i64 (-a), .int .i64 b] 3)) (.cells #[.int .i64 g, .int .i64 a, .int .i64 (-b)] 3)) (.cells #[.slice (some ⟨w.heap.size + 1 + 1, 0, none⟩) 3 3, .slice (some ⟨w.heap.size + 1 + 1 + 1, 0, none⟩) 3 3, .slice (some ⟨w.heap.size + 1 + 1 + 1 + 1, 0, none⟩) 3 3, .slice (some ⟨w.heap.size + 1 + 1 + 1 + 1 + 1, 0, none⟩) 3 3] 23)) (w.heap.size + 1 + 1 + 1) 3 [.int .i64 (-g), .int .i64 (-a), .int .i64 (-b)]) := by
      have h0 := Row.new (World.alloc (World.alloc (World.alloc w (.cells #[.int .i64 V, .slice A n c] 30)) (.cells #[.int .i64 0, .slice none 0 0] 30)) (.cells #[.int .i64 (-g), .int .i64 a, .int .i64 b] 3)) 3 [.int .i64 (-g), .int .i64 (-a), .int .i64 (-b)]
      try simp only [World.size_alloc] at h0
      exact (((h0.alloc _).alloc _).alloc _)
    have R2 : Hid (Row (World.alloc (World.alloc (World.alloc (World.alloc (World.alloc (World.alloc (World.alloc w (.cells #[.int .i64 V, .slice A n c] 30)) (.cells #[.int .i64 0, .slice none 0 0] 30)) (.cells #[.int .i64 (-g), .int .i64 a, .int .i64 b] 3)) (.cells #[.int .i64 (-g), .int .i64 (-a), .int .i64 (-b)] 3)) (.cells #[.int .i64 g, .int .i64 (-a), .int .i64 b] 3)) (.cells #[.int .i64 g, .int .i64 a, .int .i64 (-b)] 3)) (.cells #[.slice (some ⟨w.heap.size + 1 + 1, 0, none⟩) 3 3, .slice (some ⟨w.heap.size + 1 + 1 + 1, 0, none⟩) 3 3, .slice (some ⟨w.heap.size + 1 + 1 + 1 + 1, 0, none⟩) 3 3, .slice (some ⟨w.heap.size + 1 + 1 + 1 + 1 + 1, 0, none⟩) 3 3] 23)) (w.heap.size + 1 + 1 + 1 + 1) 3 [.int .i64 g, .int .i64 (-a), .int .i64 b]) := by
      have h0 := Row.new (World.alloc (World.alloc (World.alloc (World.alloc w (.cells #[.int .i64 V, .slice A n c] 30)) (.cells #[.int .i64 0, .slice none 0 0] 30)) (.cells #[.int .i64 (-g), .int .i64 a, .int .i64 b] 3)) (.cells #[.int .i64 (-g), .int .i64 (-a), .int .i64 (-b)] 3)) 3 [.int .i64 g, .int .i64 (-a), .int .i64 b]
      try simp only [World.size_alloc] at h0
      exact ((h0.alloc _).alloc _)
    have R3 : Hid (Row (World.alloc (World.alloc (World.alloc (World.alloc (World.alloc (World.alloc (World.alloc w (.cells #[.int .i64 V, .slice A n c] 30)) (.cells #[.int .i64 0, .slice none 0 0] 30)) (.cells #[.int .i64 (-g), .int .i64 a, .int .i64 b] 3)) (.cells #[.int .i64 (-g), .int .i64 (-a), .int .i64 (-b)] 3)) (.cells #[.int .i64 g, .int .i64 (-a), .int .i64 b] 3)) (.cells #[.int .i64 g, .int .i64 a, .int .i64 (-b)] 3)) (.cells #[.slice (some ⟨w.heap.size + 1 + 1, 0, none⟩) 3 3, .slice (some ⟨w.heap.size + 1 + 1 + 1, 0, none⟩) 3 3, .slice (some ⟨w.heap.size + 1 + 1 + 1 + 1, 0, none⟩) 3 3, .slice (some ⟨w.heap.size + 1 + 1 + 1 + 1 + 1, 0, none⟩) 3 3] 23)) (w.heap.size + 1 + 1 + 1 + 1 + 1) 3 [.int .i64 g, .int .i64 a, .int .i64 (-b)]) := by
      have h0 := Row.new (World.alloc (World.alloc (World.alloc (World.alloc (World.alloc w (.cells #[.int .i64 V, .slice A n c] 30)) (.cells #[.int .i64 0, .slice none 0 0] 30)) (.cells #[.int .i64 (-g), .int .i64 a, .int .i64 b] 3)) (.cells #[.int .i64 (-g), .int .i64 (-a), .int .i64 (-b)] 3)) (.cells #[.int .i64 g, .int .i64 (-a), .int .i64 b] 3)) 3 [.int .i64 g, .int .i64 a, .int .i64 (-b)]
      try simp only [World.size_alloc] at h0
      exact (h0.alloc _)
    have RO : Hid (Row (World.alloc (World.alloc (World.alloc (World.alloc (World.alloc (World.alloc (World.alloc w (.cells #[.int .i64 V, .slice A n c] 30)) (.cells #[.int .i64 0, .slice none 0 0] 30)) (.cells #[.int .i64 (-g), .int .i64 a, .int .i64 b] 3)) (.cells #[.int .i64 (-g), .int .i64 (-a), .int .i64 (-b)] 3)) (.cells #[.int .i64 g, .int .i64 (-a), .int .i64 b] 3)) (.cells #[.int .i64 g, .int .i64 a, .int .i64 (-b)] 3)) (.cells #[.slice (some ⟨w.heap.size + 1 + 1, 0, none⟩) 3 3, .slice (some ⟨w.heap.size + 1 + 1 + 1, 0, none⟩) 3 3, .slice (some ⟨w.heap.size + 1 + 1 + 1 + 1, 0, none⟩) 3 3, .slice (some ⟨w.heap.size + 1 + 1 + 1 + 1 + 1, 0, none⟩) 3 3] 23)) (w.heap.size + 1 + 1 + 1 + 1 + 1 + 1) 23 [.slice (some ⟨w.heap.size + 1 + 1, 0, none⟩) 3 3, .slice (some ⟨w.heap.size + 1 + 1 + 1, 0, none⟩) 3 3, .slice (some ⟨w.heap.size + 1 + 1 + 1 + 1, 0, none⟩) 3 3, .slice (some ⟨w.heap.size + 1 + 1 + 1 + 1 + 1, 0, none⟩) 3 3]) := by
      have h0 := Row.new (World.alloc (World.alloc (World.alloc (World.alloc (World.alloc (World.alloc w (.cells #[.int .i64 V, .slice A n c] 30)) (.cells #[.int .i64 0, .slice none 0 0] 30)) (.cells #[.int .i64 (-g), .int .i64 a, .int .i64 b] 3)) (.cells #[.int .i64 (-g), .int .i64 (-a), .int .i64 (-b)] 3)) (.cells #[.int .i64 g, .int .i64 (-a), .int .i64 b] 3)) (.cells #[.int .i64 g, .int .i64 a, .int .i64 (-b)] 3)) 23 [.slice (some ⟨w.heap.size + 1 + 1, 0, none⟩) 3 3, .slice (some ⟨w.heap.size + 1 + 1 + 1, 0, none⟩) 3 3, .slice (some ⟨w.heap.size + 1 + 1 + 1 + 1, 0, none⟩) 3 3, .slice (some ⟨w.heap.size + 1 + 1 + 1 + 1 + 1, 0, none⟩) 3 3]
      try simp only [World.size_alloc] at h0
      exact h0
    have hgr9 : Below w.heap.size w (World.alloc (World.alloc (World.alloc (World.alloc (World.alloc (World.alloc (World.alloc w (.cells #[.int .i64 V, .slice A n c] 30)) (.cells #[.int .i64 0, .slice none 0 0] 30)) (.cells #[.int .i64 (-g), .int .i64 a, .int .i64 b] 3)) (.cells #[.int .i64 (-g), .int .i64 (-a), .int .i64 (-b)] 3)) (.cells #[.int .i64 g, .int .i64 (-a), .int .i64 b] 3)) (.cells #[.int .i64 g, .int .i64 a, .int .i64 (-b)] 3)) (.cells #[.slice (some ⟨w.heap.size + 1 + 1, 0, none⟩) 3 3, .slice (some ⟨w.heap.size + 1 + 1 + 1, 0, none⟩) 3 3, .slice (some ⟨w.heap.size + 1 + 1 + 1 + 1, 0, none⟩) 3 3, .slice (some ⟨w.heap.size + 1 + 1 + 1 + 1 + 1, 0, none⟩) 3 3] 23)) := by go_grown
    have B_w : Hid (Below w.heap.size w (World.alloc (World.alloc (World.alloc (World.alloc (World.alloc (World.alloc (World.alloc w (.cells #[.int .i64 V, .slice A n c] 30)) (.cells #[.int .i64 0, .slice none 0 0] 30)) (.cells #[.int .i64 (-g), .int .i64 a, .int .i64 b] 3)) (.cells #[.int .i64 (-g), .int .i64 (-a), .int .i64 (-b)] 3)) (.cells #[.int .i64 g, .int .i64 (-a), .int .i64 b] 3)) (.cells #[.int .i64 g, .int .i64 a, .int .i64 (-b)] 3)) (.cells #[.slice (some ⟨w.heap.size + 1 + 1, 0, none⟩) 3 3, .slice (some ⟨w.heap.size + 1 + 1 + 1, 0, none⟩) 3 3, .slice (some ⟨w.heap.size + 1 + 1 + 1 + 1, 0, none⟩) 3 3, .slice (some ⟨w.heap.size + 1 + 1 + 1 + 1 + 1, 0, none⟩) 3 3] 23))) := hgr9
    clear hgr9
    revert RF RZ R0 R1 R2 R3 RO B_w
    generalize (World.alloc (World.alloc (World.alloc (World.alloc (World.alloc (World.alloc (World.alloc w (.cells #[.int .i64 V, .slice A n c] 30)) (.cells #[.int .i64 0, .slice none 0 0] 30)) (.cells #[.int .i64 (-g), .int .i64 a, .int .i64 b] 3)) (.cells #[.int .i64 (-g), .int .i64 (-a), .int .i64 (-b)] 3)) (.cells #[.int .i64 g, .int .i64 (-a), .int .i64 b] 3)) (.cells #[.int .i64 g, .int .i64 a, .int .i64 (-b)] 3)) (.cells #[.slice (some ⟨w.heap.size + 1 + 1, 0, none⟩) 3 3, .slice (some ⟨w.heap.size + 1 + 1 + 1, 0, none⟩) 3 3, .slice (some ⟨w.heap.size + 1 + 1 + 1 + 1, 0, none⟩) 3 3, .slice (some ⟨w.heap.size + 1 + 1 + 1 + 1 + 1, 0, none⟩) 3 3] 23)) = wa
    intro RF RZ R0 R1 R2 R3 RO B_w
    have EW : Hid (EOwn wa base lo (.slice A n c) sl cls) := H.out.up HB.out B_w.out
    have hszb : base ≤ wa.heap.size := Nat.le_trans HB.out B_w.out.size
    refine (add_any V A n c base lo sl cls (some ⟨w.heap.size + 1 + 1 + 1 + 1 + 1 + 1, 0, none⟩) 4 4 [⟨some ⟨w.heap.size + 1 + 1, 0, none⟩, 3, 3⟩, ⟨some ⟨w.heap.size + 1 + 1 + 1, 0, none⟩, 3, 3⟩, ⟨some ⟨w.heap.size + 1 + 1 + 1 + 1, 0, none⟩, 3, 3⟩, ⟨some ⟨w.heap.size + 1 + 1 + 1 + 1 + 1, 0, none⟩, 3, 3⟩] [[-g, a, b], [-g, -a, -b], [g, -a, b], [g, a, -b]] wa EW.out HN.out (RO.out.rd rfl) rfl ?_ hszb (by omega)).mono ?_
    · intro i hi
      have hc : i = 0 ∨ i = 1 ∨ i = 2 ∨ i = 3 := by simp at hi; omega
      rcases hc with rfl | rfl | rfl | rfl
      · exact ⟨.inr ⟨_, (by omega), rfl, rfl, R0.out⟩, by show 3 ≤ maxLen; unfold maxLen; omega⟩
      · exact ⟨.inr ⟨_, (by omega), rfl, rfl, R1.out⟩, by show 3 ≤ maxLen; unfold maxLen; omega⟩
      · exact ⟨.inr ⟨_, (by omega), rfl, rfl, R2.out⟩, by show 3 ≤ maxLen; unfold maxLen; omega⟩
      · exact ⟨.inr ⟨_, (by omega), rfl, rfl, R3.out⟩, by show 3 ≤ maxLen; unfold maxLen; omega⟩
    rintro e w1 ⟨XA, xn, xc, sl', rfl, hlen, hE, hG, hat⟩
    have RZ1 : Hid (Row w1 (w.heap.size + 1) 30 [.int .i64 0, .slice none 0 0]) := RZ.out.grown hG (fun e => own_ne_row EW.out.own RZ.out (by decide) e.symm)
    have HE : Hid (EOwn w1 base lo (.slice XA xn xc) sl' (cls ++ [[-g, a, b], [-g, -a, -b], [g, -a, b], [g, a, -b]])) := hE
    have HG1 : Hid (w.grownBy w1 (Value.slice A n c).ownBlock) := (below_grown B_w.out _).trans hG
    have HLN : Hid ((cls ++ [[-g, a, b], [-g, -a, -b], [g, -a, b], [g, a, -b]]).length = xn) := hlen
    have HAT : Hid ((Value.slice XA xn xc).ownBlock = (Value.slice A n c).ownBlock ∨ ∃ k, (Value.slice XA xn xc).ownBlock = some k ∧ w.heap.size ≤ k) := hat.imp id (fun ⟨k, e1, e2⟩ => ⟨k, e1, Nat.le_trans B_w.out.size e2⟩)
    clear hE hG hlen hat EW RF RZ RO B_w hszb R0 R1 R2 R3
    have d0 := RZ1.out.cell 0
    have d1 := RZ1.out.cell 1
    have dl := RZ1.out.lt
    simp only [List.getElem?_cons_zero, List.getElem?_cons_succ] at d0 d1
    have f0 := RZ1.out.frozen 0
    have f1 := RZ1.out.frozen 1
    go_wp2
    have Z1 := RZ1.out.set 0 (.int .i64 V)
    have Z2 := Z1.set 1 (.slice XA xn xc)
    have E1 := HE.out.far (p := ⟨w.heap.size + 1, 0, none⟩) RZ1.out (by decide) (by decide) (Nat.le_succ_of_le HB.out) (.int .i64 V)
    have E2 := E1.far (p := ⟨w.heap.size + 1, 1, none⟩) Z1 (by decide) (by decide) (Nat.le_succ_of_le HB.out) (.slice XA xn xc)
    have G2 := grown_setNew (grown_setNew HG1.out (p := ⟨w.heap.size + 1, 0, none⟩) (Nat.le_succ _) (.int .i64 V)) (p := ⟨w.heap.size + 1, 1, none⟩) (Nat.le_succ _) (.slice XA xn xc)
    have r0 := Z2.cell 0
    have r1 := Z2.cell 1
    simp only [List.getElem?_cons_zero, List.getElem?_cons_succ, List.set_cons_zero, List.set_cons_succ] at r0 r1
    clear Z1 Z2 E1
    revert E2 G2 r0 r1
    generalize (w1.setCell ⟨w.heap.size + 1, 0, none⟩ (.int .i64 V)).setCell ⟨w.heap.size + 1, 1, none⟩ (.slice XA xn xc) = wz
    intro E2 G2 r0 r1
    exact bodyPost_ret (v := .agg #[.int .i64 V, .slice XA xn xc]) (by simp [results, Try.results32, go_sem, r0, r1]) rfl ⟨XA, xn, xc, sl', rfl, HLN.out, E2, G2, HAT.out⟩
end Go.Proofs.Ytofflkfkakddkaa
