/-
  The reference's Cycle, walked.
-/
import Derived.Test.YtdkfaphclhaiaaaNCycP
import Derived.Test.YtdkfaphclhaiaaaNRefNext
import Derived.Test.YtdkfaphclhaiaaaNFits
import Derived.Test.YtdkfaphclhaiaaaGPost
import Derived.Test.YtdkfaphclhaiaaaGRefRB
import Derived.Test.YtdkfaphclhaiaaaApp
import Derived.Test.YtdkfaphclhaiaaaRegL
import Derived.BigQuiet
namespace Go.Proofs.Ytdkfaphclhaiaaa
open Go.RowKit
set_option linter.unusedSimpArgs false
set_option linter.unusedVariables false
theorem Rd.row4 {w : World} {B n : Nat} {A : Option Addr} {xs : List Value} (h : Rd w B 4 A n xs) {k : Nat} (hk : k < n) {x0 x1 x2 x3 : Value}
    (h0 : xs[k * 4]? = some x0) (h1 : xs[k * 4 + 1]? = some x1) (h2 : xs[k * 4 + 2]? = some x2) (h3 : xs[k * 4 + 3]? = some x3) :
    ∃ ad, A = some ad ∧ ad.block < B ∧ w.cell? (ad.add (k * 4)) = some x0 ∧ w.cell? ⟨(ad.add (k * 4)).block, (ad.add (k * 4)).off + 1, none⟩ = some x1 ∧ w.cell? ⟨(ad.add (k * 4)).block, (ad.add (k * 4)).off + 2, none⟩ = some x2 ∧ w.cell? ⟨(ad.add (k * 4)).block, (ad.add (k * 4)).off + 3, none⟩ = some x3 := by
  obtain ⟨ad, e, hb, hc⟩ := h.2 (by omega)
  refine ⟨ad, e, hb, hc _ _ h0, ?_, ?_, ?_⟩
  · exact (congrArg w.cell? (add_add' ad (k * 4) 1)).trans (hc _ _ h1)
  · exact (congrArg w.cell? (add_add' ad (k * 4) 2)).trans (hc _ _ h2)
  · exact (congrArg w.cell? (add_add' ad (k * 4) 3)).trans (hc _ _ h3)
/-- A list of grids of one shape as cells. -/
def gridCell (g : Grd) (n : Nat) (p : Option Addr × Nat) : List Value := [.int .i64 g.w, .int .i64 g.h, .int .i64 g.edge, .slice p.1 n p.2]
def gridsC (g : Grd) (n : Nat) (l : List (Option Addr × Nat)) : List Value := l.flatMap (gridCell g n)
theorem gridsC_snoc (g : Grd) (n : Nat) (l : List (Option Addr × Nat)) (p : Option Addr × Nat) : gridsC g n (l ++ [p]) = gridsC g n l ++ gridCell g n p := by simp [gridsC]
theorem gridsC_length (g : Grd) (n : Nat) (l : List (Option Addr × Nat)) : (gridsC g n l).length = l.length * 4 := by
  induction l with
  | nil => rfl
  | cons p l ih => simp only [gridsC, List.flatMap_cons, List.length_append, List.length_cons] at *; rw [ih]; simp [gridCell]; omega
theorem gridsC_get (g : Grd) (n : Nat) (l : List (Option Addr × Nat)) (k : Nat) (h : k < l.length) :
    (gridsC g n l)[k * 4]? = some (.int .i64 g.w) ∧ (gridsC g n l)[k * 4 + 1]? = some (.int .i64 g.h) ∧ (gridsC g n l)[k * 4 + 2]? = some (.int .i64 g.edge) ∧ (gridsC g n l)[k * 4 + 3]? = some (.slice (l.getD k default).1 n (l.getD k default).2) := by
  induction l generalizing k with
  | nil => simp at h
  | cons p l ih =>
    cases k with
    | zero => simp [gridsC, gridCell]
    | succ k =>
      have := ih k (by simpa using h)
      have e : (k + 1) * 4 = k * 4 + 4 := by omega
      have hh : ∀ j, (gridsC g n (p :: l))[k * 4 + 4 + j]? = (gridsC g n l)[k * 4 + j]? := fun j => by
        simp only [gridsC, List.flatMap_cons]
        rw [List.getElem?_append_right (by simp [gridCell]; omega)]
        congr 1
        simp [gridCell]; omega
      rw [e]
      refine ⟨(hh 0).trans ?_, (hh 1).trans ?_, (hh 2).trans ?_, (hh 3).trans ?_⟩
      · simpa using this.1
      · simpa using this.2.1
      · simpa using this.2.2.1
      · simpa using this.2.2.2
theorem grid_info4 : (Try.prog.info? 28).map (fun i => (i.zero, i.size, i.bytes)) = some (some (.agg #[.int .i64 0, .int .i64 0, .int .i64 0, .slice none 0 0]), 4, 48) := by kernel_rfl
theorem GAt.grownApart {W W' : World} {g : Grd} {A : Option Addr} {n : Nat} {row : Option Nat} (h : GAt W g A n) (hg : W.grownBy W' row) (hne : ∀ b, row = some b → NewOr A n b (b + 1)) : GAt W' g A n :=
  ⟨⟨h.cells.1, fun hn => let ⟨a, e, hb, hc⟩ := h.cells.2 hn; ⟨a, e, Nat.lt_of_lt_of_le hb hg.size, fun j v hv => by
    rw [← hc j v hv]
    have hbl : (a.add j).block = a.block := by unfold Addr.add; split <;> rfl
    unfold World.cell?
    rw [hg.block (a.add j).block (by rw [hbl]; exact hb) (fun e9 => by
      have := hne _ e9.symm a e hn
      rw [hbl] at this
      omega)]⟩⟩, h.c63⟩
/-- The list's grids: the generations so far; none lies in the blocks from b up to B, nor in block q. -/
def GensAt (t : Tre) (g : Grd) (n b B : Nat) (W : World) (v : Value) (l : List (Option Addr × Nat)) : Prop :=
  ∀ j, j < l.length → GAt W (genG t g j) (l.getD j default).1 n ∧ NewOr (l.getD j default).1 n b B ∧ ∀ q, v.ownBlock = some q → NewOr (l.getD j default).1 n q (q + 1)
theorem same_gens {t : Tre} {g : Grd} (i j : Nat) : sameG (genG t g i) (genG t g j) = decide ((genG t g i).cells = (genG t g j).cells) := by
  rw [Bool.eq_iff_iff, sameG_iff, decide_eq_true_iff]
  refine ⟨fun h => by rw [h], fun h => ?_⟩
  obtain ⟨a1, a2, a3, _⟩ := genG_shape t g i
  obtain ⟨b1, b2, b3, _⟩ := genG_shape t g j
  generalize genG t g i = x at h a1 a2 a3
  generalize genG t g j = y at h b1 b2 b3
  cases x; cases y
  simp only at h a1 a2 a3 b1 b2 b3
  subst h a1 a2 a3
  rw [b1, b2, b3]
theorem NewOr.of_lt {A : Option Addr} {n q B : Nat} (h : NewOr A n 0 B) (hq : q < B) : NewOr A n q (q + 1) := fun ad e hn => (h ad e hn).elim (fun h => by omega) (fun h => .inr (by omega))
theorem NewOr.of_lt' {A : Option Addr} {n q b B : Nat} (h : NewOr A n b B) (hq : q < B) (hb : b ≤ q) : NewOr A n q (q + 1) := fun ad e hn => (h ad e hn).elim (fun h => .inl (by omega)) (fun h => .inr (by omega))
theorem cyc0 {t : Tre} {g : Grd} {j : Nat} (h : j < 1) : cycK t g j = none := cycK_none (fun k hk => by omega)
theorem GAt.alloc {W : World} {g : Grd} {A : Option Addr} {n : Nat} (h : GAt W g A n) (o : Obj) : GAt (W.alloc o) g A n := h.up ((Below.refl _ _).alloc (Nat.le_refl _) _)
theorem GAt.old {W : World} {g : Grd} {A : Option Addr} {n : Nat} (h : GAt W g A n) {q c : Nat} (hq : W.heap.size ≤ q) : NewOr A n q c := (h.cells.newOr (c := c)).mono hq (Nat.le_refl _)
theorem GensAt.push {t : Tre} {g : Grd} {n b B k rc : Nat} {W W' : World} {v v' : Value} {l : List (Option Addr × Nat)} {RA : Option Addr} {o : Obj} (h : GensAt t g n b B W v l) (hk : l.length = k) (hga : GAt W (genG t g k) RA n) (hno : NewOr RA n b B)
    (hnq : ∀ q, v.ownBlock = some q → NewOr RA n q (q + 1)) (hgr : (W.alloc o).grownBy W' v.ownBlock) (hat : v'.ownBlock = v.ownBlock ∨ v'.ownBlock = some (W.alloc o).heap.size) :
    GensAt t g n b B W' v' (l ++ [(RA, rc)]) ∧ GAt W' (genG t g k) RA n := by
  have key : ∀ (x : Grd) (A : Option Addr), GAt W x A n → (∀ q, v.ownBlock = some q → NewOr A n q (q + 1)) → GAt W' x A n ∧ ∀ q, v'.ownBlock = some q → NewOr A n q (q + 1) := fun x A hx hq => by
    refine ⟨(hx.alloc o).grownApart hgr hq, fun q e => ?_⟩
    rcases hat with h1 | h1
    · exact hq q (h1 ▸ e)
    · rw [h1] at e
      cases e
      exact hx.old (by simp)
  refine ⟨fun j hj => ?_, (key _ _ hga hnq).1⟩
  rw [List.length_append, List.length_singleton] at hj
  rcases Nat.lt_or_ge j l.length with h1 | h1
  · obtain ⟨h2, h3, h4⟩ := h j h1
    rw [show (l ++ [(RA, rc)]).getD j default = l.getD j default by simp [List.getD_eq_getElem?_getD, List.getElem?_append_left h1]]
    exact ⟨(key _ _ h2 h4).1, h3, (key _ _ h2 h4).2⟩
  · obtain rfl : j = l.length := by omega
    rw [show (l ++ [(RA, rc)]).getD l.length default = (RA, rc) by simp [List.getD_eq_getElem?_getD]]
    subst hk
    exact ⟨(key _ _ hga hnq).1, hno, (key _ _ hga hnq).2⟩
theorem GensAt.far {t : Tre} {g : Grd} {n b B : Nat} {W : World} {v : Value} {l : List (Option Addr × Nat)} (h : GensAt t g n b B W v l) {p : Addr} (h1 : b ≤ p.block) (h2 : p.block < B) (u : Value) : GensAt t g n b B (W.setCell p u) v l :=
  fun j hj => ⟨(h j hj).1.farSet (h j hj).2.1 h1 h2 u, (h j hj).2⟩
theorem GensAt.up {t : Tre} {g : Grd} {n b B : Nat} {W W' : World} {v : Value} {l : List (Option Addr × Nat)} (h : GensAt t g n b B W v l) (hb : Below W.heap.size W W') : GensAt t g n b B W' v l :=
  fun j hj => ⟨(h j hj).1.up hb, (h j hj).2⟩
theorem grid_one (g : Grd) (A : Option Addr) (n c : Nat) : ∀ u ∈ [Value.int .i64 g.w, Value.int .i64 g.h, Value.int .i64 g.edge, Value.slice A n c], u.oneCell' = true := by
  intro u hu
  simp only [List.mem_cons, List.not_mem_nil, or_false] at hu
  rcases hu with rfl | rfl | rfl | rfl <;> rfl
set_option maxRecDepth 100000 in
set_option maxHeartbeats 4000000 in
theorem rCyc_any (t : Tre) (g : Grd) (z : Int) (HA NA A : Option Addr) (hn hc nn nc n ac : Nat) (sl : List Sl) (w : World) (ht : TAt w t HA NA hn nn sl) (hg : GAt w g A n) :
    Calls Try.prog 17 #[.agg #[.int .i64 t.states, .slice HA hn hc, .slice NA nn nc], .agg #[.int .i64 g.w, .int .i64 g.h, .int .i64 g.edge, .slice A n ac], .int .i64 z] w fun e w' => e = .returned (.tuple #[.int .i64 (cycS t g z), .int .i64 (cycP t g z), .int .i64 (cycErr t g z)]) ∧ Below w.heap.size w w' := by
  have HT : Hid (TAt w t HA NA hn nn sl) := ht
  have HG : Hid (GAt w g A n) := hg
  have HL : Hid (∀ _ : Unit, g.cells.length = n) := fun _ => hg.cl
  have HO : Hid (∀ B, NewOr A n w.heap.size B) := fun B => hg.cells.newOr
  clear ht hg
  go_enter Try.func17, Try.ntmps17
  go_wp2_with fail
  have RT : Hid (Row (World.alloc (World.alloc w (.cells #[.int .i64 t.states, .slice HA hn hc, .slice NA nn nc] 25)) (.cells #[.int .i64 g.w, .int .i64 g.h, .int .i64 g.edge, .slice A n ac] 28)) (w.heap.size) 25 [.int .i64 t.states, .slice HA hn hc, .slice NA nn nc]) := by
    have h0 := Row.new w 25 [.int .i64 t.states, .slice HA hn hc, .slice NA nn nc]
    try simp only [World.size_alloc] at h0
    exact (h0.alloc _)
  have RG : Hid (Row (World.alloc (World.alloc w (.cells #[.int .i64 t.states, .slice HA hn hc, .slice NA nn nc] 25)) (.cells #[.int .i64 g.w, .int .i64 g.h, .int .i64 g.edge, .slice A n ac] 28)) (w.heap.size + 1) 28 [.int .i64 g.w, .int .i64 g.h, .int .i64 g.edge, .slice A n ac]) := by
    have h0 := Row.new (World.alloc w (.cells #[.int .i64 t.states, .slice HA hn hc, .slice NA nn nc] 25)) 28 [.int .i64 g.w, .int .i64 g.h, .int .i64 g.edge, .slice A n ac]
    try simp only [World.size_alloc] at h0
    exact h0
  have hgr9 : Below w.heap.size w (World.alloc (World.alloc w (.cells #[.int .i64 t.states, .slice HA hn hc, .slice NA nn nc] 25)) (.cells #[.int .i64 g.w, .int .i64 g.h, .int .i64 g.edge, .slice A n ac] 28)) := by go_grown
  have B_w : Hid (Below w.heap.size w (World.alloc (World.alloc w (.cells #[.int .i64 t.states, .slice HA hn hc, .slice NA nn nc] 25)) (.cells #[.int .i64 g.w, .int .i64 g.h, .int .i64 g.edge, .slice A n ac] 28))) := hgr9
  clear hgr9
  revert RT RG B_w
  generalize (World.alloc (World.alloc w (.cells #[.int .i64 t.states, .slice HA hn hc, .slice NA nn nc] 25)) (.cells #[.int .i64 g.w, .int .i64 g.h, .int .i64 g.edge, .slice A n ac] 28)) = wa
  intro RT RG B_w
  have hwa : w.heap.size + 1 < wa.heap.size := RG.out.lt
  refine (rCheck_any t g HA NA A hn hc nn nc n ac sl wa (HT.out.up B_w.out) (HG.out.up B_w.out)).mono ?_
  rintro e w1 ⟨rfl, hb⟩
  have hwb : wa.heap.size ≤ w1.heap.size := hb.size
  have B_w : Hid (Below w.heap.size w w1) := below_on2 B_w.out hb
  have B_wa : Hid (Below wa.heap.size wa w1) := hb
  clear hb
  obtain ⟨fe, hfe⟩ : ∃ fe, fitsN t g = fe := ⟨_, rfl⟩
  have HFE : Hid (∀ _ : Unit, fitsN t g = fe) := fun _ => hfe
  rw [hfe]
  clear hfe
  by_cases hf : fe = 0
  · subst hf
    by_cases hz : 0 ≤ z ∧ z ≤ 10000
    · have HOK : Hid (OkTG t g) := fits_ok (HFE.out ())
      obtain ⟨z0, z1⟩ := hz
      obtain ⟨mz, rfl⟩ : ∃ mz : Nat, z = (mz : Int) := ⟨z.toNat, by omega⟩
      have RT1 : Hid (Row w1 w.heap.size 25 [.int .i64 t.states, .slice HA hn hc, .slice NA nn nc]) := (rowCells RT.out B_wa.out)
      have RG1 : Hid (Row w1 (w.heap.size + 1) 28 [.int .i64 g.w, .int .i64 g.h, .int .i64 g.edge, .slice A n ac]) := (rowCells RG.out B_wa.out)
      have BW1 : Hid (Below w.heap.size w w1) := B_w
      have GA1 : Hid (GAt w1 g A n) := (HG.out.up B_w.out)
      clear B_w B_wa RT RG
      have q0 := RG1.out.cell 0
      have q1 := RG1.out.cell 1
      have q2 := RG1.out.cell 2
      have q3 := RG1.out.cell 3
      have ql := RG1.out.lt
      simp only [List.getElem?_cons_zero, List.getElem?_cons_succ] at q0 q1 q2 q3
      go_wp2_with fail
      have RT2 : Hid (Row (World.alloc w1 (.cells #[.int .i64 g.w, .int .i64 g.h, .int .i64 g.edge, .slice A n ac] 28)) w.heap.size 25 [.int .i64 t.states, .slice HA hn hc, .slice NA nn nc]) := RT1.out.alloc _
      have RG2 : Hid (Row (World.alloc w1 (.cells #[.int .i64 g.w, .int .i64 g.h, .int .i64 g.edge, .slice A n ac] 28)) (w.heap.size + 1) 28 [.int .i64 g.w, .int .i64 g.h, .int .i64 g.edge, .slice A n ac]) := RG1.out.alloc _
      have BW2 : Hid (Below w.heap.size w (World.alloc w1 (.cells #[.int .i64 g.w, .int .i64 g.h, .int .i64 g.edge, .slice A n ac] 28))) := BW1.out.alloc BW1.out.size _
      have GE2 : Hid (GensAt t g n w.heap.size wa.heap.size (World.alloc w1 (.cells #[.int .i64 g.w, .int .i64 g.h, .int .i64 g.edge, .slice A n ac] 28)) (.slice (some ⟨w1.heap.size, 0, none⟩) 1 1) [(A, ac)]) := by
        intro j hj
        obtain rfl : j = 0 := by simpa using hj
        refine ⟨GA1.out.up (by go_grown), HO.out _, fun q hq => ?_⟩
        obtain rfl : w1.heap.size = q := by simpa [Value.ownBlock] using hq
        exact (HO.out 0).mono (by have := BW1.out.size; omega) (Nat.zero_le _) |> fun h => (HO.out _).mono (by have := BW1.out.size; omega) (Nat.le_refl _)
      have OW2 : Hid (World.ownsRow (World.alloc w1 (.cells #[.int .i64 g.w, .int .i64 g.h, .int .i64 g.edge, .slice A n ac] 28)) w1.heap.size 28 4 (.slice (some ⟨w1.heap.size, 0, none⟩) 1 1) 1 (gridsC g n [(A, ac)])) := Row.own (Row.new w1 28 [.int .i64 g.w, .int .i64 g.h, .int .i64 g.edge, .slice A n ac]) (Nat.le_refl _) rfl (by unfold maxLen; omega)
      have HSZ2 : Hid (w1.heap.size ≤ ((World.alloc w1 (.cells #[.int .i64 g.w, .int .i64 g.h, .int .i64 g.edge, .slice A n ac] 28))).heap.size) := (by show _ ≤ _; simp)
      clear q0 q1 q2 q3 ql RT1 RG1 BW1 GA1
      revert RT2 RG2 BW2 GE2 OW2 HSZ2
      generalize (World.alloc w1 (.cells #[.int .i64 g.w, .int .i64 g.h, .int .i64 g.edge, .slice A n ac] 28)) = w2
      intro RT2 RG2 BW2 GE2 OW2 HSZ2
      go_loopg [10, 11, 12] mz (fun gg s10 s11 _ wr => ∃ (k : Nat) (v : Value) (l : List (Option Addr × Nat)) (A' : Option Addr) (c' : Nat), 1 ≤ k ∧ k ≤ mz + 1 ∧ mz + 1 - k ≤ gg ∧ s11 = .int .i64 k ∧ s10 = v ∧ l.length = k ∧ Aside (Below w.heap.size w wr) ∧ Aside (Row wr w.heap.size 25 [.int .i64 t.states, .slice HA hn hc, .slice NA nn nc]) ∧ Aside (Row wr (w.heap.size + 1) 28 [.int .i64 g.w, .int .i64 g.h, .int .i64 g.edge, .slice A' n c']) ∧ Aside (GAt wr (genG t g (k - 1)) A' n) ∧ Aside (World.ownsRow wr w1.heap.size 28 4 v k (gridsC g n l)) ∧ Aside (GensAt t g n w.heap.size wa.heap.size wr v l) ∧ Aside (∀ j, j < k → cycK t g j = none) ∧ w1.heap.size ≤ wr.heap.size)
      case atStart => exact ⟨1, _, [(A, ac)], A, ac, Nat.le_refl _, by omega, by omega, rfl, rfl, rfl, BW2.out, RT2.out, RG2.out, (GE2.out 0 (by simp)).1, OW2.out, GE2.out, fun j hj => cyc0 hj, HSZ2.out⟩
      case round =>
        clear RT2 RG2 BW2 GE2 OW2
        obtain ⟨k, v, l, A', c', hk1, hkm, hgg, rfl, rfl, hll, BW, RT, RG, GA, OW, GE, HN, hws⟩ := hrel
        obtain ⟨LA, lc, rfl, hlr⟩ := Rd.own OW.out
        obtain ⟨ad, rfl, _, _⟩ := hlr.ex (by omega)
        have HLL : Hid (∀ _ : Unit, l.length = k) := fun _ => hll
        clear hll hlr
        by_cases hlt : k ≤ mz
        · have hlz : (k : Int) ≤ (mz : Int) := by omega
          have HGN : Hid (∀ _ : Unit, nextG t (genG t g (k - 1)) = genG t g k) := fun _ => by
            obtain ⟨p, rfl⟩ : ∃ p, k = p + 1 := ⟨k - 1, by omega⟩
            rfl
          have p0 := RT.out.cell 0
          have p1 := RT.out.cell 1
          have p2 := RT.out.cell 2
          have pl := RT.out.lt
          simp only [List.getElem?_cons_zero, List.getElem?_cons_succ] at p0 p1 p2
          have q0 := RG.out.cell 0
          have q1 := RG.out.cell 1
          have q2 := RG.out.cell 2
          have q3 := RG.out.cell 3
          have ql := RG.out.lt
          simp only [List.getElem?_cons_zero, List.getElem?_cons_succ] at q0 q1 q2 q3
          go_wp2_with fail
          have HC := rNext_any t (genG t g (k - 1)) HA NA A' hn hc nn nc n c' sl wr (HT.out.up BW.out) GA.out (HOK.out.gen _)
          rw [(genG_shape t g (k - 1)).1, (genG_shape t g (k - 1)).2.1, (genG_shape t g (k - 1)).2.2.1, HGN.out ()] at HC
          refine HC.mono ?_
          clear HC
          rintro e W2 ⟨RA, rn, rc, he, hra, hno, hb⟩
          have HSH := genG_shape t g k
          have hrn : rn = n := by rw [← hra.cl, HSH.2.2.2, HL.out ()]
          subst hrn
          have he2 : e = .returned (.agg #[.int .i64 g.w, .int .i64 g.h, .int .i64 g.edge, .slice RA rn rc]) := by rw [he, HSH.1, HSH.2.1, HSH.2.2.1]
          subst he2
          clear HSH he
          have RT2 : Hid (Row W2 w.heap.size 25 [.int .i64 t.states, .slice HA hn hc, .slice NA nn nc]) := rowCells RT.out hb
          have RG2 : Hid (Row W2 (w.heap.size + 1) 28 [.int .i64 g.w, .int .i64 g.h, .int .i64 g.edge, .slice A' rn c']) := rowCells RG.out hb
          have BW2 : Hid (Below w.heap.size w W2) := below_on2 BW.out hb
          have GA2 : Hid (GAt W2 (genG t g k) RA rn) := hra
          have NO2 : Hid (NewOr RA rn 0 wr.heap.size) := hno
          have OW2 : Hid (World.ownsRow W2 w1.heap.size 28 4 (.slice (some ad) k lc) (k) (gridsC g rn (l))) := own_below OW.out hb (Nat.le_refl _)
          have GE2 : Hid (GensAt t g rn w.heap.size wa.heap.size W2 (.slice (some ad) k lc) (l)) := GE.out.up hb
          have HOL : Hid (∀ q, (Value.slice (some ad) k lc).ownBlock = some q → w1.heap.size ≤ q ∧ q < wr.heap.size) := fun q hq => OW.out.lt q hq
          have hsz2 : wr.heap.size ≤ W2.heap.size := hb.size
          clear hb hra hno p0 p1 p2 pl q0 q1 q2 q3 ql
          have q0 := RG2.out.cell 0
          have q1 := RG2.out.cell 1
          have q2 := RG2.out.cell 2
          have q3 := RG2.out.cell 3
          have ql := RG2.out.lt
          simp only [List.getElem?_cons_zero, List.getElem?_cons_succ] at q0 q1 q2 q3
          have qf0 := RG2.out.frozen 0
          have qf1 := RG2.out.frozen 1
          have qf2 := RG2.out.frozen 2
          have qf3 := RG2.out.frozen 3
          go_wp2_with fail
          have RTq : Hid (Row (World.setCell (World.setCell (World.setCell (World.setCell W2 ⟨(w.heap.size + 1), 0, none⟩ (.int .i64 g.w)) ⟨(w.heap.size + 1), 1, none⟩ (.int .i64 g.h)) ⟨(w.heap.size + 1), 2, none⟩ (.int .i64 g.edge)) ⟨(w.heap.size + 1), 3, none⟩ (.slice RA rn rc)) w.heap.size 25 [.int .i64 t.states, .slice HA hn hc, .slice NA nn nc]) := ((((RT2.out.far (p := ⟨(w.heap.size + 1), 0, none⟩) (by show w.heap.size ≠ (w.heap.size + 1); omega) _).far (p := ⟨(w.heap.size + 1), 1, none⟩) (by show w.heap.size ≠ (w.heap.size + 1); omega) _).far (p := ⟨(w.heap.size + 1), 2, none⟩) (by show w.heap.size ≠ (w.heap.size + 1); omega) _).far (p := ⟨(w.heap.size + 1), 3, none⟩) (by show w.heap.size ≠ (w.heap.size + 1); omega) _)
          have RGq : Hid (Row (World.setCell (World.setCell (World.setCell (World.setCell W2 ⟨(w.heap.size + 1), 0, none⟩ (.int .i64 g.w)) ⟨(w.heap.size + 1), 1, none⟩ (.int .i64 g.h)) ⟨(w.heap.size + 1), 2, none⟩ (.int .i64 g.edge)) ⟨(w.heap.size + 1), 3, none⟩ (.slice RA rn rc)) (w.heap.size + 1) 28 [.int .i64 g.w, .int .i64 g.h, .int .i64 g.edge, .slice RA rn rc]) := (((RG2.out.set 0 _).set 1 _).set 2 _).set 3 _
          have BWq : Hid (Below w.heap.size w (World.setCell (World.setCell (World.setCell (World.setCell W2 ⟨(w.heap.size + 1), 0, none⟩ (.int .i64 g.w)) ⟨(w.heap.size + 1), 1, none⟩ (.int .i64 g.h)) ⟨(w.heap.size + 1), 2, none⟩ (.int .i64 g.edge)) ⟨(w.heap.size + 1), 3, none⟩ (.slice RA rn rc))) := ((((BW2.out.setCell (p := ⟨(w.heap.size + 1), 0, none⟩) (by show _ ≤ (w.heap.size + 1); omega) _).setCell (p := ⟨(w.heap.size + 1), 1, none⟩) (by show _ ≤ (w.heap.size + 1); omega) _).setCell (p := ⟨(w.heap.size + 1), 2, none⟩) (by show _ ≤ (w.heap.size + 1); omega) _).setCell (p := ⟨(w.heap.size + 1), 3, none⟩) (by show _ ≤ (w.heap.size + 1); omega) _)
          have GAq : Hid (GAt (World.setCell (World.setCell (World.setCell (World.setCell W2 ⟨(w.heap.size + 1), 0, none⟩ (.int .i64 g.w)) ⟨(w.heap.size + 1), 1, none⟩ (.int .i64 g.h)) ⟨(w.heap.size + 1), 2, none⟩ (.int .i64 g.edge)) ⟨(w.heap.size + 1), 3, none⟩ (.slice RA rn rc)) (genG t g k) RA rn) := ((((GA2.out.farSet NO2.out (p := ⟨(w.heap.size + 1), 0, none⟩) (by show 0 ≤ (w.heap.size + 1); omega) (by show (w.heap.size + 1) < _; omega) _).farSet NO2.out (p := ⟨(w.heap.size + 1), 1, none⟩) (by show 0 ≤ (w.heap.size + 1); omega) (by show (w.heap.size + 1) < _; omega) _).farSet NO2.out (p := ⟨(w.heap.size + 1), 2, none⟩) (by show 0 ≤ (w.heap.size + 1); omega) (by show (w.heap.size + 1) < _; omega) _).farSet NO2.out (p := ⟨(w.heap.size + 1), 3, none⟩) (by show 0 ≤ (w.heap.size + 1); omega) (by show (w.heap.size + 1) < _; omega) _)
          have GEq : Hid (GensAt t g rn w.heap.size wa.heap.size (World.setCell (World.setCell (World.setCell (World.setCell W2 ⟨(w.heap.size + 1), 0, none⟩ (.int .i64 g.w)) ⟨(w.heap.size + 1), 1, none⟩ (.int .i64 g.h)) ⟨(w.heap.size + 1), 2, none⟩ (.int .i64 g.edge)) ⟨(w.heap.size + 1), 3, none⟩ (.slice RA rn rc)) (.slice (some ad) k lc) (l)) := ((((GE2.out.far (p := ⟨(w.heap.size + 1), 0, none⟩) (by show _ ≤ (w.heap.size + 1); omega) (by show (w.heap.size + 1) < _; omega) _).far (p := ⟨(w.heap.size + 1), 1, none⟩) (by show _ ≤ (w.heap.size + 1); omega) (by show (w.heap.size + 1) < _; omega) _).far (p := ⟨(w.heap.size + 1), 2, none⟩) (by show _ ≤ (w.heap.size + 1); omega) (by show (w.heap.size + 1) < _; omega) _).far (p := ⟨(w.heap.size + 1), 3, none⟩) (by show _ ≤ (w.heap.size + 1); omega) (by show (w.heap.size + 1) < _; omega) _)
          have OWq : Hid (World.ownsRow (World.setCell (World.setCell (World.setCell (World.setCell W2 ⟨(w.heap.size + 1), 0, none⟩ (.int .i64 g.w)) ⟨(w.heap.size + 1), 1, none⟩ (.int .i64 g.h)) ⟨(w.heap.size + 1), 2, none⟩ (.int .i64 g.edge)) ⟨(w.heap.size + 1), 3, none⟩ (.slice RA rn rc)) w1.heap.size 28 4 (.slice (some ad) k lc) (k) (gridsC g rn (l))) := (own_far (own_far (own_far (own_far OW2.out (p := ⟨(w.heap.size + 1), 0, none⟩) (fun e => by have := (HOL.out _ e).1; have : w1.heap.size ≤ (w.heap.size + 1) := this; omega) _) (p := ⟨(w.heap.size + 1), 1, none⟩) (fun e => by have := (HOL.out _ e).1; have : w1.heap.size ≤ (w.heap.size + 1) := this; omega) _) (p := ⟨(w.heap.size + 1), 2, none⟩) (fun e => by have := (HOL.out _ e).1; have : w1.heap.size ≤ (w.heap.size + 1) := this; omega) _) (p := ⟨(w.heap.size + 1), 3, none⟩) (fun e => by have := (HOL.out _ e).1; have : w1.heap.size ≤ (w.heap.size + 1) := this; omega) _)
          have hszq : Hid (wr.heap.size ≤ ((World.setCell (World.setCell (World.setCell (World.setCell W2 ⟨(w.heap.size + 1), 0, none⟩ (.int .i64 g.w)) ⟨(w.heap.size + 1), 1, none⟩ (.int .i64 g.h)) ⟨(w.heap.size + 1), 2, none⟩ (.int .i64 g.edge)) ⟨(w.heap.size + 1), 3, none⟩ (.slice RA rn rc))).heap.size) := (by show _ ≤ _; simp only [World.size_setCell]; omega)
          clear RT2 RG2 BW2 GA2 GE2 OW2 q0 q1 q2 q3 ql qf0 qf1 qf2 qf3 RT RG BW GA GE OW hsz2
          revert RTq RGq BWq GAq GEq OWq hszq
          generalize (World.setCell (World.setCell (World.setCell (World.setCell W2 ⟨(w.heap.size + 1), 0, none⟩ (.int .i64 g.w)) ⟨(w.heap.size + 1), 1, none⟩ (.int .i64 g.h)) ⟨(w.heap.size + 1), 2, none⟩ (.int .i64 g.edge)) ⟨(w.heap.size + 1), 3, none⟩ (.slice RA rn rc)) = wq
          intro RTq RGq BWq GAq GEq OWq hszq
          rename_i wold
          go_loopg [12] k (fun gg s12 wx => ∃ j : Nat, j ≤ k ∧ k - j ≤ gg ∧ s12 = .int .i64 j ∧ Aside (Below wq.heap.size wq wx) ∧ Aside (∀ i, i < j → (genG t g i).cells ≠ (genG t g k).cells))
          case atStart => exact ⟨0, Nat.zero_le _, by omega, rfl, Below.refl _ _, fun i hi => absurd hi (Nat.not_lt_zero _)⟩
          case round =>
            obtain ⟨j, hj, hgj, rfl, BX, HNE⟩ := hrel
            have RTr : Hid (Row wr w.heap.size 25 [.int .i64 t.states, .slice HA hn hc, .slice NA nn nc]) := rowCells RTq.out BX.out
            have RGr : Hid (Row wr (w.heap.size + 1) 28 [.int .i64 g.w, .int .i64 g.h, .int .i64 g.edge, .slice RA rn rc]) := rowCells RGq.out BX.out
            have BWr : Hid (Below w.heap.size w wr) := below_on2 BWq.out BX.out
            have GAr : Hid (GAt wr (genG t g k) RA rn) := GAq.out.up BX.out
            have GEr : Hid (GensAt t g rn w.heap.size wa.heap.size wr (.slice (some ad) k lc) (l)) := GEq.out.up BX.out
            have OWr : Hid (World.ownsRow wr w1.heap.size 28 4 (.slice (some ad) k lc) (k) (gridsC g rn (l))) := own_below OWq.out BX.out (Nat.le_refl _)
            have hszr : Hid (wq.heap.size ≤ wr.heap.size) := BX.out.size
            clear RTq RGq BWq GAq GEq OWq
            by_cases hlj : j < k
            · have hljz : (j : Int) < (k : Int) := by omega
              obtain ⟨gc0, gc1, gc2, gc3⟩ := gridsC_get g rn l j (by rw [HLL.out ()]; exact hlj)
              obtain ⟨ad', hade, hadb, c0, c1, c2, c3⟩ := (Rd.of_own OWr.out).row4 hlj gc0 gc1 gc2 gc3
              cases hade
              obtain ⟨gj1, _, _⟩ := GEr.out j (by rw [HLL.out ()]; exact hlj)
              generalize l.getD j default = pj at gj1 c3
              obtain ⟨Aj, cj⟩ := pj
              dsimp only at gj1 c3
              have HGJ : Hid (GAt wr (genG t g j) Aj rn) := gj1
              have HCN : Hid (∀ W9, Below wr.heap.size wr W9 → W9.cell? (ad.add (j * 4)) = some (.int .i64 g.w) ∧ W9.cell? ⟨(ad.add (j * 4)).block, (ad.add (j * 4)).off + 1, none⟩ = some (.int .i64 g.h) ∧ W9.cell? ⟨(ad.add (j * 4)).block, (ad.add (j * 4)).off + 2, none⟩ = some (.int .i64 g.edge) ∧ W9.cell? ⟨(ad.add (j * 4)).block, (ad.add (j * 4)).off + 3, none⟩ = some (.slice Aj rn cj)) :=
                fun W9 h9 => ⟨(h9.cell (by rw [add_block]; exact hadb)).trans c0, (h9.cell (by show (ad.add (j * 4)).block < _; rw [add_block]; exact hadb)).trans c1, (h9.cell (by show (ad.add (j * 4)).block < _; rw [add_block]; exact hadb)).trans c2, (h9.cell (by show (ad.add (j * 4)).block < _; rw [add_block]; exact hadb)).trans c3⟩
              have hi1 : (j : Int) < (k : Int) := hljz
              have hi0 : (0 : Int) ≤ (j : Int) := by omega
              clear gc0 gc1 gc2 gc3 c0 c1 c2 c3 gj1 hadb
              obtain ⟨sb, hsb⟩ : ∃ sb, decide ((genG t g j).cells = (genG t g k).cells) = sb := ⟨_, rfl⟩
              have HSB : Hid (∀ _ : Unit, decide ((genG t g j).cells = (genG t g k).cells) = sb) := fun _ => hsb
              clear hsb
              have B_w : Hid (Below w.heap.size w wr) := BWr.out
              have B_wq : Hid (Below wq.heap.size wq wr) := BX.out
              clear BX BWr
              go_wp2_with fail
              refine wp_region_L (fun w' => Row w' ((w.heap.size + 1)) 28 [.int .i64 g.w, .int .i64 g.h, .int .i64 g.edge, .slice RA rn rc] ∧ w'.cell? (ad.add (j * 4)) = some (.int .i64 g.w) ∧ w'.cell? ⟨(ad.add (j * 4)).block, (ad.add (j * 4)).off + 1, none⟩ = some (.int .i64 g.h) ∧ w'.cell? ⟨(ad.add (j * 4)).block, (ad.add (j * 4)).off + 2, none⟩ = some (.int .i64 g.edge) ∧ w'.cell? ⟨(ad.add (j * 4)).block, (ad.add (j * 4)).off + 3, none⟩ = some (.slice Aj rn cj)) [] (by kernel_rfl) (by exact ⟨Row.drew RGr.out, (HCN.out _ (Below.refl _ _)).1, (HCN.out _ (Below.refl _ _)).2.1, (HCN.out _ (Below.refl _ _)).2.2.1, (HCN.out _ (Below.refl _ _)).2.2.2⟩) (fun hHeld => ?_)
              have B_w : Hid (Below w.heap.size w (World.drew wr)) := B_w.out.drew
              have B_wq : Hid (Below wq.heap.size wq (World.drew wr)) := B_wq.out.drew
              have B_wr : Hid (Below wr.heap.size wr (World.drew wr)) := (Below.refl _ _).drew
              revert hHeld B_w B_wq B_wr
              generalize World.drew wr = wrq
              intro hHeld B_w B_wq B_wr
              refine restL_pure (i := 0) (v := ?va1) rfl (by kernel_rfl) (by kernel_rfl) (by kernel_rfl) (fun _ _ _ h => h) (Or.inl ⟨by rfl, ?ya1⟩) ?ra1
              case ya1 => intro w' hSw; clear hSw; go_simp; try (with_reducible rfl)
              go_simp
              refine restL_pure (i := 1) (v := ?va2) rfl (by kernel_rfl) (by kernel_rfl) (by kernel_rfl) (fun _ _ _ h => h) (Or.inl ⟨by rfl, ?ya2⟩) ?ra2
              case ya2 => intro w' hSw; clear hSw; go_simp; try (with_reducible rfl)
              go_simp
              refine restL_take (i := 2) (v := ?va3) [] rfl (by kernel_rfl) (by kernel_rfl) (by kernel_rfl) (by kernel_rfl) (fun _ _ _ h => h) (Or.inl ⟨by rfl, ?ya3⟩) hHeld ?ra3
              case ya3 =>
                intro w' hSw
                obtain ⟨hS0, hF0, hF1, hF2, hF3⟩ := hSw
                have hT0 : Hid (Row w' ((w.heap.size + 1)) 28 [.int .i64 g.w, .int .i64 g.h, .int .i64 g.edge, .slice RA rn rc]) := hS0
                clear hS0
                have z0_0 := hT0.out.cell 0
                have z0_1 := hT0.out.cell 1
                have z0_2 := hT0.out.cell 2
                have z0_3 := hT0.out.cell 3
                have z0_l := hT0.out.lt
                simp only [List.getElem?_cons_zero, List.getElem?_cons_succ] at z0_0 z0_1 z0_2 z0_3
                go_simp
                try (with_reducible rfl)
              go_simp
              refine restL_take (i := 3) (v := ?va4) [] rfl (by kernel_rfl) (by kernel_rfl) (by kernel_rfl) (by kernel_rfl) (fun _ _ _ h => h) (Or.inl ⟨by rfl, ?ya4⟩) hHeld ?ra4
              case ya4 =>
                intro w' hSw
                obtain ⟨hS0, hF0, hF1, hF2, hF3⟩ := hSw
                have hT0 : Hid (Row w' ((w.heap.size + 1)) 28 [.int .i64 g.w, .int .i64 g.h, .int .i64 g.edge, .slice RA rn rc]) := hS0
                clear hS0
                have z0_0 := hT0.out.cell 0
                have z0_1 := hT0.out.cell 1
                have z0_2 := hT0.out.cell 2
                have z0_3 := hT0.out.cell 3
                have z0_l := hT0.out.lt
                simp only [List.getElem?_cons_zero, List.getElem?_cons_succ] at z0_0 z0_1 z0_2 z0_3
                go_simp
                try (with_reducible rfl)
              go_simp
              refine restL_take (i := 4) (v := ?va5) [] rfl (by kernel_rfl) (by kernel_rfl) (by kernel_rfl) (by kernel_rfl) (fun _ _ _ h => h) (Or.inl ⟨by rfl, ?ya5⟩) hHeld ?ra5
              case ya5 =>
                intro w' hSw
                obtain ⟨hS0, hF0, hF1, hF2, hF3⟩ := hSw
                have hT0 : Hid (Row w' ((w.heap.size + 1)) 28 [.int .i64 g.w, .int .i64 g.h, .int .i64 g.edge, .slice RA rn rc]) := hS0
                clear hS0
                have z0_0 := hT0.out.cell 0
                have z0_1 := hT0.out.cell 1
                have z0_2 := hT0.out.cell 2
                have z0_3 := hT0.out.cell 3
                have z0_l := hT0.out.lt
                simp only [List.getElem?_cons_zero, List.getElem?_cons_succ] at z0_0 z0_1 z0_2 z0_3
                go_simp
                try (with_reducible rfl)
              go_simp
              refine restL_one (i := 5) (by kernel_rfl) rfl (fun K hK => ?_)
              go_simp
              go_at_call 13
              have HCT := rGSame_any (genG t g j) (genG t g k) Aj RA rn cj rn rc wrq (HGJ.out.up B_wr.out) (GAr.out.up B_wr.out)
              rw [(genG_shape t g j).1, (genG_shape t g j).2.1, (genG_shape t g j).2.2.1, (genG_shape t g k).1, (genG_shape t g k).2.1, (genG_shape t g k).2.2.1, same_gens, HSB.out ()] at HCT
              refine HCT.mono ?_
              clear HCT
              rintro e we ⟨rfl, hb⟩
              have B_w : Hid (Below w.heap.size w we) := below_on2 B_w.out hb
              have B_wq : Hid (Below wq.heap.size wq we) := below_on2 B_wq.out hb
              have B_wr : Hid (Below wr.heap.size wr we) := below_on2 B_wr.out hb
              have B_wrq : Hid (Below wrq.heap.size wrq we) := hb
              clear hb
              clear hHeld
              refine hK.out _ _ (fun _ => ?keep) (fun hHeld => ?_)
              case keep => exact ⟨(rowCells RGr.out B_wr.out), (HCN.out _ B_wr.out).1, (HCN.out _ B_wr.out).2.1, (HCN.out _ B_wr.out).2.2.1, (HCN.out _ B_wr.out).2.2.2⟩
              have hHeld := hHeld rfl
              clear hK K
              try go_simp
              refine restL_done (by kernel_rfl) ?_ _
              have BXe : Hid (Below wq.heap.size wq we) := B_wq.out
              have BWe : Hid (Below w.heap.size w we) := B_w.out
              cases sb
              · go_wp2_with fail
                go_roundg (k - (j + 1))
                case measure => omega
                case rel =>
                  refine ⟨j + 1, by omega, by omega, by go_num, BXe.out, fun i hi => ?_⟩
                  rcases Nat.lt_or_ge i j with h1 | h1
                  · exact HNE.out i h1
                  · obtain rfl : i = j := by omega
                    exact of_decide_eq_false (HSB.out ())
              · have HCY : Hid (∀ _ : Unit, cycErr t g (mz : Int) = 0 ∧ cycS t g (mz : Int) = (j : Int) ∧ cycP t g (mz : Int) = (k : Int) - (j : Int)) := fun _ => cyc_hit (HFE.out ()) (by omega) (by omega) HN.out (cycK_of HN.out hlj (of_decide_eq_true (HSB.out ())))
                go_wp2_with fail
                refine bodyPost_ret (v := .tuple #[.int .i64 ((j : Int)), .int .i64 ((k : Int) - (j : Int)), .int .i64 (0)]) (by simp [results, Try.results17, go_sem]) rfl ?_
                exact ⟨by rw [(HCY.out ()).1, (HCY.out ()).2.1, (HCY.out ()).2.2], BWe.out⟩
            · have hljz : ¬ (j : Int) < (k : Int) := by omega
              obtain rfl : k = j := by omega
              have q0 := RGr.out.cell 0
              have q1 := RGr.out.cell 1
              have q2 := RGr.out.cell 2
              have q3 := RGr.out.cell 3
              have ql := RGr.out.lt
              simp only [List.getElem?_cons_zero, List.getElem?_cons_succ] at q0 q1 q2 q3
              have hblk : w1.heap.size ≤ wr.heap.size := by have := hszr.out; have := hszq.out; omega
              go_wp2_with (at_builtin; refine wpList_app rfl (.tmp 51) (.tmp 53) 56 rfl w1.heap.size 28 (.agg #[.int .i64 0, .int .i64 0, .int .i64 0, .slice none 0 0]) 4 48 Try.underlying56 grid_info4 rfl (by decide) (by decide) (.slice (some ad) k lc) k (gridsC g rn l) rfl ?own (wr.heap.size + 1) (some ⟨wr.heap.size, 0, none⟩) 1 1 [.int .i64 g.w, .int .i64 g.h, .int .i64 g.edge, .slice RA rn rc] rfl ?rd ?one ?hb ?hbase ?_)
              case own => exact OWr.out.alloc _
              case rd => exact Rd.lit wr #[.int .i64 g.w, .int .i64 g.h, .int .i64 g.edge, .slice RA rn rc] 28 (sz := 4) (m := 1) rfl
              case one => first | exact grid_one _ _ _ _ | exact ⟨rfl, rfl, rfl, rfl⟩
              case hb => omega
              case hbase => first | (simp; omega) | omega
              intro v' w' hown' hgrow' hat'
              obtain ⟨VB, vd, rfl, _⟩ := Rd.own hown'
              have HNQ : ∀ q, (Value.slice (some ad) k lc).ownBlock = some q → NewOr RA rn q (q + 1) := fun q hq => NO2.out.of_lt (HOL.out q hq).2
              obtain ⟨ge5, ga5⟩ := GEr.out.push (v' := .slice VB (k + 1) vd) (rc := rc) (HLL.out ()) GAr.out (NO2.out.mono (Nat.zero_le _) (by omega)) HNQ hgrow' (by rw [World.size_alloc]; exact hat')
              have RT5 : Hid (Row w' w.heap.size 25 [.int .i64 t.states, .slice HA hn hc, .slice NA nn nc]) := (RTr.out.alloc _).grown hgrow' (fun e => by have := (HOL.out _ e.symm).1; omega)
              have RG5 : Hid (Row w' (w.heap.size + 1) 28 [.int .i64 g.w, .int .i64 g.h, .int .i64 g.edge, .slice RA rn rc]) := (RGr.out.alloc _).grown hgrow' (fun e => by have := (HOL.out _ e.symm).1; omega)
              have BW5 : Hid (Below w.heap.size w w') := (BWr.out.alloc BWr.out.size _).grown hgrow' (by have := BWr.out.size; simp; omega) (fun q hq => by have := (HOL.out q hq).1; omega)
              have GE5 : Hid (GensAt t g rn w.heap.size wa.heap.size w' (.slice VB (k + 1) vd) (l ++ [(RA, rc)])) := ge5
              have GA5 : Hid (GAt w' (genG t g (k + 1 - 1)) RA rn) := ga5
              have OW5 : Hid (World.ownsRow w' w1.heap.size 28 4 (.slice VB (k + 1) vd) (k + 1) (gridsC g rn (l ++ [(RA, rc)]))) := (by show World.ownsRow _ _ _ _ _ _ _; rw [gridsC_snoc]; exact hown')
              have hsz5 : Hid (w1.heap.size ≤ w'.heap.size) := Nat.le_trans hblk (Nat.le_trans (by simp) hgrow'.size)
              have HN5 : Hid (∀ i, i < k + 1 → cycK t g i = none) := fun i hi => by
                rcases Nat.lt_or_ge i k with h1 | h1
                · exact HN.out i h1
                · obtain rfl : i = k := by omega
                  exact cycK_none HNE.out
              clear ge5 ga5 hown' hgrow' hat' HNQ q0 q1 q2 q3 ql RTr RGr BWr GAr GEr OWr
              go_wp2_with fail
              go_roundg (mz + 1 - (k + 1))
              case measure => omega
              case rel => exact ⟨k + 1, _, l ++ [(RA, rc)], RA, rc, by omega, by omega, by omega, by go_num, rfl, by rw [List.length_append, HLL.out ()]; rfl, BW5.out, RT5.out, RG5.out, GA5.out, OW5.out, GE5.out, HN5.out, hsz5.out⟩
        · have hlz : ¬ (k : Int) ≤ (mz : Int) := by omega
          have HER : Hid (∀ _ : Unit, cycErr t g (mz : Int) = 14) := fun _ => cyc_limit (HFE.out ()) (by omega) (fun j hj => HN.out j (by omega))
          go_wp2_with fail
          refine bodyPost_ret (v := .tuple #[.int .i64 (0), .int .i64 (0), .int .i64 (14)]) (by simp [results, Try.results17, go_sem]) rfl ?_
          exact ⟨by rw [(cyc_err (HER.out ()) (by decide)).1, (cyc_err (HER.out ()) (by decide)).2, HER.out ()], BW.out⟩
    · have HER : Hid (∀ _ : Unit, cycErr t g z = 2) := fun _ => cyc_out (HFE.out ()) hz
      clear HFE
      by_cases hz0 : z < 0
      · clear hz
        go_wp2_with fail
        refine bodyPost_ret (v := .tuple #[.int .i64 (0), .int .i64 (0), .int .i64 (2)]) (by simp [results, Try.results17, go_sem]) rfl ?_
        exact ⟨by rw [(cyc_err (HER.out ()) (by decide)).1, (cyc_err (HER.out ()) (by decide)).2, HER.out ()], B_w.out⟩
      · have hz1 : z > 10000 := by omega
        clear hz
        go_wp2_with fail
        refine bodyPost_ret (v := .tuple #[.int .i64 (0), .int .i64 (0), .int .i64 (2)]) (by simp [results, Try.results17, go_sem]) rfl ?_
        exact ⟨by rw [(cyc_err (HER.out ()) (by decide)).1, (cyc_err (HER.out ()) (by decide)).2, HER.out ()], B_w.out⟩
  · have HER : Hid (∀ _ : Unit, cycErr t g z = fe ∧ fe ≠ 0) := fun _ => ⟨by rw [← HFE.out ()]; exact cyc_fits z (by rw [HFE.out ()]; exact hf), hf⟩
    clear HFE
    go_wp2_with fail
    refine bodyPost_ret (v := .tuple #[.int .i64 (0), .int .i64 (0), .int .i64 (fe)]) (by simp [results, Try.results17, go_sem]) rfl ?_
    exact ⟨by rw [(cyc_err (HER.out ()).1 (HER.out ()).2).1, (cyc_err (HER.out ()).1 (HER.out ()).2).2, (HER.out ()).1], B_w.out⟩
end Go.Proofs.Ytdkfaphclhaiaaa
