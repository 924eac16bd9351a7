/-
  The reference's place, walked.
-/
import Derived.Test.YtofflkfkakddkaaEShare
import Derived.Test.YtofflkfkakddkaaEClauses
import Derived.Test.YtofflkfkakddkaaCRunG
import Derived.Test.YtofflkfkakddkaaCRefRight
import Derived.Test.YtofflkfkakddkaaRegL
import Derived.StillTailTactics
namespace Go.Proofs.Ytofflkfkakddkaa
open Go.RowKit
set_option linter.unusedSimpArgs false
set_option linter.unusedVariables false
/-- A clause while the block q of another list of integers grows too. -/
def InX (w : World) (b0 base : Nat) (q : Option Nat) (s : Sl) (l : List Int) : Prop :=
  b0 ≤ base ∧ (Rd w b0 1 s.at_ s.len (ints l) ∨ ∃ g, base ≤ g ∧ q ≠ some g ∧ s.at_ = some ⟨g, 0, none⟩ ∧ s.len = l.length ∧ Row w g 3 (ints l)) ∧ s.len ≤ maxLen
structure XOwn (w : World) (b0 base : Nat) (q : Option Nat) (v : Value) (sl : List Sl) (cls : List (List Int)) : Prop where
  len : sl.length = cls.length
  le : b0 ≤ base
  own : w.ownsRow base 23 1 v cls.length (slCells sl)
  row : ∀ i, i < cls.length → InX w b0 base q (sl.getD i default) (cls.getD i [])
section
variable {w w' : World} {b0 base : Nat} {q q' : Option Nat} {s : Sl} {l : List Int} {v v' : Value} {sl sn : List Sl} {cls news : List (List Int)}
theorem InX.inAt (h : InX w b0 base q s l) : InAt w b0 base s l := ⟨h.2.1.imp id (fun ⟨g, e0, _, r⟩ => ⟨g, e0, r⟩), h.2.2⟩
theorem InX.up (h : InX w b0 base q s l) (hB : base ≤ w.heap.size) (hb : Below w.heap.size w w') : InX w' b0 base q s l :=
  ⟨h.1, h.2.1.imp (fun h1 => h1.below hb (Nat.le_trans h.1 hB)) (fun ⟨g, e0, e, e1, e2, h1⟩ => ⟨g, e0, e, e1, e2, rowCells h1 hb⟩), h.2.2⟩
theorem InX.keep {row : Option Nat} (h : InX w b0 base q s l) (hB : base ≤ w.heap.size) (hg : w.grownBy w' row) (hr : ∀ k, row = some k → base ≤ k ∧ ∀ xs, ¬ Row w k 3 xs) : InX w' b0 base q s l := by
  have hle := h.1
  refine ⟨h.1, h.2.1.imp (fun h1 => h1.keep fun p hp => ?_) (fun ⟨g, e0, e, e1, e2, h1⟩ => ⟨g, e0, e, e1, e2, h1.grown hg (fun e => (hr g e.symm).2 _ h1)⟩), h.2.2⟩
  have hne : some p.block ≠ row := fun e => by have := (hr _ e.symm).1; omega
  unfold World.cell?
  rw [hg.block p.block (by omega) hne]
/-- The other list grows. -/
theorem InX.grow (h : InX w b0 base q s l) (hB : base ≤ w.heap.size) (hg : w.grownBy w' q) (hq : ∀ k, q = some k → base ≤ k) (hq' : q' = q ∨ ∃ k, q' = some k ∧ w.heap.size ≤ k) : InX w' b0 base q' s l := by
  have hle := h.1
  refine ⟨h.1, h.2.1.imp (fun h1 => h1.keep fun p hp => ?_) (fun ⟨g, e0, e, e1, e2, h1⟩ => ⟨g, e0, ?_, e1, e2, h1.grown hg (fun e' => e e'.symm)⟩), h.2.2⟩
  · have hne : some p.block ≠ q := fun e => by have := hq _ e.symm; omega
    unfold World.cell?
    rw [hg.block p.block (by omega) hne]
  · rcases hq' with hq' | ⟨k, hq', hk⟩
    · rw [hq']; exact e
    · rw [hq']
      have := h1.lt
      intro e'
      injection e' with e'
      omega
theorem InX.far {p : Addr} {T : TypeId} {cs : List Value} (h : InX w b0 base q s l) (hr : Row w p.block T cs) (hT : T ≠ 3) (hp : base ≤ p.block) (u : Value) : InX (w.setCell p u) b0 base q s l := by
  refine ⟨h.1, h.2.1.imp (fun h1 => h1.setCell (Nat.le_trans h.1 hp) u) (fun ⟨g, e0, e, e1, e2, h1⟩ => ⟨g, e0, e, e1, e2, h1.far (fun e => ?_) u⟩), h.2.2⟩
  subst e
  unfold Row at h1 hr
  rw [hr] at h1
  injection h1 with h1
  injection h1 with _ ht
  exact hT ht
theorem InNew.inX {lo : Nat} (h : InNew w lo s l) (h0 : b0 ≤ base) (hb : base ≤ lo) (hq : ∀ k, q = some k → k < lo) : InX w b0 base q s l := by
  obtain ⟨⟨g, h0', h1, h2, h3⟩, hm⟩ := h
  exact ⟨h0, .inr ⟨g, Nat.le_trans hb h0', fun e => by have := hq g e; omega, h1, h2, h3⟩, hm⟩
theorem InNew.up {lo : Nat} (h : InNew w lo s l) (hb : Below w.heap.size w w') : InNew w' lo s l := by
  obtain ⟨⟨g, h0, h1, h2, h3⟩, hm⟩ := h
  exact ⟨⟨g, h0, h1, h2, rowCells h3 hb⟩, hm⟩
theorem XOwn.eown (h : XOwn w b0 base q v sl cls) : EOwn w b0 base v sl cls := ⟨h.len, own_base h.own h.le, fun i hi => (h.row i hi).inAt⟩
theorem XOwn.up (h : XOwn w b0 base q v sl cls) (hB : base ≤ w.heap.size) (hb : Below w.heap.size w w') : XOwn w' b0 base q v sl cls :=
  ⟨h.len, h.le, own_below h.own hb (Nat.le_refl _), fun i hi => (h.row i hi).up hB hb⟩
theorem XOwn.far {p : Addr} {T : TypeId} {cs : List Value} (h : XOwn w b0 base q v sl cls) (hr : Row w p.block T cs) (hT : T ≠ 3) (hT2 : 23 ≠ T) (hp : base ≤ p.block) (u : Value) : XOwn (w.setCell p u) b0 base q v sl cls :=
  ⟨h.len, h.le, own_set h.own hr hT2 u, fun i hi => (h.row i hi).far hr hT hp u⟩
/-- The other list (of integers) grows. -/
theorem XOwn.grow {n : Nat} {x : Value} {xs : List Value} (h : XOwn w b0 base x.ownBlock v sl cls) (ho : w.ownsRow base 3 1 x n xs) (hB : base ≤ w.heap.size) (hg : w.grownBy w' x.ownBlock) (hq' : q' = x.ownBlock ∨ ∃ k, q' = some k ∧ w.heap.size ≤ k) : XOwn w' b0 base q' v sl cls := by
  have hq : ∀ k, x.ownBlock = some k → base ≤ k := fun k hk => (ho.lt k hk).1
  refine ⟨h.len, h.le, own_grown h.own hg (fun k hk e => ?_), fun i hi => (h.row i hi).grow hB hg hq hq'⟩
  obtain ⟨c1, k1, _⟩ := own_block_type h.own hk
  obtain ⟨c2, k2, _⟩ := own_block_type ho e
  rw [k1] at k2
  injection k2 with k2
  injection k2 with _ ht
  exact absurd ht (by decide)
/-- More clauses. -/
theorem XOwn.app {w1 : World} (h : XOwn w1 b0 base q v sl cls) (hB : base ≤ w1.heap.size) (hl : sn.length = news.length) (hn : ∀ i, i < news.length → InX w1 b0 base q (sn.getD i default) (news.getD i []))
    (hg : w1.grownBy w' v.ownBlock) (ho : w'.ownsRow base 23 1 v' (cls.length + news.length) (slCells sl ++ slCells sn)) : XOwn w' b0 base q v' (sl ++ sn) (cls ++ news) := by
  have hlen := h.len
  refine ⟨by simp [hlen, hl], h.le, by rw [List.length_append, slCells_append]; exact ho, fun i hi => ?_⟩
  rw [List.length_append] at hi
  by_cases e : i < cls.length
  · rw [getD_app_lt _ _ _ _ (by omega), getD_app_lt _ _ _ _ e]
    exact (h.row i e).keep hB hg (own_not_int h.own)
  · rw [getD_app_ge _ _ _ _ (by omega), getD_app_ge _ _ _ _ (by omega), hlen]
    exact (hn (i - cls.length) (by omega)).keep hB hg (own_not_int h.own)
end
/-- What a call returns that returns a formula and a list of variables. -/
def PlaceFPost (b0 : Nat) (r : Fml) (os : List Int) (w : World) (e : Ending) (w' : World) : Prop :=
  ∃ (A : Option Addr) (n c : Nat) (sl : List Sl) (OA : Option Addr) (on oc : Nat), e = .returned (.tuple #[.agg #[.int .i64 r.vars, .slice A n c], .slice OA on oc]) ∧ (r.cls.length = n ∧ n ≤ 1000000) ∧ EOwn w' b0 w.heap.size (.slice A n c) sl r.cls ∧
    w'.ownsRow w.heap.size 3 1 (.slice OA on oc) on (ints os) ∧ on ≤ maxLen ∧ Below w.heap.size w w'

set_option maxRecDepth 100000 in
set_option maxHeartbeats 10000000 in
theorem rPlaceF_any (f : Fml) (c : Circ) (ins : List Int) (FA GA OA IA : Option Addr) (fn fc gn gc on oc k ic : Nat) (sl : List Sl) (w : World)
    (hf : FAt w f FA fn sl) (hc : CAt w c GA OA gn on) (hi : Rd w w.heap.size 1 IA k (ints ins)) (hok : placeOk f c ins = true) (b0 : Nat) (hb0 : b0 ≤ w.heap.size) (hin : ∀ i, i < f.cls.length → Rd w b0 1 (sl.getD i default).at_ (sl.getD i default).len (ints (f.cls.getD i [])) ∧ (sl.getD i default).len ≤ maxLen) :
    Calls Try.prog 26 #[.agg #[.int .i64 f.vars, .slice FA fn fc], .agg #[.int .i64 c.inputs, .slice GA gn gc, .slice OA on oc], .slice IA k ic] w (PlaceFPost b0 (placeF f c ins) (placeO f c ins) w) := by
  have HF : Hid (FAt w f FA fn sl) := hf
  have HC : Hid (CAt w c GA OA gn on) := hc
  have HI : Hid (Rd w w.heap.size 1 IA k (ints ins)) := hi
  have HIN : Hid (∀ i, i < f.cls.length → Rd w b0 1 (sl.getD i default).at_ (sl.getD i default).len (ints (f.cls.getD i [])) ∧ (sl.getD i default).len ≤ maxLen) := hin
  clear hin
  have HLI : Hid (ins.length = k) := by have := hi.1; rw [ints_length, Nat.mul_one] at this; exact this
  have HLG : Hid (c.gates.length = gn) := hc.gl
  have HON : Hid (c.outs.length = on) := hc.ol
  have HFL : Hid (f.cls.length = fn) := hf.wl
  unfold placeOk at hok
  simp only [Bool.and_eq_true, decide_eq_true_eq] at hok
  obtain ⟨hr1, hr2, hl, hr3⟩ := hok
  have HKI : Hid ((k : Int) = c.inputs) := by have := HLI.out; show _ = _; rw [← hl, this]
  obtain ⟨⟨p1, p2, p3, p4⟩, pg, po⟩ := rightC_parts hr2
  have HPG : Hid (∀ j, j < c.gates.length → gateOk (c.inputs + j) (c.gates.getD j default) = true) := pg
  have HPO : Hid (c.outs.all (outOk (c.inputs + c.gates.length)) = true) := po
  have hz : 0 ≤ f.vars ∧ f.vars ≤ 65536 ∧ f.cls.length ≤ 262144 := by
    unfold rightF sizesF at hr1
    simp only [Bool.and_eq_true, decide_eq_true_eq] at hr1
    exact hr1.1
  obtain ⟨z1, z2, z3⟩ := hz
  obtain ⟨nv, hnv⟩ : ∃ nv : Nat, f.vars = (nv : Int) := ⟨f.vars.toNat, by omega⟩
  have HNV : Hid (f.vars = (nv : Int)) := hnv
  have HR3 : Hid (varsOk f.vars ins = true) := hr3
  rw [HLG.out] at p3
  rw [HON.out] at p4
  rw [HFL.out] at z3
  have hkz := HKI.out
  have hk1 : k ≤ 1000 := by omega
  have hnv6 : nv ≤ 65536 := by omega
  clear hf hc hi hr1 hr2 hr3 hl pg po hkz z1 z2 p1 p2 hnv
  go_enter Try.func26, Try.ntmps26
  go_wp2_with (at_builtin; refine wpList_app rfl (.tmp 20) (.tmp 22) 28 rfl w.heap.size 23 (.slice none 0 0) 1 24 Try.underlying28 row_infoE rfl (by decide) (by decide) (.slice none 0 0) (0) ([]) rfl ?own w.heap.size FA fn fc (slCells sl) rfl ?rd (slCells_one _) ?hb ?hbase ?_)
  case own => exact World.ownsRow_nil _ _ _ _
  case rd => exact (HF.out.rows.below (show Below w.heap.size w _ by go_grown) (Nat.le_refl _))
  case hb => omega
  case hbase => first | (simp; omega) | omega
  intro v' w' hown' hgrow' hat'
  have RC : Hid (Row w' (w.heap.size + 1) 25 [.int .i64 c.inputs, .slice GA gn gc, .slice OA on oc]) := (((rowNew1 w _ 25 [.int .i64 c.inputs, .slice GA gn gc, .slice OA on oc]).alloc _).alloc _).grown hgrow' (by simp [Value.ownBlock])
  have RZ : Hid (Row w' (w.heap.size + 1 + 1) 30 [.int .i64 0, .slice none 0 0]) := ((rowNew2 w _ _ 30 [.int .i64 0, .slice none 0 0]).alloc _).grown hgrow' (by simp [Value.ownBlock])
  have RO : Hid (Row w' (w.heap.size + 1 + 1 + 1) 30 [.int .i64 f.vars, .slice none 0 0]) := (by
    have h0 := Row.new (World.alloc (World.alloc (World.alloc w (.cells #[.int .i64 f.vars, .slice FA fn fc] 30)) (.cells #[.int .i64 c.inputs, .slice GA gn gc, .slice OA on oc] 25)) (.cells #[.int .i64 0, .slice none 0 0] 30)) 30 [.int .i64 f.vars, .slice none 0 0]
    simp only [World.size_alloc] at h0
    exact h0.grown hgrow' (by simp [Value.ownBlock]))
  have HB : Hid (Below w.heap.size w w') := (show Below w.heap.size w (World.alloc (World.alloc (World.alloc (World.alloc w (.cells #[.int .i64 f.vars, .slice FA fn fc] 30)) (.cells #[.int .i64 c.inputs, .slice GA gn gc, .slice OA on oc] 25)) (.cells #[.int .i64 0, .slice none 0 0] 30)) (.cells #[.int .i64 f.vars, .slice none 0 0] 30)) by go_grown).grown hgrow' (by simp; omega) (fun k hk => by simp [Value.ownBlock] at hk)
  obtain ⟨VA, vc, rfl, _⟩ := Rd.own hown'
  have HS1 : Hid (w.heap.size ≤ w'.heap.size) := HB.out.size
  have HX : Hid (XOwn w' b0 w.heap.size none (.slice VA fn vc) sl (f.cls ++ placeTo nv ins c.gates 0)) := by
    show XOwn _ _ _ _ _ _ _
    rw [show placeTo nv ins c.gates 0 = [] from rfl, List.append_nil]
    refine ⟨HF.out.sll, hb0, (by rw [HFL.out]; exact hown'), fun i hi => ⟨hb0, .inl ((HIN.out i hi).1.below HB.out hb0), (HIN.out i hi).2⟩⟩
  clear hown' hgrow' hat'
  have d0 := RO.out.cell 0
  have d1 := RO.out.cell 1
  have dl := RO.out.lt
  simp only [List.getElem?_cons_zero, List.getElem?_cons_succ] at d0 d1
  have df0 := RO.out.frozen 0
  have df1 := RO.out.frozen 1
  go_wp2_with (at_builtin; refine wpList_app rfl (.tmp 25) (.tmp 26) 23 rfl w.heap.size 3 (.int .i64 0) 1 8 Try.underlying23 int_infoE rfl (by decide) (by decide) (.slice none 0 0) (0) ([]) rfl ?own w.heap.size IA k ic (ints ins) rfl ?rd (ints_one _) ?hb ?hbase ?_)
  case own => exact World.ownsRow_nil _ _ _ _
  case rd => exact (HI.out.below (HB.out.setCell (p := ⟨w.heap.size + 1 + 1 + 1, 1, none⟩) (by show _ ≤ w.heap.size + 1 + 1 + 1; omega) _) (Nat.le_refl _))
  case hb => omega
  case hbase => first | (simp; omega) | omega
  intro v' w2 hown' hgrow' hat'
  obtain ⟨QA, qc, rfl, _⟩ := Rd.own hown'
  have RC2 : Hid (Row w2 (w.heap.size + 1) 25 [.int .i64 k, .slice GA gn gc, .slice OA on oc]) := (by
    show Row _ _ _ _
    rw [HKI.out]
    exact (RC.out.far (p := ⟨w.heap.size + 1 + 1 + 1, 1, none⟩) (by show w.heap.size + 1 ≠ w.heap.size + 1 + 1 + 1; omega) _).grown hgrow' (by simp [Value.ownBlock]))
  have RZ2 : Hid (Row w2 (w.heap.size + 1 + 1) 30 [.int .i64 0, .slice none 0 0]) := (RZ.out.far (p := ⟨w.heap.size + 1 + 1 + 1, 1, none⟩) (by show w.heap.size + 1 + 1 ≠ w.heap.size + 1 + 1 + 1; omega) _).grown hgrow' (by simp [Value.ownBlock])
  have RO2 : Hid (Row w2 (w.heap.size + 1 + 1 + 1) 30 [.int .i64 ((nv + 0 : Nat) : Int), .slice VA fn vc]) := (by
    show Row _ _ _ _
    have h0 := (RO.out.set 1 (.slice VA fn vc)).grown hgrow' (by simp [Value.ownBlock])
    rw [HNV.out] at h0
    exact h0)
  have HX2 : Hid (XOwn w2 b0 w.heap.size (Value.slice QA k qc).ownBlock (.slice VA fn vc) sl (f.cls ++ placeTo nv ins c.gates 0)) := (by
    have h1 := HX.out.far (p := ⟨w.heap.size + 1 + 1 + 1, 1, none⟩) RO.out (by decide) (by decide) (by show _ ≤ w.heap.size + 1 + 1 + 1; omega) (.slice VA fn vc)
    exact XOwn.grow (x := .slice none 0 0) (n := 0) (xs := []) h1 (World.ownsRow_nil _ _ _ _) (by rw [World.size_setCell]; exact HS1.out) hgrow' (hat'.imp id (fun e => ⟨_, e, by rw [World.size_setCell]; exact Nat.le_refl _⟩)))
  have HO2 : Hid (w2.ownsRow w.heap.size 3 1 (.slice QA k qc) (k + 0) (ints (wiresV nv ins 0))) := (by show World.ownsRow _ _ _ _ _ _ _; rw [wiresV_zero]; exact hown')
  have BW2 : Hid (Below w.heap.size w w2) := (HB.out.setCell (p := ⟨w.heap.size + 1 + 1 + 1, 1, none⟩) (by show _ ≤ w.heap.size + 1 + 1 + 1; omega) _).grown hgrow' (by rw [World.size_setCell]; exact HS1.out) (fun k hk => by simp [Value.ownBlock] at hk)
  clear hown' hgrow' hat' RC RZ RO HX HB HS1 d0 d1 dl df0 df1
  have k0 := RC2.out.cell 0
  have k1 := RC2.out.cell 1
  have k2 := RC2.out.cell 2
  have kl := RC2.out.lt
  simp only [List.getElem?_cons_zero, List.getElem?_cons_succ] at k0 k1 k2
  go_wp2
  clear k0 k1 k2 kl
  go_loopg [9, 10, 11, 12, 13] gn (fun gg s9 s10 _ _ _ wr => ∃ (i : Nat) (v vo : Value) (sl2 : List Sl), i ≤ gn ∧ gn - i ≤ gg ∧ s10 = .int .i64 i ∧ s9 = vo ∧ Aside (Below w.heap.size w wr) ∧ Aside (Row wr (w.heap.size + 1) 25 [.int .i64 k, .slice GA gn gc, .slice OA on oc]) ∧ Aside (Row wr (w.heap.size + 1 + 1) 30 [.int .i64 0, .slice none 0 0]) ∧ Aside (Row wr (w.heap.size + 1 + 1 + 1) 30 [.int .i64 ((nv + i : Nat) : Int), v]) ∧ Aside (XOwn wr b0 w.heap.size vo.ownBlock v sl2 (f.cls ++ placeTo nv ins c.gates i)) ∧ Aside (wr.ownsRow w.heap.size 3 1 vo (k + i) (ints (wiresV nv ins i))))
  case atStart => exact ⟨0, _, _, _, Nat.zero_le _, by omega, rfl, rfl, BW2.out, RC2.out, RZ2.out, RO2.out, HX2.out, HO2.out⟩
  case round =>
    clear BW2 RC2 RZ2 RO2 HX2 HO2
    obtain ⟨i, v, vo, sl2, hi, hgg, rfl, rfl, BW, RC, RZ, RO, HX, HO⟩ := hrel
    by_cases hlt : i < gn
    · have hltz : (i : Int) < (gn : Int) := by omega
      obtain ⟨XA, xc, rfl⟩ := HX.out.eown.form
      obtain ⟨QA, qc, rfl, _⟩ := Rd.own HO.out
      obtain ⟨xn, hxn⟩ : ∃ xn, xn = (f.cls ++ placeTo nv ins c.gates i).length := ⟨_, rfl⟩
      have HXN : Hid ((f.cls ++ placeTo nv ins c.gates i).length = xn) := hxn.symm
      have hxb : xn ≤ 400000 := by
        rw [hxn, List.length_append, HFL.out]
        have := placeTo_len nv ins c.gates i
        omega
      rw [← hxn] at RO HX
      have HX : Hid (XOwn wr b0 w.heap.size (Value.slice QA (k + i) qc).ownBlock (.slice XA xn xc) sl2 (f.cls ++ placeTo nv ins c.gates i)) := HX.out
      have RO : Hid (Row wr (w.heap.size + 1 + 1 + 1) 30 [.int .i64 ((nv + i : Nat) : Int), .slice XA xn xc]) := RO.out
      clear hxn
      obtain ⟨ad, rfl, hbl, hc0, hc1, hc2⟩ := (HC.out.up BW.out).gates.gate hlt
      obtain ⟨ho, ga, gb, ga0, gb0⟩ := gateOk_parts (HPG.out i (by rw [HLG.out]; exact hlt))
      rw [← HKI.out] at ga gb
      have HGC : Hid (gateCls nv ins c.gates i = clausesF (c.gates.getD i default).op ((nv : Int) + i + 1) ((wiresV nv ins i).getD (c.gates.getD i default).a.toNat 0) ((wiresV nv ins i).getD (c.gates.getD i default).b.toNat 0)) := rfl
      generalize c.gates.getD i default = gt at hc0 hc1 hc2 ho ga gb ga0 gb0 HGC
      obtain ⟨op, xa, xb⟩ := gt
      dsimp only at hc0 hc1 hc2 ho ga gb ga0 gb0 HGC
      have hop : Hid (op = 0 ∨ op = 1 ∨ op = 2 ∨ op = 3 ∨ op = 4 ∨ op = 5) := ho
      have k0 := RC.out.cell 0
      have k1 := RC.out.cell 1
      have k2 := RC.out.cell 2
      have kl := RC.out.lt
      simp only [List.getElem?_cons_zero, List.getElem?_cons_succ] at k0 k1 k2
      have RO8 : Hid (Row (World.alloc wr (.cells #[.int .i64 op, .int .i64 xa, .int .i64 xb] 49)) (w.heap.size + 1 + 1 + 1) 30 [.int .i64 ((nv : Int) + (i : Int)), .slice XA xn xc]) := RO.out.alloc _
      have RC8 : Hid (Row (World.alloc wr (.cells #[.int .i64 op, .int .i64 xa, .int .i64 xb] 49)) (w.heap.size + 1) 25 [.int .i64 k, .slice (some ad) gn gc, .slice OA on oc]) := RC.out.alloc _
      have RZ8 : Hid (Row (World.alloc wr (.cells #[.int .i64 op, .int .i64 xa, .int .i64 xb] 49)) (w.heap.size + 1 + 1) 30 [.int .i64 0, .slice none 0 0]) := RZ.out.alloc _
      have RX8 : Hid (Row (World.alloc wr (.cells #[.int .i64 op, .int .i64 xa, .int .i64 xb] 49)) wr.heap.size 49 [.int .i64 op, .int .i64 xa, .int .i64 xb]) := Row.new wr 49 [.int .i64 op, .int .i64 xa, .int .i64 xb]
      have BW8 : Hid (Below w.heap.size w (World.alloc wr (.cells #[.int .i64 op, .int .i64 xa, .int .i64 xb] 49))) := BW.out.alloc BW.out.size _
      have HX8 : Hid (XOwn (World.alloc wr (.cells #[.int .i64 op, .int .i64 xa, .int .i64 xb] 49)) b0 w.heap.size (Value.slice QA (k + i) qc).ownBlock (.slice XA xn xc) sl2 (f.cls ++ placeTo nv ins c.gates i)) := HX.out.up BW.out.size ((Below.refl _ _).alloc (Nat.le_refl _) _)
      have HO8 : Hid (World.ownsRow (World.alloc wr (.cells #[.int .i64 op, .int .i64 xa, .int .i64 xb] 49)) w.heap.size 3 1 (.slice QA (k + i) qc) (k + i) (ints (wiresV nv ins i))) := HO.out.alloc _
      have hbx : Hid (wr.heap.size ≠ w.heap.size + 1 + 1 + 1) := (fun e => by have := RO.out.lt; omega)
      go_wp2_with fail
      clear RC RZ RO HX HO BW k0 k1 k2 kl hc0 hc1 hc2 hbl
      revert RO8 RC8 RZ8 RX8 BW8 HX8 HO8 hbx
      generalize (World.alloc wr (.cells #[.int .i64 op, .int .i64 xa, .int .i64 xb] 49)) = w8
      generalize wr.heap.size = bx
      intro RO8 RC8 RZ8 RX8 BW8 HX8 HO8 hbx
      have hszr := BW8.out.size
      have y0 := RX8.out.cell 0
      have y1 := RX8.out.cell 1
      have y2 := RX8.out.cell 2
      have yl := RX8.out.lt
      simp only [List.getElem?_cons_zero, List.getElem?_cons_succ] at y0 y1 y2
      have d0 := RO8.out.cell 0
      have d1 := RO8.out.cell 1
      have dl := RO8.out.lt
      simp only [List.getElem?_cons_zero, List.getElem?_cons_succ] at d0 d1
      have df0 := RO8.out.frozen 0
      have df1 := RO8.out.frozen 1
      have HOP := rOperands_any op w8
      have hcls : op < 2 ∨ op = 2 ∨ 2 < op := by omega
      rcases hcls with q1 | q1 | q1
      · rw [show operandsF op = 0 by rcases ho with e | e | e | e | e | e <;> rw [e] <;> first | rfl | omega] at HOP
        have HOP : Hid (Calls _ _ _ _ _) := HOP
        clear ga gb ga0 gb0 ho
        go_wp2_with fail
        with_reducible refine HOP.out.mono ?_
        rintro e w8q ⟨rfl, rfl⟩
        go_wp2_with fail
        with_reducible refine HOP.out.mono ?_
        rintro e w8q ⟨rfl, rfl⟩
        clear HOP
        go_wp2_with (at_builtin; refine wpList_app rfl (.tmp 62) (.tmp 65) 23 rfl w.heap.size 3 (.int .i64 0) 1 8 Try.underlying23 int_infoE rfl (by decide) (by decide) (.slice QA (k + i) qc) (k + i) (ints (wiresV nv ins i)) rfl ?own (w8.heap.size + 1) (some ⟨w8.heap.size, 0, none⟩) 1 1 [.int .i64 ((nv : Int) + (i : Int) + 1)] rfl ?rd ?one ?hb ?hbase ?_)
        case own => exact ((own_set (p := ⟨w.heap.size + 1 + 1 + 1, 0, none⟩) HO8.out RO8.out (by decide) (Value.int .i64 ((nv : Int) + (i : Int) + 1)))).alloc _
        case rd => have h9 := Rd.lit (World.setCell w8 ⟨w.heap.size + 1 + 1 + 1, 0, none⟩ (Value.int .i64 ((nv : Int) + (i : Int) + 1))) #[.int .i64 ((nv : Int) + (i : Int) + 1)] 3 (sz := 1) (m := 1) rfl; rw [World.size_setCell] at h9; exact h9
        case one => first | (intro u hu; simp at hu; subst hu; rfl) | rfl
        case hb => omega
        case hbase => first | (simp; omega) | omega
        intro v' w9 hown' hgrow' hat'
        obtain ⟨QB, qd, rfl, _⟩ := Rd.own hown'
        have RO9 : Hid (Row w9 (w.heap.size + 1 + 1 + 1) 30 [(Value.int .i64 ((nv : Int) + (i : Int) + 1)), .slice XA xn xc]) := ((RO8.out.set 0 (Value.int .i64 ((nv : Int) + (i : Int) + 1))).alloc _).grown hgrow' (fun e => own_ne_row HO8.out RO8.out (by decide) e.symm)
        have RX9 : Hid (Row w9 bx 49 [.int .i64 op, .int .i64 xa, .int .i64 xb]) := ((RX8.out.far (p := ⟨w.heap.size + 1 + 1 + 1, 0, none⟩) hbx.out (Value.int .i64 ((nv : Int) + (i : Int) + 1))).alloc _).grown hgrow' (fun e => own_ne_row HO8.out RX8.out (by decide) e.symm)
        have RC9 : Hid (Row w9 (w.heap.size + 1) 25 [.int .i64 k, .slice (some ad) gn gc, .slice OA on oc]) := ((RC8.out.far (p := ⟨w.heap.size + 1 + 1 + 1, 0, none⟩) (by show w.heap.size + 1 ≠ w.heap.size + 1 + 1 + 1; omega) (Value.int .i64 ((nv : Int) + (i : Int) + 1))).alloc _).grown hgrow' (fun e => own_ne_row HO8.out RC8.out (by decide) e.symm)
        have RZ9 : Hid (Row w9 (w.heap.size + 1 + 1) 30 [.int .i64 0, .slice none 0 0]) := ((RZ8.out.far (p := ⟨w.heap.size + 1 + 1 + 1, 0, none⟩) (by show w.heap.size + 1 + 1 ≠ w.heap.size + 1 + 1 + 1; omega) (Value.int .i64 ((nv : Int) + (i : Int) + 1))).alloc _).grown hgrow' (fun e => own_ne_row HO8.out RZ8.out (by decide) e.symm)
        have HX9 : Hid (XOwn w9 b0 w.heap.size (Value.slice QB (k + (i + 1)) qd).ownBlock (.slice XA xn xc) sl2 (f.cls ++ placeTo nv ins c.gates i)) := (by
          show XOwn _ _ _ _ _ _ _
          have h1 := HX8.out.far (p := ⟨w.heap.size + 1 + 1 + 1, 0, none⟩) RO8.out (by decide) (by decide) (by show _ ≤ w.heap.size + 1 + 1 + 1; omega) (Value.int .i64 ((nv : Int) + (i : Int) + 1))
          have hs1 : w.heap.size ≤ (World.setCell w8 ⟨w.heap.size + 1 + 1 + 1, 0, none⟩ (Value.int .i64 ((nv : Int) + (i : Int) + 1))).heap.size := by rw [World.size_setCell]; exact BW8.out.size
          have h2 := h1.up hs1 ((Below.refl _ _).alloc (Nat.le_refl _) (.cells #[.int .i64 ((nv : Int) + (i : Int) + 1)] 3))
          exact h2.grow ((own_set (p := ⟨w.heap.size + 1 + 1 + 1, 0, none⟩) HO8.out RO8.out (by decide) (Value.int .i64 ((nv : Int) + (i : Int) + 1))).alloc _) (by simp; omega) hgrow' (hat'.imp id (fun e => ⟨w8.heap.size + 1, e, by simp⟩)))
        have HO9 : Hid (w9.ownsRow w.heap.size 3 1 (.slice QB (k + (i + 1)) qd) (k + (i + 1)) (ints (wiresV nv ins (i + 1)))) := (by
          show World.ownsRow _ _ _ _ _ _ _
          have e : ints (wiresV nv ins (i + 1)) = ints (wiresV nv ins i) ++ [.int .i64 ((nv : Int) + (i : Int) + 1)] := by rw [wiresV_succ]; simp [ints]
          rw [e]; exact hown')
        have BW9 : Hid (Below w.heap.size w w9) := ((BW8.out.setCell (p := ⟨w.heap.size + 1 + 1 + 1, 0, none⟩) (by show _ ≤ w.heap.size + 1 + 1 + 1; omega) (Value.int .i64 ((nv : Int) + (i : Int) + 1))).alloc (by rw [World.size_setCell]; exact BW8.out.size) _).grown hgrow' (by simp; omega) (fun q hq => (HO8.out.lt q hq).1)
        clear hown' hgrow' hat' RO8 RX8 RC8 RZ8 HX8 HO8 BW8 d0 d1 dl df0 df1 y0 y1 y2 yl hszr
        have e0 := RO9.out.cell 0
        have e1 := RO9.out.cell 1
        have el := RO9.out.lt
        simp only [List.getElem?_cons_zero, List.getElem?_cons_succ] at e0 e1
        have x0 := RX9.out.cell 0
        have x1 := RX9.out.cell 1
        have x2 := RX9.out.cell 2
        have xl := RX9.out.lt
        simp only [List.getElem?_cons_zero, List.getElem?_cons_succ] at x0 x1 x2
        have e1f := RO9.out.frozen 1
        go_wp2_with fail
        refine wp_region_L (fun w' => Row w' (w.heap.size + 1 + 1 + 1) 30 [(Value.int .i64 ((nv : Int) + (i : Int) + 1)), .slice XA xn xc] ∧ Row w' bx 49 [.int .i64 op, .int .i64 xa, .int .i64 xb]) [9, 10, 11] (by kernel_rfl) (by exact ⟨RO9.out.drew, RX9.out.drew⟩) (fun hHeld => ?_)
        have ROd : Hid (Row w9.drew (w.heap.size + 1 + 1 + 1) 30 [(Value.int .i64 ((nv : Int) + (i : Int) + 1)), .slice XA xn xc]) := hHeld.1
        have RXd : Hid (Row w9.drew bx 49 [.int .i64 op, .int .i64 xa, .int .i64 xb]) := hHeld.2
        have RCd : Hid (Row w9.drew (w.heap.size + 1) 25 [.int .i64 k, .slice (some ad) gn gc, .slice OA on oc]) := RC9.out
        have RZd : Hid (Row w9.drew (w.heap.size + 1 + 1) 30 [.int .i64 0, .slice none 0 0]) := RZ9.out
        have HXd : Hid (XOwn w9.drew b0 w.heap.size (Value.slice QB (k + (i + 1)) qd).ownBlock (.slice XA xn xc) sl2 (f.cls ++ placeTo nv ins c.gates i)) := ⟨HX9.out.len, HX9.out.le, HX9.out.own, HX9.out.row⟩
        have HOd : Hid (w9.drew.ownsRow w.heap.size 3 1 (.slice QB (k + (i + 1)) qd) (k + (i + 1)) (ints (wiresV nv ins (i + 1)))) := HO9.out
        have BWd : Hid (Below w.heap.size w w9.drew) := BW9.out.drew
        clear RO9 RX9 RC9 RZ9 HX9 HO9 BW9 e0 e1 el x0 x1 x2 xl
        revert hHeld ROd RXd RCd RZd HXd HOd BWd
        generalize w9.drew = wQ
        intro hHeld ROd RXd RCd RZd HXd HOd BWd
        refine restL_pure (i := 0) (v := ?vao21) rfl (by kernel_rfl) (by kernel_rfl) (by kernel_rfl) (fun _ _ _ h => h) (Or.inl ⟨by rfl, ?yao21⟩) ?rao21
        case yao21 => intro w' hSw; clear hSw; go_simp; try (with_reducible rfl)
        go_simp
        refine restL_pure (i := 2) (v := ?vao22) rfl (by kernel_rfl) (by kernel_rfl) (by kernel_rfl) (fun _ _ _ h => h) (Or.inl ⟨by rfl, ?yao22⟩) ?rao22
        case yao22 => intro w' hSw; clear hSw; go_simp; try (with_reducible rfl)
        go_simp
        refine restL_pure (i := 4) (v := ?vao23) rfl (by kernel_rfl) (by kernel_rfl) (by kernel_rfl) (fun _ _ _ h => h) (Or.inl ⟨by rfl, ?yao23⟩) ?rao23
        case yao23 => intro w' hSw; clear hSw; go_simp; try (with_reducible rfl)
        go_simp
        refine restL_pure (i := 6) (v := ?vao24) rfl (by kernel_rfl) (by kernel_rfl) (by kernel_rfl) (fun _ _ _ h => h) (Or.inl ⟨by rfl, ?yao24⟩) ?rao24
        case yao24 => intro w' hSw; clear hSw; go_simp; try (with_reducible rfl)
        go_simp
        refine restL_pure (i := 7) (v := ?vao25) rfl (by kernel_rfl) (by kernel_rfl) (by kernel_rfl) (fun _ _ _ h => h) (Or.inl ⟨by rfl, ?yao25⟩) ?rao25
        case yao25 => intro w' hSw; clear hSw; go_simp; try (with_reducible rfl)
        go_simp
        refine restL_take (i := 1) (v := ?vao26) [[9], [10], [11]] rfl (by kernel_rfl) (by kernel_rfl) (by kernel_rfl) (by kernel_rfl) (fun _ _ _ h => h) (Or.inl ⟨by rfl, ?yao26⟩) hHeld ?rao26
        case yao26 =>
          intro w' hSw
          have hSh : Hid (Row w' (w.heap.size + 1 + 1 + 1) 30 [(Value.int .i64 ((nv : Int) + (i : Int) + 1)), .slice XA xn xc]) := hSw.1
          have hSp : Hid (Row w' bx 49 [.int .i64 op, .int .i64 xa, .int .i64 xb]) := hSw.2
          clear hSw
          have z0 := hSh.out.cell 0
          have z1 := hSh.out.cell 1
          have zl := hSh.out.lt
          simp only [List.getElem?_cons_zero, List.getElem?_cons_succ] at z0 z1
          have y0 := hSp.out.cell 0
          have y1 := hSp.out.cell 1
          have y2 := hSp.out.cell 2
          have yl := hSp.out.lt
          simp only [List.getElem?_cons_zero, List.getElem?_cons_succ] at y0 y1 y2
          go_simp
          try (with_reducible rfl)
        go_simp
        refine restL_take (i := 3) (v := ?vao27) [[9, 8], [10], [11]] rfl (by kernel_rfl) (by kernel_rfl) (by kernel_rfl) (by kernel_rfl) (fun _ _ _ h => h) (Or.inl ⟨by rfl, ?yao27⟩) hHeld ?rao27
        case yao27 =>
          intro w' hSw
          have hSh : Hid (Row w' (w.heap.size + 1 + 1 + 1) 30 [(Value.int .i64 ((nv : Int) + (i : Int) + 1)), .slice XA xn xc]) := hSw.1
          have hSp : Hid (Row w' bx 49 [.int .i64 op, .int .i64 xa, .int .i64 xb]) := hSw.2
          clear hSw
          have z0 := hSh.out.cell 0
          have z1 := hSh.out.cell 1
          have zl := hSh.out.lt
          simp only [List.getElem?_cons_zero, List.getElem?_cons_succ] at z0 z1
          have y0 := hSp.out.cell 0
          have y1 := hSp.out.cell 1
          have y2 := hSp.out.cell 2
          have yl := hSp.out.lt
          simp only [List.getElem?_cons_zero, List.getElem?_cons_succ] at y0 y1 y2
          go_simp
          try (with_reducible rfl)
        go_simp
        refine restL_take (i := 5) (v := ?vao28) [[9, 8], [10], [11]] rfl (by kernel_rfl) (by kernel_rfl) (by kernel_rfl) (by kernel_rfl) (fun _ _ _ h => h) (Or.inl ⟨by rfl, ?yao28⟩) hHeld ?rao28
        case yao28 =>
          intro w' hSw
          have hSh : Hid (Row w' (w.heap.size + 1 + 1 + 1) 30 [(Value.int .i64 ((nv : Int) + (i : Int) + 1)), .slice XA xn xc]) := hSw.1
          have hSp : Hid (Row w' bx 49 [.int .i64 op, .int .i64 xa, .int .i64 xb]) := hSw.2
          clear hSw
          have z0 := hSh.out.cell 0
          have z1 := hSh.out.cell 1
          have zl := hSh.out.lt
          simp only [List.getElem?_cons_zero, List.getElem?_cons_succ] at z0 z1
          have y0 := hSp.out.cell 0
          have y1 := hSp.out.cell 1
          have y2 := hSp.out.cell 2
          have yl := hSp.out.lt
          simp only [List.getElem?_cons_zero, List.getElem?_cons_succ] at y0 y1 y2
          go_simp
          try (with_reducible rfl)
        go_simp
        refine restL_one (i := 8) (by kernel_rfl) rfl (fun K hK => ?_)
        go_simp
        go_at_call 43
        with_reducible refine (rClauses_any op ((nv : Int) + (i : Int) + 1) (0) (0) wQ hop.out (by omega) (by omega) (by omega) (by omega) (by omega) (by omega)).mono ?_
        rintro e w10 ⟨g, m, sn, rfl, hm, hsn, hrow, hin, hgs, hb⟩
        have HCL : Hid ((f.cls ++ placeTo nv ins c.gates i) ++ clausesF op ((nv : Int) + (i : Int) + 1) (0) (0) = f.cls ++ placeTo nv ins c.gates (i + 1)) := (by
          show _ = _
          rw [placeTo_succ, List.append_assoc, HGC.out]
          exact congrArg (fun z => f.cls ++ (placeTo nv ins c.gates i ++ z)) (clausesF_0 (by have := hop.out; omega) _ _ _ _ _))
        have hm4 := clausesF_len op ((nv : Int) + (i : Int) + 1) (0) (0)
        rw [hm] at hm4
        have HM : Hid ((clausesF op ((nv : Int) + (i : Int) + 1) (0) (0)).length = m ∧ sn.length = m) := ⟨hm, hsn⟩
        have HNW : Hid (∀ j, j < (clausesF op ((nv : Int) + (i : Int) + 1) (0) (0)).length → InX w10 b0 w.heap.size (Value.slice QB (k + (i + 1)) qd).ownBlock (sn.getD j default) ((clausesF op ((nv : Int) + (i : Int) + 1) (0) (0)).getD j [])) := fun j hj => (hin j hj).inX HXd.out.le BWd.out.size (fun q hq => own_lt HOd.out q hq)
        have HGR : Hid (Row w10 g 23 (slCells sn)) := hrow
        have ROp : Hid (Row w10 (w.heap.size + 1 + 1 + 1) 30 [(Value.int .i64 ((nv : Int) + (i : Int) + 1)), .slice XA xn xc]) := rowCells ROd.out hb
        have RXp : Hid (Row w10 bx 49 [.int .i64 op, .int .i64 xa, .int .i64 xb]) := rowCells RXd.out hb
        have RCp : Hid (Row w10 (w.heap.size + 1) 25 [.int .i64 k, .slice (some ad) gn gc, .slice OA on oc]) := rowCells RCd.out hb
        have RZp : Hid (Row w10 (w.heap.size + 1 + 1) 30 [.int .i64 0, .slice none 0 0]) := rowCells RZd.out hb
        have HXp : Hid (XOwn w10 b0 w.heap.size (Value.slice QB (k + (i + 1)) qd).ownBlock (.slice XA xn xc) sl2 (f.cls ++ placeTo nv ins c.gates i)) := HXd.out.up BWd.out.size hb
        have HOp : Hid (w10.ownsRow w.heap.size 3 1 (.slice QB (k + (i + 1)) qd) (k + (i + 1)) (ints (wiresV nv ins (i + 1)))) := own_below HOd.out hb (Nat.le_refl _)
        have BWp : Hid (Below w.heap.size w w10) := below_on2 BWd.out hb
        have hszp := BWp.out.size
        clear hb hm hsn hrow hin hgs hHeld ROd RXd RCd RZd HXd HOd BWd
        refine hK.out _ _ (fun _ => ?keep) (fun hHeld => ?_)
        case keep => exact ⟨ROp.out, RXp.out⟩
        have hHeld := hHeld rfl
        clear hK K
        try go_simp
        refine restL_one (i := 9) (by kernel_rfl) rfl (fun K hK => ?_)
        refine step_app rfl (.tmp 68) (.tmp 75) 28 rfl w.heap.size 23 (.slice none 0 0) 1 24 Try.underlying28 row_infoE rfl (by decide) (by decide) (.slice XA xn xc) xn (slCells sl2) rfl ?own w10.heap.size (some ⟨g, 0, none⟩) m m (slCells sn) rfl ?rd (slCells_one _) ?hb ?hbase ?_
        case own => (have h9 := HXp.out.own; rw [HXN.out] at h9; exact h9)
        case rd => exact HGR.out.rd (by rw [slCells_length, HM.out.2]; omega)
        case hb => omega
        case hbase => omega
        intro v' w' hown' hgrow' hat'
        obtain ⟨VB, vd, rfl, _⟩ := Rd.own hown'
        have HXq : Hid (XOwn w' b0 w.heap.size (Value.slice QB (k + (i + 1)) qd).ownBlock (.slice VB (xn + m) vd) (sl2 ++ sn) (f.cls ++ placeTo nv ins c.gates (i + 1))) := (by show XOwn _ _ _ _ _ _ _; rw [← HCL.out]; exact HXp.out.app hszp (by rw [HM.out.1, HM.out.2]) HNW.out hgrow' (by rw [HXN.out, HM.out.1]; exact hown'))
        have ROq : Hid (Row w' (w.heap.size + 1 + 1 + 1) 30 [(Value.int .i64 ((nv : Int) + (i : Int) + 1)), .slice XA xn xc]) := ROp.out.grown hgrow' (fun e => own_ne_row HXp.out.own ROp.out (by decide) e.symm)
        have RCq : Hid (Row w' (w.heap.size + 1) 25 [.int .i64 k, .slice (some ad) gn gc, .slice OA on oc]) := RCp.out.grown hgrow' (fun e => own_ne_row HXp.out.own RCp.out (by decide) e.symm)
        have RZq : Hid (Row w' (w.heap.size + 1 + 1) 30 [.int .i64 0, .slice none 0 0]) := RZp.out.grown hgrow' (fun e => own_ne_row HXp.out.own RZp.out (by decide) e.symm)
        have HOq : Hid (w'.ownsRow w.heap.size 3 1 (.slice QB (k + (i + 1)) qd) (k + (i + 1)) (ints (wiresV nv ins (i + 1)))) := own_grown HOp.out hgrow' (own_types HOp.out HXp.out.own (by decide))
        have BWq : Hid (Below w.heap.size w w') := BWp.out.grown hgrow' hszp (fun q hq => (HXp.out.own.lt q hq).1)
        have q3 := ROq.out.cell 1
        have qf := ROq.out.frozen 1
        have ql := ROq.out.lt
        simp only [List.getElem?_cons_zero, List.getElem?_cons_succ] at q3
        clear hown' hgrow' hat' ROp RXp RCp RZp HXp HOp BWp hszp HGR HNW HCL HM
        refine hK.out _ _ (fun h => absurd h (by decide)) (fun _ => ?_)
        clear hK K
        try go_simp
        refine restL_pure (i := 10) (v := ?vao29) rfl (by kernel_rfl) (by kernel_rfl) (by kernel_rfl) (fun _ _ _ h => h) (Or.inl ⟨by rfl, ?yao29⟩) ?rao29
        case yao29 => intro w' hSw; clear hSw; go_simp; try (with_reducible rfl)
        go_simp
        refine restL_one (i := 11) (by kernel_rfl) rfl (fun K hK => ?_)
        go_simp
        refine hK.out _ _ (fun h => absurd h (by decide)) (fun _ => ?_)
        clear hK K
        try go_simp
        refine restL_done (by kernel_rfl) ?_ _
        have RO10 : Hid (Row (World.setCell w' ⟨w.heap.size + 1 + 1 + 1, 1, none⟩ (.slice VB (xn + m) vd)) (w.heap.size + 1 + 1 + 1) 30 [(Value.int .i64 ((nv : Int) + (i : Int) + 1)), .slice VB (xn + m) vd]) := ROq.out.set 1 _
        have RC10 : Hid (Row (World.setCell w' ⟨w.heap.size + 1 + 1 + 1, 1, none⟩ (.slice VB (xn + m) vd)) (w.heap.size + 1) 25 [.int .i64 k, .slice (some ad) gn gc, .slice OA on oc]) := RCq.out.far (p := ⟨w.heap.size + 1 + 1 + 1, 1, none⟩) (by show w.heap.size + 1 ≠ w.heap.size + 1 + 1 + 1; omega) _
        have RZ10 : Hid (Row (World.setCell w' ⟨w.heap.size + 1 + 1 + 1, 1, none⟩ (.slice VB (xn + m) vd)) (w.heap.size + 1 + 1) 30 [.int .i64 0, .slice none 0 0]) := RZq.out.far (p := ⟨w.heap.size + 1 + 1 + 1, 1, none⟩) (by show w.heap.size + 1 + 1 ≠ w.heap.size + 1 + 1 + 1; omega) _
        have HX10 : Hid (XOwn (World.setCell w' ⟨w.heap.size + 1 + 1 + 1, 1, none⟩ (.slice VB (xn + m) vd)) b0 w.heap.size (Value.slice QB (k + (i + 1)) qd).ownBlock (.slice VB (xn + m) vd) (sl2 ++ sn) (f.cls ++ placeTo nv ins c.gates (i + 1))) := HXq.out.far (p := ⟨w.heap.size + 1 + 1 + 1, 1, none⟩) ROq.out (by decide) (by decide) (by show _ ≤ w.heap.size + 1 + 1 + 1; omega) _
        have HO10 : Hid (World.ownsRow (World.setCell w' ⟨w.heap.size + 1 + 1 + 1, 1, none⟩ (.slice VB (xn + m) vd)) w.heap.size 3 1 (.slice QB (k + (i + 1)) qd) (k + (i + 1)) (ints (wiresV nv ins (i + 1)))) := own_set (p := ⟨w.heap.size + 1 + 1 + 1, 1, none⟩) HOq.out ROq.out (by decide) _
        have BW10 : Hid (Below w.heap.size w (World.setCell w' ⟨w.heap.size + 1 + 1 + 1, 1, none⟩ (.slice VB (xn + m) vd))) := BWq.out.setCell (p := ⟨w.heap.size + 1 + 1 + 1, 1, none⟩) (by show _ ≤ w.heap.size + 1 + 1 + 1; omega) _
        clear ROq RCq RZq HXq HOq BWq q3 qf ql
        revert RO10 RC10 RZ10 HX10 HO10 BW10
        generalize (World.setCell w' ⟨w.heap.size + 1 + 1 + 1, 1, none⟩ (.slice VB (xn + m) vd)) = w11
        intro RO10 RC10 RZ10 HX10 HO10 BW10
        go_wp2
        go_roundg (gn - (i + 1))
        case measure => omega
        case rel => exact ⟨i + 1, _, _, _, by omega, by omega, by go_num, rfl, BW10.out, RC10.out, RZ10.out, (by show Row _ _ _ _; rw [show ((nv + (i + 1) : Nat) : Int) = (nv : Int) + (i : Int) + 1 by omega]; exact RO10.out), HX10.out, HO10.out⟩
      · subst q1
        rw [show operandsF 2 = 1 from rfl] at HOP
        obtain ⟨a1, a2⟩ := ga (by omega)
        obtain ⟨gv, cap9, hva, hgvb, hgvl⟩ := HO8.out.form (by omega)
        injection hva with hva hva2 hva3
        subst hva hva3
        clear hva2
        have HAC : Hid (∀ (j : Nat), j < k + i → ∃ av, w8.cell? ⟨gv, j, none⟩ = some (.int .i64 av) ∧ (wiresV nv ins i).getD j 0 = av ∧ 1 ≤ av ∧ av ≤ nv + i) := fun j hj => by
          have hb := wires_bd (by rw [← HNV.out]; exact HR3.out) i j (by rw [HLI.out]; exact hj)
          refine ⟨_, ?_, rfl, hb⟩
          rw [HO8.out.cellAt j (by omega), ints_get _ _ (by rw [wiresV_length, HLI.out]; omega)]
        obtain ⟨an, rfl⟩ : ∃ an : Nat, xa = (an : Int) := ⟨xa.toNat, by omega⟩
        obtain ⟨av, hca, hwa, ha1, ha2⟩ := HAC.out an (by omega)
        rw [Int.toNat_natCast] at HGC
        have HWA : Hid ((wiresV nv ins i).getD an 0 = av) := hwa
        have haz : (an : Int) < (k : Int) + (i : Int) := by omega
        clear hwa
        have HOP : Hid (Calls _ _ _ _ _) := HOP
        clear ga gb ga0 gb0 ho
        go_wp2_with fail
        with_reducible refine HOP.out.mono ?_
        rintro e w8q ⟨rfl, rfl⟩
        go_wp2_with fail
        with_reducible refine HOP.out.mono ?_
        rintro e w8q ⟨rfl, rfl⟩
        clear HOP
        go_wp2_with (at_builtin; refine wpList_app rfl (.tmp 62) (.tmp 65) 23 rfl w.heap.size 3 (.int .i64 0) 1 8 Try.underlying23 int_infoE rfl (by decide) (by decide) (.slice (some ⟨gv, 0, none⟩) (k + i) qc) (k + i) (ints (wiresV nv ins i)) rfl ?own (w8.heap.size + 1) (some ⟨w8.heap.size, 0, none⟩) 1 1 [.int .i64 ((nv : Int) + (i : Int) + 1)] rfl ?rd ?one ?hb ?hbase ?_)
        case own => exact ((own_set (p := ⟨w.heap.size + 1 + 1 + 1, 0, none⟩) HO8.out RO8.out (by decide) (Value.int .i64 ((nv : Int) + (i : Int) + 1)))).alloc _
        case rd => have h9 := Rd.lit (World.setCell w8 ⟨w.heap.size + 1 + 1 + 1, 0, none⟩ (Value.int .i64 ((nv : Int) + (i : Int) + 1))) #[.int .i64 ((nv : Int) + (i : Int) + 1)] 3 (sz := 1) (m := 1) rfl; rw [World.size_setCell] at h9; exact h9
        case one => first | (intro u hu; simp at hu; subst hu; rfl) | rfl
        case hb => omega
        case hbase => first | (simp; omega) | omega
        intro v' w9 hown' hgrow' hat'
        obtain ⟨QB, qd, rfl, _⟩ := Rd.own hown'
        have RO9 : Hid (Row w9 (w.heap.size + 1 + 1 + 1) 30 [(Value.int .i64 ((nv : Int) + (i : Int) + 1)), .slice XA xn xc]) := ((RO8.out.set 0 (Value.int .i64 ((nv : Int) + (i : Int) + 1))).alloc _).grown hgrow' (fun e => own_ne_row HO8.out RO8.out (by decide) e.symm)
        have RX9 : Hid (Row w9 bx 49 [.int .i64 2, .int .i64 (an : Int), .int .i64 xb]) := ((RX8.out.far (p := ⟨w.heap.size + 1 + 1 + 1, 0, none⟩) hbx.out (Value.int .i64 ((nv : Int) + (i : Int) + 1))).alloc _).grown hgrow' (fun e => own_ne_row HO8.out RX8.out (by decide) e.symm)
        have RC9 : Hid (Row w9 (w.heap.size + 1) 25 [.int .i64 k, .slice (some ad) gn gc, .slice OA on oc]) := ((RC8.out.far (p := ⟨w.heap.size + 1 + 1 + 1, 0, none⟩) (by show w.heap.size + 1 ≠ w.heap.size + 1 + 1 + 1; omega) (Value.int .i64 ((nv : Int) + (i : Int) + 1))).alloc _).grown hgrow' (fun e => own_ne_row HO8.out RC8.out (by decide) e.symm)
        have RZ9 : Hid (Row w9 (w.heap.size + 1 + 1) 30 [.int .i64 0, .slice none 0 0]) := ((RZ8.out.far (p := ⟨w.heap.size + 1 + 1 + 1, 0, none⟩) (by show w.heap.size + 1 + 1 ≠ w.heap.size + 1 + 1 + 1; omega) (Value.int .i64 ((nv : Int) + (i : Int) + 1))).alloc _).grown hgrow' (fun e => own_ne_row HO8.out RZ8.out (by decide) e.symm)
        have HX9 : Hid (XOwn w9 b0 w.heap.size (Value.slice QB (k + (i + 1)) qd).ownBlock (.slice XA xn xc) sl2 (f.cls ++ placeTo nv ins c.gates i)) := (by
          show XOwn _ _ _ _ _ _ _
          have h1 := HX8.out.far (p := ⟨w.heap.size + 1 + 1 + 1, 0, none⟩) RO8.out (by decide) (by decide) (by show _ ≤ w.heap.size + 1 + 1 + 1; omega) (Value.int .i64 ((nv : Int) + (i : Int) + 1))
          have hs1 : w.heap.size ≤ (World.setCell w8 ⟨w.heap.size + 1 + 1 + 1, 0, none⟩ (Value.int .i64 ((nv : Int) + (i : Int) + 1))).heap.size := by rw [World.size_setCell]; exact BW8.out.size
          have h2 := h1.up hs1 ((Below.refl _ _).alloc (Nat.le_refl _) (.cells #[.int .i64 ((nv : Int) + (i : Int) + 1)] 3))
          exact h2.grow ((own_set (p := ⟨w.heap.size + 1 + 1 + 1, 0, none⟩) HO8.out RO8.out (by decide) (Value.int .i64 ((nv : Int) + (i : Int) + 1))).alloc _) (by simp; omega) hgrow' (hat'.imp id (fun e => ⟨w8.heap.size + 1, e, by simp⟩)))
        have HO9 : Hid (w9.ownsRow w.heap.size 3 1 (.slice QB (k + (i + 1)) qd) (k + (i + 1)) (ints (wiresV nv ins (i + 1)))) := (by
          show World.ownsRow _ _ _ _ _ _ _
          have e : ints (wiresV nv ins (i + 1)) = ints (wiresV nv ins i) ++ [.int .i64 ((nv : Int) + (i : Int) + 1)] := by rw [wiresV_succ]; simp [ints]
          rw [e]; exact hown')
        have BW9 : Hid (Below w.heap.size w w9) := ((BW8.out.setCell (p := ⟨w.heap.size + 1 + 1 + 1, 0, none⟩) (by show _ ≤ w.heap.size + 1 + 1 + 1; omega) (Value.int .i64 ((nv : Int) + (i : Int) + 1))).alloc (by rw [World.size_setCell]; exact BW8.out.size) _).grown hgrow' (by simp; omega) (fun q hq => (HO8.out.lt q hq).1)
        clear hown' hgrow' hat' RO8 RX8 RC8 RZ8 HX8 HO8 BW8 d0 d1 dl df0 df1 y0 y1 y2 yl hszr
        have e0 := RO9.out.cell 0
        have e1 := RO9.out.cell 1
        have el := RO9.out.lt
        simp only [List.getElem?_cons_zero, List.getElem?_cons_succ] at e0 e1
        have x0 := RX9.out.cell 0
        have x1 := RX9.out.cell 1
        have x2 := RX9.out.cell 2
        have xl := RX9.out.lt
        simp only [List.getElem?_cons_zero, List.getElem?_cons_succ] at x0 x1 x2
        have e1f := RO9.out.frozen 1
        go_wp2_with fail
        refine wp_region_L (fun w' => Row w' (w.heap.size + 1 + 1 + 1) 30 [(Value.int .i64 ((nv : Int) + (i : Int) + 1)), .slice XA xn xc] ∧ Row w' bx 49 [.int .i64 2, .int .i64 (an : Int), .int .i64 xb]) [9, 10, 11] (by kernel_rfl) (by exact ⟨RO9.out.drew, RX9.out.drew⟩) (fun hHeld => ?_)
        have ROd : Hid (Row w9.drew (w.heap.size + 1 + 1 + 1) 30 [(Value.int .i64 ((nv : Int) + (i : Int) + 1)), .slice XA xn xc]) := hHeld.1
        have RXd : Hid (Row w9.drew bx 49 [.int .i64 2, .int .i64 (an : Int), .int .i64 xb]) := hHeld.2
        have RCd : Hid (Row w9.drew (w.heap.size + 1) 25 [.int .i64 k, .slice (some ad) gn gc, .slice OA on oc]) := RC9.out
        have RZd : Hid (Row w9.drew (w.heap.size + 1 + 1) 30 [.int .i64 0, .slice none 0 0]) := RZ9.out
        have HXd : Hid (XOwn w9.drew b0 w.heap.size (Value.slice QB (k + (i + 1)) qd).ownBlock (.slice XA xn xc) sl2 (f.cls ++ placeTo nv ins c.gates i)) := ⟨HX9.out.len, HX9.out.le, HX9.out.own, HX9.out.row⟩
        have HOd : Hid (w9.drew.ownsRow w.heap.size 3 1 (.slice QB (k + (i + 1)) qd) (k + (i + 1)) (ints (wiresV nv ins (i + 1)))) := HO9.out
        have BWd : Hid (Below w.heap.size w w9.drew) := BW9.out.drew
        clear RO9 RX9 RC9 RZ9 HX9 HO9 BW9 e0 e1 el x0 x1 x2 xl
        revert hHeld ROd RXd RCd RZd HXd HOd BWd
        generalize w9.drew = wQ
        intro hHeld ROd RXd RCd RZd HXd HOd BWd
        refine restL_pure (i := 0) (v := ?va231) rfl (by kernel_rfl) (by kernel_rfl) (by kernel_rfl) (fun _ _ _ h => h) (Or.inl ⟨by rfl, ?ya231⟩) ?ra231
        case ya231 => intro w' hSw; clear hSw; go_simp; try (with_reducible rfl)
        go_simp
        refine restL_pure (i := 2) (v := ?va232) rfl (by kernel_rfl) (by kernel_rfl) (by kernel_rfl) (fun _ _ _ h => h) (Or.inl ⟨by rfl, ?ya232⟩) ?ra232
        case ya232 => intro w' hSw; clear hSw; go_simp; try (with_reducible rfl)
        go_simp
        refine restL_pure (i := 4) (v := ?va233) rfl (by kernel_rfl) (by kernel_rfl) (by kernel_rfl) (fun _ _ _ h => h) (Or.inl ⟨by rfl, ?ya233⟩) ?ra233
        case ya233 => intro w' hSw; clear hSw; go_simp; try (with_reducible rfl)
        go_simp
        refine restL_pure (i := 6) (v := ?va234) rfl (by kernel_rfl) (by kernel_rfl) (by kernel_rfl) (fun _ _ _ h => h) (Or.inl ⟨by rfl, ?ya234⟩) ?ra234
        case ya234 => intro w' hSw; clear hSw; go_simp; try (with_reducible rfl)
        go_simp
        refine restL_pure (i := 7) (v := ?va235) rfl (by kernel_rfl) (by kernel_rfl) (by kernel_rfl) (fun _ _ _ h => h) (Or.inl ⟨by rfl, ?ya235⟩) ?ra235
        case ya235 => intro w' hSw; clear hSw; go_simp; try (with_reducible rfl)
        go_simp
        refine restL_take (i := 1) (v := ?va236) [[9], [10], [11]] rfl (by kernel_rfl) (by kernel_rfl) (by kernel_rfl) (by kernel_rfl) (fun _ _ _ h => h) (Or.inl ⟨by rfl, ?ya236⟩) hHeld ?ra236
        case ya236 =>
          intro w' hSw
          have hSh : Hid (Row w' (w.heap.size + 1 + 1 + 1) 30 [(Value.int .i64 ((nv : Int) + (i : Int) + 1)), .slice XA xn xc]) := hSw.1
          have hSp : Hid (Row w' bx 49 [.int .i64 2, .int .i64 (an : Int), .int .i64 xb]) := hSw.2
          clear hSw
          have z0 := hSh.out.cell 0
          have z1 := hSh.out.cell 1
          have zl := hSh.out.lt
          simp only [List.getElem?_cons_zero, List.getElem?_cons_succ] at z0 z1
          have y0 := hSp.out.cell 0
          have y1 := hSp.out.cell 1
          have y2 := hSp.out.cell 2
          have yl := hSp.out.lt
          simp only [List.getElem?_cons_zero, List.getElem?_cons_succ] at y0 y1 y2
          go_simp
          try (with_reducible rfl)
        go_simp
        refine restL_take (i := 3) (v := ?va237) [[9, 8], [10], [11]] rfl (by kernel_rfl) (by kernel_rfl) (by kernel_rfl) (by kernel_rfl) (fun _ _ _ h => h) (Or.inl ⟨by rfl, ?ya237⟩) hHeld ?ra237
        case ya237 =>
          intro w' hSw
          have hSh : Hid (Row w' (w.heap.size + 1 + 1 + 1) 30 [(Value.int .i64 ((nv : Int) + (i : Int) + 1)), .slice XA xn xc]) := hSw.1
          have hSp : Hid (Row w' bx 49 [.int .i64 2, .int .i64 (an : Int), .int .i64 xb]) := hSw.2
          clear hSw
          have z0 := hSh.out.cell 0
          have z1 := hSh.out.cell 1
          have zl := hSh.out.lt
          simp only [List.getElem?_cons_zero, List.getElem?_cons_succ] at z0 z1
          have y0 := hSp.out.cell 0
          have y1 := hSp.out.cell 1
          have y2 := hSp.out.cell 2
          have yl := hSp.out.lt
          simp only [List.getElem?_cons_zero, List.getElem?_cons_succ] at y0 y1 y2
          go_simp
          try (with_reducible rfl)
        go_simp
        refine restL_take (i := 5) (v := ?va238) [[9, 8], [10], [11]] rfl (by kernel_rfl) (by kernel_rfl) (by kernel_rfl) (by kernel_rfl) (fun _ _ _ h => h) (Or.inl ⟨by rfl, ?ya238⟩) hHeld ?ra238
        case ya238 =>
          intro w' hSw
          have hSh : Hid (Row w' (w.heap.size + 1 + 1 + 1) 30 [(Value.int .i64 ((nv : Int) + (i : Int) + 1)), .slice XA xn xc]) := hSw.1
          have hSp : Hid (Row w' bx 49 [.int .i64 2, .int .i64 (an : Int), .int .i64 xb]) := hSw.2
          clear hSw
          have z0 := hSh.out.cell 0
          have z1 := hSh.out.cell 1
          have zl := hSh.out.lt
          simp only [List.getElem?_cons_zero, List.getElem?_cons_succ] at z0 z1
          have y0 := hSp.out.cell 0
          have y1 := hSp.out.cell 1
          have y2 := hSp.out.cell 2
          have yl := hSp.out.lt
          simp only [List.getElem?_cons_zero, List.getElem?_cons_succ] at y0 y1 y2
          go_simp
          try (with_reducible rfl)
        go_simp
        refine restL_one (i := 8) (by kernel_rfl) rfl (fun K hK => ?_)
        go_simp
        go_at_call 43
        with_reducible refine (rClauses_any 2 ((nv : Int) + (i : Int) + 1) (av) (0) wQ (.inr (.inr (.inl rfl))) (by omega) (by omega) (by omega) (by omega) (by omega) (by omega)).mono ?_
        rintro e w10 ⟨g, m, sn, rfl, hm, hsn, hrow, hin, hgs, hb⟩
        have HCL : Hid ((f.cls ++ placeTo nv ins c.gates i) ++ clausesF 2 ((nv : Int) + (i : Int) + 1) (av) (0) = f.cls ++ placeTo nv ins c.gates (i + 1)) := (by
          show _ = _
          rw [placeTo_succ, List.append_assoc, HGC.out]
          rw [HWA.out]; exact congrArg (fun z => f.cls ++ (placeTo nv ins c.gates i ++ z)) (clausesF_1 _ _ _ _))
        have hm4 := clausesF_len 2 ((nv : Int) + (i : Int) + 1) (av) (0)
        rw [hm] at hm4
        have HM : Hid ((clausesF 2 ((nv : Int) + (i : Int) + 1) (av) (0)).length = m ∧ sn.length = m) := ⟨hm, hsn⟩
        have HNW : Hid (∀ j, j < (clausesF 2 ((nv : Int) + (i : Int) + 1) (av) (0)).length → InX w10 b0 w.heap.size (Value.slice QB (k + (i + 1)) qd).ownBlock (sn.getD j default) ((clausesF 2 ((nv : Int) + (i : Int) + 1) (av) (0)).getD j [])) := fun j hj => (hin j hj).inX HXd.out.le BWd.out.size (fun q hq => own_lt HOd.out q hq)
        have HGR : Hid (Row w10 g 23 (slCells sn)) := hrow
        have ROp : Hid (Row w10 (w.heap.size + 1 + 1 + 1) 30 [(Value.int .i64 ((nv : Int) + (i : Int) + 1)), .slice XA xn xc]) := rowCells ROd.out hb
        have RXp : Hid (Row w10 bx 49 [.int .i64 2, .int .i64 (an : Int), .int .i64 xb]) := rowCells RXd.out hb
        have RCp : Hid (Row w10 (w.heap.size + 1) 25 [.int .i64 k, .slice (some ad) gn gc, .slice OA on oc]) := rowCells RCd.out hb
        have RZp : Hid (Row w10 (w.heap.size + 1 + 1) 30 [.int .i64 0, .slice none 0 0]) := rowCells RZd.out hb
        have HXp : Hid (XOwn w10 b0 w.heap.size (Value.slice QB (k + (i + 1)) qd).ownBlock (.slice XA xn xc) sl2 (f.cls ++ placeTo nv ins c.gates i)) := HXd.out.up BWd.out.size hb
        have HOp : Hid (w10.ownsRow w.heap.size 3 1 (.slice QB (k + (i + 1)) qd) (k + (i + 1)) (ints (wiresV nv ins (i + 1)))) := own_below HOd.out hb (Nat.le_refl _)
        have BWp : Hid (Below w.heap.size w w10) := below_on2 BWd.out hb
        have hszp := BWp.out.size
        clear hb hm hsn hrow hin hgs hHeld ROd RXd RCd RZd HXd HOd BWd
        refine hK.out _ _ (fun _ => ?keep) (fun hHeld => ?_)
        case keep => exact ⟨ROp.out, RXp.out⟩
        have hHeld := hHeld rfl
        clear hK K
        try go_simp
        refine restL_one (i := 9) (by kernel_rfl) rfl (fun K hK => ?_)
        refine step_app rfl (.tmp 68) (.tmp 75) 28 rfl w.heap.size 23 (.slice none 0 0) 1 24 Try.underlying28 row_infoE rfl (by decide) (by decide) (.slice XA xn xc) xn (slCells sl2) rfl ?own w10.heap.size (some ⟨g, 0, none⟩) m m (slCells sn) rfl ?rd (slCells_one _) ?hb ?hbase ?_
        case own => (have h9 := HXp.out.own; rw [HXN.out] at h9; exact h9)
        case rd => exact HGR.out.rd (by rw [slCells_length, HM.out.2]; omega)
        case hb => omega
        case hbase => omega
        intro v' w' hown' hgrow' hat'
        obtain ⟨VB, vd, rfl, _⟩ := Rd.own hown'
        have HXq : Hid (XOwn w' b0 w.heap.size (Value.slice QB (k + (i + 1)) qd).ownBlock (.slice VB (xn + m) vd) (sl2 ++ sn) (f.cls ++ placeTo nv ins c.gates (i + 1))) := (by show XOwn _ _ _ _ _ _ _; rw [← HCL.out]; exact HXp.out.app hszp (by rw [HM.out.1, HM.out.2]) HNW.out hgrow' (by rw [HXN.out, HM.out.1]; exact hown'))
        have ROq : Hid (Row w' (w.heap.size + 1 + 1 + 1) 30 [(Value.int .i64 ((nv : Int) + (i : Int) + 1)), .slice XA xn xc]) := ROp.out.grown hgrow' (fun e => own_ne_row HXp.out.own ROp.out (by decide) e.symm)
        have RCq : Hid (Row w' (w.heap.size + 1) 25 [.int .i64 k, .slice (some ad) gn gc, .slice OA on oc]) := RCp.out.grown hgrow' (fun e => own_ne_row HXp.out.own RCp.out (by decide) e.symm)
        have RZq : Hid (Row w' (w.heap.size + 1 + 1) 30 [.int .i64 0, .slice none 0 0]) := RZp.out.grown hgrow' (fun e => own_ne_row HXp.out.own RZp.out (by decide) e.symm)
        have HOq : Hid (w'.ownsRow w.heap.size 3 1 (.slice QB (k + (i + 1)) qd) (k + (i + 1)) (ints (wiresV nv ins (i + 1)))) := own_grown HOp.out hgrow' (own_types HOp.out HXp.out.own (by decide))
        have BWq : Hid (Below w.heap.size w w') := BWp.out.grown hgrow' hszp (fun q hq => (HXp.out.own.lt q hq).1)
        have q3 := ROq.out.cell 1
        have qf := ROq.out.frozen 1
        have ql := ROq.out.lt
        simp only [List.getElem?_cons_zero, List.getElem?_cons_succ] at q3
        clear hown' hgrow' hat' ROp RXp RCp RZp HXp HOp BWp hszp HGR HNW HCL HM
        refine hK.out _ _ (fun h => absurd h (by decide)) (fun _ => ?_)
        clear hK K
        try go_simp
        refine restL_pure (i := 10) (v := ?va239) rfl (by kernel_rfl) (by kernel_rfl) (by kernel_rfl) (fun _ _ _ h => h) (Or.inl ⟨by rfl, ?ya239⟩) ?ra239
        case ya239 => intro w' hSw; clear hSw; go_simp; try (with_reducible rfl)
        go_simp
        refine restL_one (i := 11) (by kernel_rfl) rfl (fun K hK => ?_)
        go_simp
        refine hK.out _ _ (fun h => absurd h (by decide)) (fun _ => ?_)
        clear hK K
        try go_simp
        refine restL_done (by kernel_rfl) ?_ _
        have RO10 : Hid (Row (World.setCell w' ⟨w.heap.size + 1 + 1 + 1, 1, none⟩ (.slice VB (xn + m) vd)) (w.heap.size + 1 + 1 + 1) 30 [(Value.int .i64 ((nv : Int) + (i : Int) + 1)), .slice VB (xn + m) vd]) := ROq.out.set 1 _
        have RC10 : Hid (Row (World.setCell w' ⟨w.heap.size + 1 + 1 + 1, 1, none⟩ (.slice VB (xn + m) vd)) (w.heap.size + 1) 25 [.int .i64 k, .slice (some ad) gn gc, .slice OA on oc]) := RCq.out.far (p := ⟨w.heap.size + 1 + 1 + 1, 1, none⟩) (by show w.heap.size + 1 ≠ w.heap.size + 1 + 1 + 1; omega) _
        have RZ10 : Hid (Row (World.setCell w' ⟨w.heap.size + 1 + 1 + 1, 1, none⟩ (.slice VB (xn + m) vd)) (w.heap.size + 1 + 1) 30 [.int .i64 0, .slice none 0 0]) := RZq.out.far (p := ⟨w.heap.size + 1 + 1 + 1, 1, none⟩) (by show w.heap.size + 1 + 1 ≠ w.heap.size + 1 + 1 + 1; omega) _
        have HX10 : Hid (XOwn (World.setCell w' ⟨w.heap.size + 1 + 1 + 1, 1, none⟩ (.slice VB (xn + m) vd)) b0 w.heap.size (Value.slice QB (k + (i + 1)) qd).ownBlock (.slice VB (xn + m) vd) (sl2 ++ sn) (f.cls ++ placeTo nv ins c.gates (i + 1))) := HXq.out.far (p := ⟨w.heap.size + 1 + 1 + 1, 1, none⟩) ROq.out (by decide) (by decide) (by show _ ≤ w.heap.size + 1 + 1 + 1; omega) _
        have HO10 : Hid (World.ownsRow (World.setCell w' ⟨w.heap.size + 1 + 1 + 1, 1, none⟩ (.slice VB (xn + m) vd)) w.heap.size 3 1 (.slice QB (k + (i + 1)) qd) (k + (i + 1)) (ints (wiresV nv ins (i + 1)))) := own_set (p := ⟨w.heap.size + 1 + 1 + 1, 1, none⟩) HOq.out ROq.out (by decide) _
        have BW10 : Hid (Below w.heap.size w (World.setCell w' ⟨w.heap.size + 1 + 1 + 1, 1, none⟩ (.slice VB (xn + m) vd))) := BWq.out.setCell (p := ⟨w.heap.size + 1 + 1 + 1, 1, none⟩) (by show _ ≤ w.heap.size + 1 + 1 + 1; omega) _
        clear ROq RCq RZq HXq HOq BWq q3 qf ql
        revert RO10 RC10 RZ10 HX10 HO10 BW10
        generalize (World.setCell w' ⟨w.heap.size + 1 + 1 + 1, 1, none⟩ (.slice VB (xn + m) vd)) = w11
        intro RO10 RC10 RZ10 HX10 HO10 BW10
        go_wp2
        go_roundg (gn - (i + 1))
        case measure => omega
        case rel => exact ⟨i + 1, _, _, _, by omega, by omega, by go_num, rfl, BW10.out, RC10.out, RZ10.out, (by show Row _ _ _ _; rw [show ((nv + (i + 1) : Nat) : Int) = (nv : Int) + (i : Int) + 1 by omega]; exact RO10.out), HX10.out, HO10.out⟩
      · rw [show operandsF op = 2 by rcases ho with e | e | e | e | e | e <;> rw [e] <;> first | rfl | omega] at HOP
        obtain ⟨a1, a2⟩ := ga (by omega)
        obtain ⟨b1, b2⟩ := gb (by omega)
        obtain ⟨gv, cap9, hva, hgvb, hgvl⟩ := HO8.out.form (by omega)
        injection hva with hva hva2 hva3
        subst hva hva3
        clear hva2
        have HAC : Hid (∀ (j : Nat), j < k + i → ∃ av, w8.cell? ⟨gv, j, none⟩ = some (.int .i64 av) ∧ (wiresV nv ins i).getD j 0 = av ∧ 1 ≤ av ∧ av ≤ nv + i) := fun j hj => by
          have hb := wires_bd (by rw [← HNV.out]; exact HR3.out) i j (by rw [HLI.out]; exact hj)
          refine ⟨_, ?_, rfl, hb⟩
          rw [HO8.out.cellAt j (by omega), ints_get _ _ (by rw [wiresV_length, HLI.out]; omega)]
        obtain ⟨an, rfl⟩ : ∃ an : Nat, xa = (an : Int) := ⟨xa.toNat, by omega⟩
        obtain ⟨av, hca, hwa, ha1, ha2⟩ := HAC.out an (by omega)
        rw [Int.toNat_natCast] at HGC
        have HWA : Hid ((wiresV nv ins i).getD an 0 = av) := hwa
        have haz : (an : Int) < (k : Int) + (i : Int) := by omega
        clear hwa
        obtain ⟨bn, rfl⟩ : ∃ bn : Nat, xb = (bn : Int) := ⟨xb.toNat, by omega⟩
        obtain ⟨bv, hcb, hwb, hb1, hb2⟩ := HAC.out bn (by omega)
        rw [Int.toNat_natCast] at HGC
        have HWB : Hid ((wiresV nv ins i).getD bn 0 = bv) := hwb
        have hbz : (bn : Int) < (k : Int) + (i : Int) := by omega
        clear hwb
        have HOP : Hid (Calls _ _ _ _ _) := HOP
        clear ga gb ga0 gb0 ho
        go_wp2_with fail
        with_reducible refine HOP.out.mono ?_
        rintro e w8q ⟨rfl, rfl⟩
        go_wp2_with fail
        with_reducible refine HOP.out.mono ?_
        rintro e w8q ⟨rfl, rfl⟩
        clear HOP
        go_wp2_with (at_builtin; refine wpList_app rfl (.tmp 62) (.tmp 65) 23 rfl w.heap.size 3 (.int .i64 0) 1 8 Try.underlying23 int_infoE rfl (by decide) (by decide) (.slice (some ⟨gv, 0, none⟩) (k + i) qc) (k + i) (ints (wiresV nv ins i)) rfl ?own (w8.heap.size + 1) (some ⟨w8.heap.size, 0, none⟩) 1 1 [.int .i64 ((nv : Int) + (i : Int) + 1)] rfl ?rd ?one ?hb ?hbase ?_)
        case own => exact ((own_set (p := ⟨w.heap.size + 1 + 1 + 1, 0, none⟩) HO8.out RO8.out (by decide) (Value.int .i64 ((nv : Int) + (i : Int) + 1)))).alloc _
        case rd => have h9 := Rd.lit (World.setCell w8 ⟨w.heap.size + 1 + 1 + 1, 0, none⟩ (Value.int .i64 ((nv : Int) + (i : Int) + 1))) #[.int .i64 ((nv : Int) + (i : Int) + 1)] 3 (sz := 1) (m := 1) rfl; rw [World.size_setCell] at h9; exact h9
        case one => first | (intro u hu; simp at hu; subst hu; rfl) | rfl
        case hb => omega
        case hbase => first | (simp; omega) | omega
        intro v' w9 hown' hgrow' hat'
        obtain ⟨QB, qd, rfl, _⟩ := Rd.own hown'
        have RO9 : Hid (Row w9 (w.heap.size + 1 + 1 + 1) 30 [(Value.int .i64 ((nv : Int) + (i : Int) + 1)), .slice XA xn xc]) := ((RO8.out.set 0 (Value.int .i64 ((nv : Int) + (i : Int) + 1))).alloc _).grown hgrow' (fun e => own_ne_row HO8.out RO8.out (by decide) e.symm)
        have RX9 : Hid (Row w9 bx 49 [.int .i64 op, .int .i64 (an : Int), .int .i64 (bn : Int)]) := ((RX8.out.far (p := ⟨w.heap.size + 1 + 1 + 1, 0, none⟩) hbx.out (Value.int .i64 ((nv : Int) + (i : Int) + 1))).alloc _).grown hgrow' (fun e => own_ne_row HO8.out RX8.out (by decide) e.symm)
        have RC9 : Hid (Row w9 (w.heap.size + 1) 25 [.int .i64 k, .slice (some ad) gn gc, .slice OA on oc]) := ((RC8.out.far (p := ⟨w.heap.size + 1 + 1 + 1, 0, none⟩) (by show w.heap.size + 1 ≠ w.heap.size + 1 + 1 + 1; omega) (Value.int .i64 ((nv : Int) + (i : Int) + 1))).alloc _).grown hgrow' (fun e => own_ne_row HO8.out RC8.out (by decide) e.symm)
        have RZ9 : Hid (Row w9 (w.heap.size + 1 + 1) 30 [.int .i64 0, .slice none 0 0]) := ((RZ8.out.far (p := ⟨w.heap.size + 1 + 1 + 1, 0, none⟩) (by show w.heap.size + 1 + 1 ≠ w.heap.size + 1 + 1 + 1; omega) (Value.int .i64 ((nv : Int) + (i : Int) + 1))).alloc _).grown hgrow' (fun e => own_ne_row HO8.out RZ8.out (by decide) e.symm)
        have HX9 : Hid (XOwn w9 b0 w.heap.size (Value.slice QB (k + (i + 1)) qd).ownBlock (.slice XA xn xc) sl2 (f.cls ++ placeTo nv ins c.gates i)) := (by
          show XOwn _ _ _ _ _ _ _
          have h1 := HX8.out.far (p := ⟨w.heap.size + 1 + 1 + 1, 0, none⟩) RO8.out (by decide) (by decide) (by show _ ≤ w.heap.size + 1 + 1 + 1; omega) (Value.int .i64 ((nv : Int) + (i : Int) + 1))
          have hs1 : w.heap.size ≤ (World.setCell w8 ⟨w.heap.size + 1 + 1 + 1, 0, none⟩ (Value.int .i64 ((nv : Int) + (i : Int) + 1))).heap.size := by rw [World.size_setCell]; exact BW8.out.size
          have h2 := h1.up hs1 ((Below.refl _ _).alloc (Nat.le_refl _) (.cells #[.int .i64 ((nv : Int) + (i : Int) + 1)] 3))
          exact h2.grow ((own_set (p := ⟨w.heap.size + 1 + 1 + 1, 0, none⟩) HO8.out RO8.out (by decide) (Value.int .i64 ((nv : Int) + (i : Int) + 1))).alloc _) (by simp; omega) hgrow' (hat'.imp id (fun e => ⟨w8.heap.size + 1, e, by simp⟩)))
        have HO9 : Hid (w9.ownsRow w.heap.size 3 1 (.slice QB (k + (i + 1)) qd) (k + (i + 1)) (ints (wiresV nv ins (i + 1)))) := (by
          show World.ownsRow _ _ _ _ _ _ _
          have e : ints (wiresV nv ins (i + 1)) = ints (wiresV nv ins i) ++ [.int .i64 ((nv : Int) + (i : Int) + 1)] := by rw [wiresV_succ]; simp [ints]
          rw [e]; exact hown')
        have BW9 : Hid (Below w.heap.size w w9) := ((BW8.out.setCell (p := ⟨w.heap.size + 1 + 1 + 1, 0, none⟩) (by show _ ≤ w.heap.size + 1 + 1 + 1; omega) (Value.int .i64 ((nv : Int) + (i : Int) + 1))).alloc (by rw [World.size_setCell]; exact BW8.out.size) _).grown hgrow' (by simp; omega) (fun q hq => (HO8.out.lt q hq).1)
        clear hown' hgrow' hat' RO8 RX8 RC8 RZ8 HX8 HO8 BW8 d0 d1 dl df0 df1 y0 y1 y2 yl hszr
        have e0 := RO9.out.cell 0
        have e1 := RO9.out.cell 1
        have el := RO9.out.lt
        simp only [List.getElem?_cons_zero, List.getElem?_cons_succ] at e0 e1
        have x0 := RX9.out.cell 0
        have x1 := RX9.out.cell 1
        have x2 := RX9.out.cell 2
        have xl := RX9.out.lt
        simp only [List.getElem?_cons_zero, List.getElem?_cons_succ] at x0 x1 x2
        have e1f := RO9.out.frozen 1
        go_wp2_with fail
        refine wp_region_L (fun w' => Row w' (w.heap.size + 1 + 1 + 1) 30 [(Value.int .i64 ((nv : Int) + (i : Int) + 1)), .slice XA xn xc] ∧ Row w' bx 49 [.int .i64 op, .int .i64 (an : Int), .int .i64 (bn : Int)]) [9, 10, 11] (by kernel_rfl) (by exact ⟨RO9.out.drew, RX9.out.drew⟩) (fun hHeld => ?_)
        have ROd : Hid (Row w9.drew (w.heap.size + 1 + 1 + 1) 30 [(Value.int .i64 ((nv : Int) + (i : Int) + 1)), .slice XA xn xc]) := hHeld.1
        have RXd : Hid (Row w9.drew bx 49 [.int .i64 op, .int .i64 (an : Int), .int .i64 (bn : Int)]) := hHeld.2
        have RCd : Hid (Row w9.drew (w.heap.size + 1) 25 [.int .i64 k, .slice (some ad) gn gc, .slice OA on oc]) := RC9.out
        have RZd : Hid (Row w9.drew (w.heap.size + 1 + 1) 30 [.int .i64 0, .slice none 0 0]) := RZ9.out
        have HXd : Hid (XOwn w9.drew b0 w.heap.size (Value.slice QB (k + (i + 1)) qd).ownBlock (.slice XA xn xc) sl2 (f.cls ++ placeTo nv ins c.gates i)) := ⟨HX9.out.len, HX9.out.le, HX9.out.own, HX9.out.row⟩
        have HOd : Hid (w9.drew.ownsRow w.heap.size 3 1 (.slice QB (k + (i + 1)) qd) (k + (i + 1)) (ints (wiresV nv ins (i + 1)))) := HO9.out
        have BWd : Hid (Below w.heap.size w w9.drew) := BW9.out.drew
        clear RO9 RX9 RC9 RZ9 HX9 HO9 BW9 e0 e1 el x0 x1 x2 xl
        revert hHeld ROd RXd RCd RZd HXd HOd BWd
        generalize w9.drew = wQ
        intro hHeld ROd RXd RCd RZd HXd HOd BWd
        refine restL_pure (i := 0) (v := ?vao41) rfl (by kernel_rfl) (by kernel_rfl) (by kernel_rfl) (fun _ _ _ h => h) (Or.inl ⟨by rfl, ?yao41⟩) ?rao41
        case yao41 => intro w' hSw; clear hSw; go_simp; try (with_reducible rfl)
        go_simp
        refine restL_pure (i := 2) (v := ?vao42) rfl (by kernel_rfl) (by kernel_rfl) (by kernel_rfl) (fun _ _ _ h => h) (Or.inl ⟨by rfl, ?yao42⟩) ?rao42
        case yao42 => intro w' hSw; clear hSw; go_simp; try (with_reducible rfl)
        go_simp
        refine restL_pure (i := 4) (v := ?vao43) rfl (by kernel_rfl) (by kernel_rfl) (by kernel_rfl) (fun _ _ _ h => h) (Or.inl ⟨by rfl, ?yao43⟩) ?rao43
        case yao43 => intro w' hSw; clear hSw; go_simp; try (with_reducible rfl)
        go_simp
        refine restL_pure (i := 6) (v := ?vao44) rfl (by kernel_rfl) (by kernel_rfl) (by kernel_rfl) (fun _ _ _ h => h) (Or.inl ⟨by rfl, ?yao44⟩) ?rao44
        case yao44 => intro w' hSw; clear hSw; go_simp; try (with_reducible rfl)
        go_simp
        refine restL_pure (i := 7) (v := ?vao45) rfl (by kernel_rfl) (by kernel_rfl) (by kernel_rfl) (fun _ _ _ h => h) (Or.inl ⟨by rfl, ?yao45⟩) ?rao45
        case yao45 => intro w' hSw; clear hSw; go_simp; try (with_reducible rfl)
        go_simp
        refine restL_take (i := 1) (v := ?vao46) [[9], [10], [11]] rfl (by kernel_rfl) (by kernel_rfl) (by kernel_rfl) (by kernel_rfl) (fun _ _ _ h => h) (Or.inl ⟨by rfl, ?yao46⟩) hHeld ?rao46
        case yao46 =>
          intro w' hSw
          have hSh : Hid (Row w' (w.heap.size + 1 + 1 + 1) 30 [(Value.int .i64 ((nv : Int) + (i : Int) + 1)), .slice XA xn xc]) := hSw.1
          have hSp : Hid (Row w' bx 49 [.int .i64 op, .int .i64 (an : Int), .int .i64 (bn : Int)]) := hSw.2
          clear hSw
          have z0 := hSh.out.cell 0
          have z1 := hSh.out.cell 1
          have zl := hSh.out.lt
          simp only [List.getElem?_cons_zero, List.getElem?_cons_succ] at z0 z1
          have y0 := hSp.out.cell 0
          have y1 := hSp.out.cell 1
          have y2 := hSp.out.cell 2
          have yl := hSp.out.lt
          simp only [List.getElem?_cons_zero, List.getElem?_cons_succ] at y0 y1 y2
          go_simp
          try (with_reducible rfl)
        go_simp
        refine restL_take (i := 3) (v := ?vao47) [[9, 8], [10], [11]] rfl (by kernel_rfl) (by kernel_rfl) (by kernel_rfl) (by kernel_rfl) (fun _ _ _ h => h) (Or.inl ⟨by rfl, ?yao47⟩) hHeld ?rao47
        case yao47 =>
          intro w' hSw
          have hSh : Hid (Row w' (w.heap.size + 1 + 1 + 1) 30 [(Value.int .i64 ((nv : Int) + (i : Int) + 1)), .slice XA xn xc]) := hSw.1
          have hSp : Hid (Row w' bx 49 [.int .i64 op, .int .i64 (an : Int), .int .i64 (bn : Int)]) := hSw.2
          clear hSw
          have z0 := hSh.out.cell 0
          have z1 := hSh.out.cell 1
          have zl := hSh.out.lt
          simp only [List.getElem?_cons_zero, List.getElem?_cons_succ] at z0 z1
          have y0 := hSp.out.cell 0
          have y1 := hSp.out.cell 1
          have y2 := hSp.out.cell 2
          have yl := hSp.out.lt
          simp only [List.getElem?_cons_zero, List.getElem?_cons_succ] at y0 y1 y2
          go_simp
          try (with_reducible rfl)
        go_simp
        refine restL_take (i := 5) (v := ?vao48) [[9, 8], [10], [11]] rfl (by kernel_rfl) (by kernel_rfl) (by kernel_rfl) (by kernel_rfl) (fun _ _ _ h => h) (Or.inl ⟨by rfl, ?yao48⟩) hHeld ?rao48
        case yao48 =>
          intro w' hSw
          have hSh : Hid (Row w' (w.heap.size + 1 + 1 + 1) 30 [(Value.int .i64 ((nv : Int) + (i : Int) + 1)), .slice XA xn xc]) := hSw.1
          have hSp : Hid (Row w' bx 49 [.int .i64 op, .int .i64 (an : Int), .int .i64 (bn : Int)]) := hSw.2
          clear hSw
          have z0 := hSh.out.cell 0
          have z1 := hSh.out.cell 1
          have zl := hSh.out.lt
          simp only [List.getElem?_cons_zero, List.getElem?_cons_succ] at z0 z1
          have y0 := hSp.out.cell 0
          have y1 := hSp.out.cell 1
          have y2 := hSp.out.cell 2
          have yl := hSp.out.lt
          simp only [List.getElem?_cons_zero, List.getElem?_cons_succ] at y0 y1 y2
          go_simp
          try (with_reducible rfl)
        go_simp
        refine restL_one (i := 8) (by kernel_rfl) rfl (fun K hK => ?_)
        go_simp
        go_at_call 43
        with_reducible refine (rClauses_any op ((nv : Int) + (i : Int) + 1) (av) (bv) wQ hop.out (by omega) (by omega) (by omega) (by omega) (by omega) (by omega)).mono ?_
        rintro e w10 ⟨g, m, sn, rfl, hm, hsn, hrow, hin, hgs, hb⟩
        have HCL : Hid ((f.cls ++ placeTo nv ins c.gates i) ++ clausesF op ((nv : Int) + (i : Int) + 1) (av) (bv) = f.cls ++ placeTo nv ins c.gates (i + 1)) := (by
          show _ = _
          rw [placeTo_succ, List.append_assoc, HGC.out]
          rw [HWA.out, HWB.out])
        have hm4 := clausesF_len op ((nv : Int) + (i : Int) + 1) (av) (bv)
        rw [hm] at hm4
        have HM : Hid ((clausesF op ((nv : Int) + (i : Int) + 1) (av) (bv)).length = m ∧ sn.length = m) := ⟨hm, hsn⟩
        have HNW : Hid (∀ j, j < (clausesF op ((nv : Int) + (i : Int) + 1) (av) (bv)).length → InX w10 b0 w.heap.size (Value.slice QB (k + (i + 1)) qd).ownBlock (sn.getD j default) ((clausesF op ((nv : Int) + (i : Int) + 1) (av) (bv)).getD j [])) := fun j hj => (hin j hj).inX HXd.out.le BWd.out.size (fun q hq => own_lt HOd.out q hq)
        have HGR : Hid (Row w10 g 23 (slCells sn)) := hrow
        have ROp : Hid (Row w10 (w.heap.size + 1 + 1 + 1) 30 [(Value.int .i64 ((nv : Int) + (i : Int) + 1)), .slice XA xn xc]) := rowCells ROd.out hb
        have RXp : Hid (Row w10 bx 49 [.int .i64 op, .int .i64 (an : Int), .int .i64 (bn : Int)]) := rowCells RXd.out hb
        have RCp : Hid (Row w10 (w.heap.size + 1) 25 [.int .i64 k, .slice (some ad) gn gc, .slice OA on oc]) := rowCells RCd.out hb
        have RZp : Hid (Row w10 (w.heap.size + 1 + 1) 30 [.int .i64 0, .slice none 0 0]) := rowCells RZd.out hb
        have HXp : Hid (XOwn w10 b0 w.heap.size (Value.slice QB (k + (i + 1)) qd).ownBlock (.slice XA xn xc) sl2 (f.cls ++ placeTo nv ins c.gates i)) := HXd.out.up BWd.out.size hb
        have HOp : Hid (w10.ownsRow w.heap.size 3 1 (.slice QB (k + (i + 1)) qd) (k + (i + 1)) (ints (wiresV nv ins (i + 1)))) := own_below HOd.out hb (Nat.le_refl _)
        have BWp : Hid (Below w.heap.size w w10) := below_on2 BWd.out hb
        have hszp := BWp.out.size
        clear hb hm hsn hrow hin hgs hHeld ROd RXd RCd RZd HXd HOd BWd
        refine hK.out _ _ (fun _ => ?keep) (fun hHeld => ?_)
        case keep => exact ⟨ROp.out, RXp.out⟩
        have hHeld := hHeld rfl
        clear hK K
        try go_simp
        refine restL_one (i := 9) (by kernel_rfl) rfl (fun K hK => ?_)
        refine step_app rfl (.tmp 68) (.tmp 75) 28 rfl w.heap.size 23 (.slice none 0 0) 1 24 Try.underlying28 row_infoE rfl (by decide) (by decide) (.slice XA xn xc) xn (slCells sl2) rfl ?own w10.heap.size (some ⟨g, 0, none⟩) m m (slCells sn) rfl ?rd (slCells_one _) ?hb ?hbase ?_
        case own => (have h9 := HXp.out.own; rw [HXN.out] at h9; exact h9)
        case rd => exact HGR.out.rd (by rw [slCells_length, HM.out.2]; omega)
        case hb => omega
        case hbase => omega
        intro v' w' hown' hgrow' hat'
        obtain ⟨VB, vd, rfl, _⟩ := Rd.own hown'
        have HXq : Hid (XOwn w' b0 w.heap.size (Value.slice QB (k + (i + 1)) qd).ownBlock (.slice VB (xn + m) vd) (sl2 ++ sn) (f.cls ++ placeTo nv ins c.gates (i + 1))) := (by show XOwn _ _ _ _ _ _ _; rw [← HCL.out]; exact HXp.out.app hszp (by rw [HM.out.1, HM.out.2]) HNW.out hgrow' (by rw [HXN.out, HM.out.1]; exact hown'))
        have ROq : Hid (Row w' (w.heap.size + 1 + 1 + 1) 30 [(Value.int .i64 ((nv : Int) + (i : Int) + 1)), .slice XA xn xc]) := ROp.out.grown hgrow' (fun e => own_ne_row HXp.out.own ROp.out (by decide) e.symm)
        have RCq : Hid (Row w' (w.heap.size + 1) 25 [.int .i64 k, .slice (some ad) gn gc, .slice OA on oc]) := RCp.out.grown hgrow' (fun e => own_ne_row HXp.out.own RCp.out (by decide) e.symm)
        have RZq : Hid (Row w' (w.heap.size + 1 + 1) 30 [.int .i64 0, .slice none 0 0]) := RZp.out.grown hgrow' (fun e => own_ne_row HXp.out.own RZp.out (by decide) e.symm)
        have HOq : Hid (w'.ownsRow w.heap.size 3 1 (.slice QB (k + (i + 1)) qd) (k + (i + 1)) (ints (wiresV nv ins (i + 1)))) := own_grown HOp.out hgrow' (own_types HOp.out HXp.out.own (by decide))
        have BWq : Hid (Below w.heap.size w w') := BWp.out.grown hgrow' hszp (fun q hq => (HXp.out.own.lt q hq).1)
        have q3 := ROq.out.cell 1
        have qf := ROq.out.frozen 1
        have ql := ROq.out.lt
        simp only [List.getElem?_cons_zero, List.getElem?_cons_succ] at q3
        clear hown' hgrow' hat' ROp RXp RCp RZp HXp HOp BWp hszp HGR HNW HCL HM
        refine hK.out _ _ (fun h => absurd h (by decide)) (fun _ => ?_)
        clear hK K
        try go_simp
        refine restL_pure (i := 10) (v := ?vao49) rfl (by kernel_rfl) (by kernel_rfl) (by kernel_rfl) (fun _ _ _ h => h) (Or.inl ⟨by rfl, ?yao49⟩) ?rao49
        case yao49 => intro w' hSw; clear hSw; go_simp; try (with_reducible rfl)
        go_simp
        refine restL_one (i := 11) (by kernel_rfl) rfl (fun K hK => ?_)
        go_simp
        refine hK.out _ _ (fun h => absurd h (by decide)) (fun _ => ?_)
        clear hK K
        try go_simp
        refine restL_done (by kernel_rfl) ?_ _
        have RO10 : Hid (Row (World.setCell w' ⟨w.heap.size + 1 + 1 + 1, 1, none⟩ (.slice VB (xn + m) vd)) (w.heap.size + 1 + 1 + 1) 30 [(Value.int .i64 ((nv : Int) + (i : Int) + 1)), .slice VB (xn + m) vd]) := ROq.out.set 1 _
        have RC10 : Hid (Row (World.setCell w' ⟨w.heap.size + 1 + 1 + 1, 1, none⟩ (.slice VB (xn + m) vd)) (w.heap.size + 1) 25 [.int .i64 k, .slice (some ad) gn gc, .slice OA on oc]) := RCq.out.far (p := ⟨w.heap.size + 1 + 1 + 1, 1, none⟩) (by show w.heap.size + 1 ≠ w.heap.size + 1 + 1 + 1; omega) _
        have RZ10 : Hid (Row (World.setCell w' ⟨w.heap.size + 1 + 1 + 1, 1, none⟩ (.slice VB (xn + m) vd)) (w.heap.size + 1 + 1) 30 [.int .i64 0, .slice none 0 0]) := RZq.out.far (p := ⟨w.heap.size + 1 + 1 + 1, 1, none⟩) (by show w.heap.size + 1 + 1 ≠ w.heap.size + 1 + 1 + 1; omega) _
        have HX10 : Hid (XOwn (World.setCell w' ⟨w.heap.size + 1 + 1 + 1, 1, none⟩ (.slice VB (xn + m) vd)) b0 w.heap.size (Value.slice QB (k + (i + 1)) qd).ownBlock (.slice VB (xn + m) vd) (sl2 ++ sn) (f.cls ++ placeTo nv ins c.gates (i + 1))) := HXq.out.far (p := ⟨w.heap.size + 1 + 1 + 1, 1, none⟩) ROq.out (by decide) (by decide) (by show _ ≤ w.heap.size + 1 + 1 + 1; omega) _
        have HO10 : Hid (World.ownsRow (World.setCell w' ⟨w.heap.size + 1 + 1 + 1, 1, none⟩ (.slice VB (xn + m) vd)) w.heap.size 3 1 (.slice QB (k + (i + 1)) qd) (k + (i + 1)) (ints (wiresV nv ins (i + 1)))) := own_set (p := ⟨w.heap.size + 1 + 1 + 1, 1, none⟩) HOq.out ROq.out (by decide) _
        have BW10 : Hid (Below w.heap.size w (World.setCell w' ⟨w.heap.size + 1 + 1 + 1, 1, none⟩ (.slice VB (xn + m) vd))) := BWq.out.setCell (p := ⟨w.heap.size + 1 + 1 + 1, 1, none⟩) (by show _ ≤ w.heap.size + 1 + 1 + 1; omega) _
        clear ROq RCq RZq HXq HOq BWq q3 qf ql
        revert RO10 RC10 RZ10 HX10 HO10 BW10
        generalize (World.setCell w' ⟨w.heap.size + 1 + 1 + 1, 1, none⟩ (.slice VB (xn + m) vd)) = w11
        intro RO10 RC10 RZ10 HX10 HO10 BW10
        go_wp2
        go_roundg (gn - (i + 1))
        case measure => omega
        case rel => exact ⟨i + 1, _, _, _, by omega, by omega, by go_num, rfl, BW10.out, RC10.out, RZ10.out, (by show Row _ _ _ _; rw [show ((nv + (i + 1) : Nat) : Int) = (nv : Int) + (i : Int) + 1 by omega]; exact RO10.out), HX10.out, HO10.out⟩
    · have hltz : ¬ (i : Int) < (gn : Int) := by omega
      obtain rfl : gn = i := by omega
      obtain ⟨XA, xc, rfl⟩ := HX.out.eown.form
      obtain ⟨QA, qc, rfl, _⟩ := Rd.own HO.out
      obtain ⟨xn, hxn⟩ : ∃ xn, xn = (f.cls ++ placeTo nv ins c.gates gn).length := ⟨_, rfl⟩
      have HXN : Hid ((f.cls ++ placeTo nv ins c.gates gn).length = xn) := hxn.symm
      have hxb : xn ≤ 400000 := by
        rw [hxn, List.length_append, HFL.out]
        have := placeTo_len nv ins c.gates gn
        omega
      rw [← hxn] at RO HX
      have HX8 : Hid (EOwn wr b0 w.heap.size (.slice XA xn xc) sl2 (f.cls ++ placeTo nv ins c.gates gn)) := HX.out.eown
      have RO8 : Hid (Row wr (w.heap.size + 1 + 1 + 1) 30 [.int .i64 ((nv : Int) + (gn : Int)), .slice XA xn xc]) := (by show Row _ _ _ _; have := RO.out; rw [show ((nv + gn : Nat) : Int) = (nv : Int) + (gn : Int) by omega] at this; exact this)
      have RC8 : Hid (Row wr (w.heap.size + 1) 25 [.int .i64 k, .slice GA gn gc, .slice OA on oc]) := RC.out
      have RZ8 : Hid (Row wr (w.heap.size + 1 + 1) 30 [.int .i64 0, .slice none 0 0]) := RZ.out
      have HO8 : Hid (wr.ownsRow w.heap.size 3 1 (.slice QA (k + gn) qc) (k + gn) (ints (wiresV nv ins gn))) := HO.out
      have BW8 : Hid (Below w.heap.size w wr) := BW.out
      clear hxn RO RC RZ HX HO BW
      have k0 := RC8.out.cell 0
      have k1 := RC8.out.cell 1
      have k2 := RC8.out.cell 2
      have kl := RC8.out.lt
      simp only [List.getElem?_cons_zero, List.getElem?_cons_succ] at k0 k1 k2
      have HPF : Hid (placeF f c ins = ⟨(nv : Int) + (gn : Int), f.cls ++ placeTo nv ins c.gates gn⟩) := by
        show _ = _
        unfold placeF
        rw [HNV.out, HLG.out]
      have HPO9 : Hid (placeO f c ins = outsTo nv ins gn c.outs on) := placeO_eq f c ins nv gn on HNV.out HLG.out HON.out
      clear HPG HF HFL
      revert RO8 RC8 RZ8 HX8 HO8 BW8 k0 k1 k2 kl
      generalize wr = w8
      intro HX8 RO8 RC8 RZ8 HO8 BW8 k0 k1 k2 kl
      go_wp2
      clear k0 k1 k2 kl
      go_loopg [14, 15] on (fun gg s14 s15 wr => ∃ (j : Nat) (v : Value), j ≤ on ∧ on - j ≤ gg ∧ s15 = .int .i64 j ∧ s14 = v ∧ Aside (Below w8.heap.size w8 wr) ∧ Aside (wr.ownsRow w8.heap.size 3 1 v j (ints (outsTo nv ins gn c.outs j))))
      case atStart => exact ⟨0, _, Nat.zero_le _, by omega, rfl, rfl, Below.refl _ _, World.ownsRow_nil _ _ _ _⟩
      case round =>
        obtain ⟨j, v7, hj, hgj, rfl, rfl, BN, OW⟩ := hrel
        have HBr : Hid (Below w.heap.size w wr) := below_on2 BW8.out BN.out
        have RCr : Hid (Row wr (w.heap.size + 1) 25 [.int .i64 k, .slice GA gn gc, .slice OA on oc]) := rowCells RC8.out BN.out
        obtain ⟨XB, xd, rfl, _⟩ := Rd.own OW.out
        by_cases hlj : j < on
        · have hljz : (j : Int) < (on : Int) := by omega
          obtain ⟨ad, rfl, _, hco⟩ := (HC.out.up HBr.out).outs.int hlj
          have k0 := RCr.out.cell 0
          have k1 := RCr.out.cell 1
          have k2 := RCr.out.cell 2
          have kl := RCr.out.lt
          simp only [List.getElem?_cons_zero, List.getElem?_cons_succ] at k0 k1 k2
          obtain ⟨o1, o2⟩ := outOk_at HPO.out (k := j) (by rw [HON.out]; exact hlj)
          rw [HLG.out, ← HKI.out] at o2
          have HOS : Hid (∀ x, (wiresV nv ins gn).getD (c.outs.getD j 0).toNat 0 = x → ints (outsTo nv ins gn c.outs j) ++ [.int .i64 x] = ints (outsTo nv ins gn c.outs (j + 1))) := fun x hx => by
            subst hx; simp [outsTo, List.range_succ, ints]
          generalize c.outs.getD j 0 = o at hco o1 o2 HOS
          obtain ⟨on', rfl⟩ : ∃ on' : Nat, o = (on' : Int) := ⟨o.toNat, by omega⟩
          have hvr : Hid (wr.ownsRow w.heap.size 3 1 (.slice QA (k + gn) qc) (k + gn) (ints (wiresV nv ins gn))) := own_below HO8.out BN.out (Nat.le_refl _)
          obtain ⟨gv, cap9, hva, _, hgvl⟩ := hvr.out.form (by omega)
          injection hva with hva hva2 hva3
          subst hva hva3
          clear hva2
          have hcv := hvr.out.cellAt on' (by omega)
          rw [ints_get _ _ (by rw [wiresV_length, HLI.out]; omega)] at hcv
          obtain ⟨xv, hxv⟩ : ∃ xv, (wiresV nv ins gn).getD on' 0 = xv := ⟨_, rfl⟩
          rw [hxv] at hcv
          have HOS2 : Hid (ints (outsTo nv ins gn c.outs j) ++ [.int .i64 xv] = ints (outsTo nv ins gn c.outs (j + 1))) := HOS.out xv hxv
          have honz : (on' : Int) < (k : Int) + (gn : Int) := by omega
          have hb8 := BN.out.size
          clear hxv HOS
          go_wp2_with (at_builtin; refine wpList_app rfl (.tmp 85) (.tmp 94) 23 rfl w8.heap.size 3 (.int .i64 0) 1 8 Try.underlying23 int_infoE rfl (by decide) (by decide) (.slice XB j xd) (j) (ints (outsTo nv ins gn c.outs j)) rfl ?own (wr.heap.size + 1) (some ⟨wr.heap.size, 0, none⟩) 1 1 [.int .i64 xv] rfl ?rd ?one ?hb ?hbase ?_)
          case own => exact (OW.out).alloc _
          case rd => exact Rd.lit wr #[.int .i64 xv] 3 (sz := 1) (m := 1) rfl
          case one => first | (intro u hu; simp at hu; subst hu; rfl) | rfl
          case hb => omega
          case hbase => first | (simp; omega) | omega
          intro v' w' hown' hgrow' hat'
          have HOn : Hid (w'.ownsRow w8.heap.size 3 1 v' (j + 1) (ints (outsTo nv ins gn c.outs (j + 1)))) := (by show World.ownsRow _ _ _ _ _ _ _; rw [← HOS2.out]; exact hown')
          have HBn : Hid (Below w8.heap.size w8 w') := (BN.out.alloc hb8 _).grown hgrow' (by simp; omega) (fun q hq => (OW.out.lt q hq).1)
          clear hown' hgrow' hat' hco hcv hb8
          go_wp2
          go_roundg (on - (j + 1))
          case measure => omega
          case rel => exact ⟨j + 1, v', by omega, by omega, by go_num, rfl, HBn.out, HOn.out⟩
        · have hljz : ¬ (j : Int) < (on : Int) := by omega
          obtain rfl : on = j := by omega
          have k0 := RCr.out.cell 0
          have k1 := RCr.out.cell 1
          have k2 := RCr.out.cell 2
          have kl := RCr.out.lt
          simp only [List.getElem?_cons_zero, List.getElem?_cons_succ] at k0 k1 k2
          have RO9 : Hid (Row wr (w.heap.size + 1 + 1 + 1) 30 [.int .i64 ((nv : Int) + (gn : Int)), .slice XA xn xc]) := rowCells RO8.out BN.out
          have RZ9 : Hid (Row wr (w.heap.size + 1 + 1) 30 [.int .i64 0, .slice none 0 0]) := rowCells RZ8.out BN.out
          have EO9 : Hid (EOwn wr b0 w.heap.size (.slice XA xn xc) sl2 (f.cls ++ placeTo nv ins c.gates gn)) := HX8.out.up (Nat.le_trans hb0 BW8.out.size) BN.out
          have HSZ : Hid (w.heap.size ≤ w8.heap.size) := BW8.out.size
          have HRES : Hid (PlaceFPost b0 (placeF f c ins) (placeO f c ins) w (.returned (.tuple #[.agg #[.int .i64 ((nv : Int) + (gn : Int)), .slice XA xn xc], .slice XB on xd])) (World.setCell (World.setCell wr ⟨w.heap.size + 1 + 1, 0, none⟩ (.int .i64 ((nv : Int) + (gn : Int)))) ⟨w.heap.size + 1 + 1, 1, none⟩ (.slice XA xn xc))) := by
            have Z1 := RZ9.out.set 0 (.int .i64 ((nv : Int) + (gn : Int)))
            show PlaceFPost _ _ _ _ _ _
            rw [HPF.out, HPO9.out]
            refine ⟨XA, xn, xc, sl2, XB, on, xd, rfl, ⟨HXN.out, by omega⟩, ?_, ?_, by unfold maxLen; omega, ?_⟩
            · exact (EO9.out.far (p := ⟨w.heap.size + 1 + 1, 0, none⟩) RZ9.out (by decide) (by decide) (by show _ ≤ w.heap.size + 1 + 1; omega) (.int .i64 ((nv : Int) + (gn : Int)))).far (p := ⟨w.heap.size + 1 + 1, 1, none⟩) Z1 (by decide) (by decide) (by show _ ≤ w.heap.size + 1 + 1; omega) (.slice XA xn xc)
            · exact own_base (own_set (p := ⟨w.heap.size + 1 + 1, 1, none⟩) (own_set (p := ⟨w.heap.size + 1 + 1, 0, none⟩) OW.out RZ9.out (by decide) (.int .i64 ((nv : Int) + (gn : Int)))) Z1 (by decide) (.slice XA xn xc)) HSZ.out
            · exact (HBr.out.setCell (p := ⟨w.heap.size + 1 + 1, 0, none⟩) (by show _ ≤ w.heap.size + 1 + 1; omega) (.int .i64 ((nv : Int) + (gn : Int)))).setCell (p := ⟨w.heap.size + 1 + 1, 1, none⟩) (by show _ ≤ w.heap.size + 1 + 1; omega) (.slice XA xn xc)
          have Z9 := (RZ9.out.set 0 (.int .i64 ((nv : Int) + (gn : Int)))).set 1 (.slice XA xn xc)
          have q0 := Z9.cell 0
          have q1 := Z9.cell 1
          simp only [List.getElem?_cons_zero, List.getElem?_cons_succ, List.set_cons_zero, List.set_cons_succ] at q0 q1
          clear Z9 HPO9 EO9 HSZ HBr BN OW HNV HKI HLG HON HC HPO HPF
          have d0 := RZ9.out.cell 0
          have d1 := RZ9.out.cell 1
          have dl := RZ9.out.lt
          simp only [List.getElem?_cons_zero, List.getElem?_cons_succ] at d0 d1
          have df0 := RZ9.out.frozen 0
          have df1 := RZ9.out.frozen 1
          have e0 := RO9.out.cell 0
          have e1 := RO9.out.cell 1
          have el := RO9.out.lt
          simp only [List.getElem?_cons_zero, List.getElem?_cons_succ] at e0 e1
          clear RZ9 RO9
          go_wp2
          refine bodyPost_ret (v := .tuple #[.agg #[.int .i64 ((nv : Int) + (gn : Int)), .slice XA xn xc], .slice XB on xd]) (by simp [results, Try.results26, go_sem, q0, q1]) rfl ?_
          exact HRES.out
end Go.Proofs.Ytofflkfkakddkaa
