/-
  ruletable.plain, walked.
-/
import Derived.Test.YtlmdjkmcplobnaaDoorKC4
import Derived.Deep.RegionHeld3
import Derived.Test.YtlmdjkmcplobnaaDoorKC8
namespace Go.Proofs.YtlmdjkmcplobnaaDoor
open Go.RowKit
set_option linter.unusedSimpArgs false
set_option linter.unusedVariables false
def optV (o : Option Int) : Value := .tuple #[.int .i64 (o.getD 0), .bool o.isSome]
theorem elem_vix {t : KT.Tab} {e : Int} (hv40 : t.vars.length ≤ 40) (he : KT.elemOk t e = true) : (e < 0 → KT.vix e < t.vars.length) ∧ (e < 0 → KT.vix e < 40) ∧ -9223372036854775808 ≤ e := by
  have h := of_decide_eq_true he
  exact ⟨fun h0 => KT.elem_lt he h0, fun h0 => Nat.lt_of_lt_of_le (KT.elem_lt he h0) hv40, by omega⟩
theorem plainGo_at {t : KT.Tab} {ins l : List Int} {i : Nat} (b : List Int) (h : i < l.length) :
    KT.plainGo t ins (l.drop i) i b = if (KT.acceptK t b (l.getD i 0) (ins.getD i 0)).2.1 = true then KT.plainGo t ins (l.drop (i + 1)) (i + 1) (KT.acceptK t b (l.getD i 0) (ins.getD i 0)).1 else none := by
  have hd : l.getD i 0 = l[i] := by rw [List.getD_eq_getElem?_getD, List.getElem?_eq_getElem h]; rfl
  rw [hd, List.drop_eq_getElem_cons h, KT.plainGo]
theorem accept_len (t : KT.Tab) (b : List Int) (e s : Int) : (KT.acceptK t b e s).1.length = b.length := by
  unfold KT.acceptK; split
  · rfl
  · split
    · rfl
    · split <;> simp
/-- What plain's round needs: the binding so far. -/
structure PlainI (t : KT.Tab) (r : KT.Rw) (ins : List Int) (g i : Nat) (b : List Int) (w wr : World) : Prop where
  bel : Below w.heap.size w wr
  bat : BAt wr g b
  len : b.length = 40
  res : KT.plainK t r ins = (KT.plainGo t ins (r.ins.drop i) i b).map (fun b => KT.outK b r)
set_option maxRecDepth 100000 in
set_option maxHeartbeats 2000000 in
theorem plain_any (t : KT.Tab) (P : TP) (r : KT.Rw) (ins : List Int) (qa IA : Option Addr) (ql qc n ic : Nat) (w : World) (h : TabAt w t P) (hq : Rd w w.heap.size 1 qa ql (ints r.ins)) (hqm : ql ≤ maxLen) (hi : Rd w w.heap.size 1 IA n (ints ins)) (hm : n ≤ maxLen)
    (hl : ins.length = r.ins.length) (hv40 : t.vars.length ≤ 40) (he : ∀ e ∈ r.ins, KT.elemOk t e = true) (ho : KT.elemOk t r.out = true) :
    Calls Tryd.prog 32 #[.agg #[.int .i64 t.states, .int .i64 t.sym, .slice P.HA P.hn P.hc, .slice P.VA P.vn P.vc, .slice P.RA P.rn P.rc], .agg #[.slice qa ql qc, .int .i64 r.out], .slice IA n ic] w fun e w' => e = .returned (optV (KT.plainK t r ins)) ∧ Below w.heap.size w w' := by
  obtain ⟨HA, hn, hc, VA, vn, vc, RA, rn, rc, vs, rs⟩ := P
  dsimp only
  have H := Lib.hid h
  have HQ := Lib.hid hq
  have HI := Lib.hid hi
  have HEL := Lib.hid he
  have HO := Lib.hid (elem_vix hv40 ho)
  have HLQ : Hid (r.ins.length = ql) := by have := hq.1; show _ = _; simpa using this
  have HLI : Hid (ins.length = n) := by have := hi.1; show _ = _; simpa using this
  have hnq : n = ql := by rw [← HLI.out, ← HLQ.out]; exact hl
  subst hnq
  clear h hq hi he ho hl hqm
  unfold maxLen at hm
  go_enter Tryd.func32, Tryd.ntmps32
  go_upto_region 1 with fail
  have RT1 : Hid (Row (World.alloc (World.alloc w (.cells #[.int .i64 t.states, .int .i64 t.sym, .slice HA hn hc, .slice VA vn vc, .slice RA rn rc] 26)) (.cells #[.slice qa n qc, .int .i64 r.out] 44)) (w.heap.size) 26 [.int .i64 t.states, .int .i64 t.sym, .slice HA hn hc, .slice VA vn vc, .slice RA rn rc]) := by
    have h0 := Row.new w 26 [.int .i64 t.states, .int .i64 t.sym, .slice HA hn hc, .slice VA vn vc, .slice RA rn rc]
    try simp only [World.size_alloc] at h0
    exact (h0.alloc _)
  have RR1 : Hid (Row (World.alloc (World.alloc w (.cells #[.int .i64 t.states, .int .i64 t.sym, .slice HA hn hc, .slice VA vn vc, .slice RA rn rc] 26)) (.cells #[.slice qa n qc, .int .i64 r.out] 44)) (w.heap.size + 1) 44 [.slice qa n qc, .int .i64 r.out]) := by
    have h0 := Row.new (World.alloc w (.cells #[.int .i64 t.states, .int .i64 t.sym, .slice HA hn hc, .slice VA vn vc, .slice RA rn rc] 26)) 44 [.slice qa n qc, .int .i64 r.out]
    try simp only [World.size_alloc] at h0
    exact h0
  have HW9 : Hid (Below w.heap.size w (World.alloc (World.alloc w (.cells #[.int .i64 t.states, .int .i64 t.sym, .slice HA hn hc, .slice VA vn vc, .slice RA rn rc] 26)) (.cells #[.slice qa n qc, .int .i64 r.out] 44))) := by show Below _ _ _; go_grown
  revert RT1 RR1 HW9
  generalize (World.alloc (World.alloc w (.cells #[.int .i64 t.states, .int .i64 t.sym, .slice HA hn hc, .slice VA vn vc, .slice RA rn rc] 26)) (.cells #[.slice qa n qc, .int .i64 r.out] 44)) = w1
  intro RT1 RR1 HW9
  go_wp2_with fail
  refine (none_any w1).mono ?_
  rintro e w2 ⟨rfl, hba, hb2⟩
  have hg : w.heap.size + 1 < w1.heap.size := RR1.out.lt
  have BA2 : Hid (BAt w2 w1.heap.size KT.noneB) := hba
  have HB2 : Hid (Below w.heap.size w w2) := HW9.out.trans (hb2.mono HW9.out.size)
  have RT1 := (show Hid (Row _ _ _ _) from rowCells RT1.out hb2)
  have RR1 := (show Hid (Row _ _ _ _) from rowCells RR1.out hb2)
  revert hg BA2
  generalize w1.heap.size = g
  intro hg BA2
  clear hba hb2 HW9
  have j0 := RR1.out.cell 0
  have j1 := RR1.out.cell 1
  have jl := RR1.out.lt
  simp only [List.getElem?_cons_zero, List.getElem?_cons_succ] at j0 j1
  go_wp2
  clear j0 j1 jl
  go_loopg [9, 10, 11, 12, 17] n (fun gg _ _ _ _ s17 wr => ∃ (i : Nat) (b : List Int), i ≤ n ∧ n - i ≤ gg ∧ s17 = .int .i64 (i : Int) ∧ Aside (PlainI t r ins g i b w wr ∧ Row wr w.heap.size 26 [.int .i64 t.states, .int .i64 t.sym, .slice HA hn hc, .slice VA vn vc, .slice RA rn rc] ∧ Row wr (w.heap.size + 1) 44 [.slice qa n qc, .int .i64 r.out]))
  case atStart => exact ⟨0, KT.noneB, by omega, by omega, rfl, ⟨HB2.out, BA2.out, by simp [KT.noneB], rfl⟩, RT1.out, RR1.out⟩
  case round =>
    obtain ⟨i, b, hi, hgg, rfl, hv⟩ := hrel
    have HP := Lib.hid hv.out.1
    have RT3 := Lib.hid hv.out.2.1
    have RR3 := Lib.hid hv.out.2.2
    clear hv RT1 RR1 HB2 BA2
    by_cases hlt : i < n
    · have hltz : (i : Int) < (n : Int) := by omega
      obtain ⟨adq, rfl, hbq, hz⟩ := (HQ.out.up HP.out.bel).int hlt
      obtain ⟨adi, rfl, hbi, hy0⟩ := HI.out.int hlt
      have hy := (HP.out.bel.cell (p := adi.add i) (by rw [add_block]; exact hbi)).trans hy0
      clear hy0
      have HPG : Hid (KT.plainGo t ins (r.ins.drop i) i b = if (KT.acceptK t b (r.ins.getD i 0) (ins.getD i 0)).2.1 = true then KT.plainGo t ins (r.ins.drop (i + 1)) (i + 1) (KT.acceptK t b (r.ins.getD i 0) (ins.getD i 0)).1 else none) := plainGo_at b (by rw [HLQ.out]; exact hlt)
      have HEI := Lib.hid (elem_vix hv40 (HEL.out (r.ins.getD i 0) (by rw [List.getD_eq_getElem?_getD, List.getElem?_eq_getElem (by rw [HLQ.out]; exact hlt)]; exact List.getElem_mem _)))
      have HLA := accept_len t b (r.ins.getD i 0) (ins.getD i 0)
      revert hz hy HPG HEI HLA
      generalize r.ins.getD i 0 = z
      generalize ins.getD i 0 = y
      intro hz hy HPG HEI HLA
      have HC := accept_any t ⟨HA, hn, hc, VA, vn, vc, RA, rn, rc, vs, rs⟩ g b z y
      have HLA := Lib.hid HLA
      revert HPG HC HLA
      generalize KT.acceptK t b z y = q
      obtain ⟨b', ok, fr⟩ := q
      intro HPG HC HLA
      dsimp only at HPG HC HLA
      have HC := Lib.hid HC
      go_upto_region 5 with fail
      have k0 := RT3.out.cell 0
      have k1 := RT3.out.cell 1
      have k2 := RT3.out.cell 2
      have k3 := RT3.out.cell 3
      have k4 := RT3.out.cell 4
      have kl := RT3.out.lt
      simp only [List.getElem?_cons_zero, List.getElem?_cons_succ] at k0 k1 k2 k3 k4
      have HS : ∀ w', Kept (· = g) wr w' → w'.cell? ⟨w.heap.size, 0, none⟩ = some (.int .i64 t.states) ∧ w'.cell? ⟨w.heap.size, 1, none⟩ = some (.int .i64 t.sym) ∧ w'.cell? ⟨w.heap.size, 2, none⟩ = some (.slice HA hn hc) ∧ w'.cell? ⟨w.heap.size, 3, none⟩ = some (.slice VA vn vc) ∧ w'.cell? ⟨w.heap.size, 4, none⟩ = some (.slice RA rn rc) ∧ w'.cell? (adi.add i) = some (.int .i64 y) := fun w' hk => by
        have c5 := fun (j : Nat) => hk.cell (p := ⟨w.heap.size, j, none⟩) kl (show ¬ w.heap.size = g by omega)
        exact ⟨(c5 0).trans k0, (c5 1).trans k1, (c5 2).trans k2, (c5 3).trans k3, (c5 4).trans k4, (hk.cell (p := adi.add i) (by rw [add_block]; have := HP.out.bel.size; omega) (by rw [add_block]; show ¬ adi.block = g; omega)).trans hy⟩
      clear k0 k1 k2 k3 k4 hy hz
      go_region_held3 (fun w' => w'.cell? ⟨w.heap.size, 0, none⟩ = some (.int .i64 t.states) ∧ w'.cell? ⟨w.heap.size, 1, none⟩ = some (.int .i64 t.sym) ∧ w'.cell? ⟨w.heap.size, 2, none⟩ = some (.slice HA hn hc) ∧ w'.cell? ⟨w.heap.size, 3, none⟩ = some (.slice VA vn vc) ∧ w'.cell? ⟨w.heap.size, 4, none⟩ = some (.slice RA rn rc) ∧ w'.cell? (adi.add i) = some (.int .i64 y)) (exact HS _ (by first | exact HKP.out | exact Kept.ofBelow (by go_grown))) ((
        go_at_call 42
        refine (HC.out _ (by exact H.out.up HP.out.bel.drew) (by exact HP.out.bat) HP.out.len hv40 HEI.out.1 HEI.out.2.2).mono ?_
        rintro e w7 ⟨rfl, hbat, hkp⟩
        have HKP := (show Hid (Kept (· = g) wr w7) from Kept.trans (Kept.ofBelow (by go_grown)) hkp (fun _ _ h => h))
        have HBA := (show Hid (BAt w7 g b') from hbat)
        clear hbat hkp))
      have RT4 := (show Hid (Row _ _ _ _) from HKP.out.row RT3.out (show ¬ w.heap.size = g by omega))
      have RR4 := (show Hid (Row _ _ _ _) from HKP.out.row RR3.out (show ¬ w.heap.size + 1 = g by omega))
      have HB7 : Hid (Below w.heap.size w w7) := HP.out.bel.trans (HKP.out.below (B := w.heap.size) (fun k e => by omega) HP.out.bel.size)
      have HPR := Lib.hid HP.out.res
      have HL0 := Lib.hid HP.out.len
      clear HP RT3 RR3 HS HKP
      cases ok with
      | false =>
        have HE : Hid (∀ _ : Unit, KT.plainK t r ins = none) := fun _ => by rw [HPR.out, HPG.out]; rfl
        go_wp2
        go_ret2
        rw [HE.out ()]
        exact ⟨rfl, HB7.out⟩
      | true =>
        have HE : Hid (KT.plainK t r ins = (KT.plainGo t ins (r.ins.drop (i + 1)) (i + 1) b').map (fun b => KT.outK b r)) := by show _ = _; rw [HPR.out, HPG.out]; rfl
        go_wp2
        go_roundg (n - (i + 1))
        case measure => omega
        case rel => exact ⟨i + 1, b', by omega, by omega, by go_num, ⟨HB7.out, HBA.out, by rw [HLA.out]; exact HL0.out, HE.out⟩, RT4.out, RR4.out⟩
    · have hltz : ¬ (i : Int) < (n : Int) := by omega
      obtain rfl : i = n := by omega
      have HE : Hid (∀ _ : Unit, KT.plainK t r ins = some (KT.outK b r)) := fun _ => by rw [HP.out.res, List.drop_of_length_le (by rw [HLQ.out]; exact Nat.le_refl _)]; rfl
      have j0 := RR3.out.cell 0
      have j1 := RR3.out.cell 1
      have jl := RR3.out.lt
      simp only [List.getElem?_cons_zero, List.getElem?_cons_succ] at j0 j1
      go_wp2_with fail
      refine (out_any r g b qa i qc wr HP.out.bat HP.out.len HO.out.2.1 HO.out.2.2).mono ?_
      rintro e w7 ⟨rfl, hb7⟩
      have HB7 : Hid (Below w.heap.size w w7) := below_on2 HP.out.bel hb7
      go_wp2
      go_ret2
      rw [HE.out ()]
      exact ⟨rfl, HB7.out⟩
end Go.Proofs.YtlmdjkmcplobnaaDoor

/-
  The state of ruletable.permuted while its orders are tried.
-/
namespace Go.Proofs.YtlmdjkmcplobnaaDoor
open Go.RowKit
set_option linter.unusedSimpArgs false
set_option linter.unusedVariables false
/-- Where things lie while the orders are tried: the boxes of the table, the row, the states, the best, the found, the centre; the binding, its pointer's box; the used, its box; the closure's box. -/
structure PEnv where
  tt : Nat
  tr : Nat
  ti : Nat
  te : Nat
  tf : Nat
  tc : Nat
  g : Nat
  tb : Nat
  u : Nat
  tu : Nat
  tp : Nat
/-- What does not change while the orders are tried. -/
structure PCtx where
  t : KT.Tab
  P : TP
  r : KT.Rw
  qa : Option Addr
  qc : Nat
  ins : List Int
  n : Nat
  IA : Option Addr
  ic : Nat
  c : Int
structure PEnv.Ok (E : PEnv) (B : Nat) : Prop where
  h0 : B ≤ E.tt
  h1 : E.tt < E.tr
  h2 : E.tr < E.ti
  h3 : E.ti < E.te
  h4 : E.te < E.tf
  h5 : E.tf < E.tc
  h6 : E.tc < E.g
  h7 : E.g < E.tb
  h8 : E.tb < E.u
  h9 : E.u < E.tu
  h10 : E.tu < E.tp
def TP.cellsK (P : TP) (t : KT.Tab) : List Value := [.int .i64 t.states, .int .i64 t.sym, .slice P.HA P.hn P.hc, .slice P.VA P.vn P.vc, .slice P.RA P.rn P.rc]
structure PSt (w0 : World) (X : PCtx) (E : PEnv) (b : List Int) (used : List Bool) (acc : Option Int) (w : World) : Prop where
  bel : Below w0.heap.size w0 w
  rt : Row w E.tt 26 (X.P.cellsK X.t)
  rr : Row w E.tr 44 [.slice X.qa X.n X.qc, .int .i64 X.r.out]
  ri : Row w E.ti 27 [.slice X.IA X.n X.ic]
  re : Row w E.te 3 [.int .i64 (acc.getD 0)]
  rf : Row w E.tf 4 [.bool acc.isSome]
  rc : Row w E.tc 3 [.int .i64 X.c]
  bat : BAt w E.g b
  rb : Row w E.tb 83 [.pointer (some ⟨E.g, 0, none⟩)]
  us : Row w E.u 4 (bools used)
  ru : Row w E.tu 87 [.slice (some ⟨E.u, 0, none⟩) X.n X.n]
  rp : Row w E.tp 88 [.func (.func 43) #[] #[.pointer (some ⟨E.ti, 0, none⟩), .pointer (some ⟨E.tb, 0, none⟩), .pointer (some ⟨E.tr, 0, none⟩), .pointer (some ⟨E.tf, 0, none⟩), .pointer (some ⟨E.te, 0, none⟩), .pointer (some ⟨E.tc, 0, none⟩), .pointer (some ⟨E.tp, 0, none⟩), .pointer (some ⟨E.tu, 0, none⟩), .pointer (some ⟨E.tt, 0, none⟩)]]
/-- The four blocks that change. -/
def PEnv.S (E : PEnv) (k : Nat) : Prop := k = E.g ∨ k = E.u ∨ k = E.te ∨ k = E.tf
section
variable {w0 w w' : World} {X : PCtx} {E : PEnv} {b b' : List Int} {used used' : List Bool} {acc acc' : Option Int}
theorem PSt.move (h : PSt w0 X E b used acc w) (ok : E.Ok w0.heap.size) (hk : Kept E.S w w') (hb : BAt w' E.g b') (hu : Row w' E.u 4 (bools used')) (he : Row w' E.te 3 [.int .i64 (acc'.getD 0)]) (hf : Row w' E.tf 4 [.bool acc'.isSome]) :
    PSt w0 X E b' used' acc' w' := by
  obtain ⟨h0, h1, h2, h3, h4, h5, h6, h7, h8, h9, h10⟩ := ok
  exact ⟨h.bel.trans (hk.below (fun k hs => by unfold PEnv.S at hs; omega) h.bel.size), hk.row h.rt (by unfold PEnv.S; omega), hk.row h.rr (by unfold PEnv.S; omega), hk.row h.ri (by unfold PEnv.S; omega), he, hf, hk.row h.rc (by unfold PEnv.S; omega), hb, hk.row h.rb (by unfold PEnv.S; omega), hu, hk.row h.ru (by unfold PEnv.S; omega), hk.row h.rp (by unfold PEnv.S; omega)⟩
theorem PSt.below (h : PSt w0 X E b used acc w) (ok : E.Ok w0.heap.size) (hb : Below w.heap.size w w') : PSt w0 X E b used acc w' :=
  h.move ok (Kept.ofBelow hb) (rowCells h.bat hb) (rowCells h.us hb) (rowCells h.re hb) (rowCells h.rf hb)
theorem PSt.taken (h : PSt w0 X E b used acc w) (ok : E.Ok w0.heap.size) (hk : Kept (· = E.g) w w') (hb : BAt w' E.g b') : PSt w0 X E b' used acc w' := by
  have o := ok
  obtain ⟨h0, h1, h2, h3, h4, h5, h6, h7, h8, h9, h10⟩ := ok
  exact h.move o (hk.wide fun k e => .inl e) hb (hk.row h.us (by show ¬ _ = _; omega)) (hk.row h.re (by show ¬ _ = _; omega)) (hk.row h.rf (by show ¬ _ = _; omega))
theorem PSt.bset (h : PSt w0 X E b used acc w) (ok : E.Ok w0.heap.size) (v : Nat) (z : Int) : PSt w0 X E (b.set v z) used acc (w.setCell ⟨E.g, v, none⟩ (.int .i64 z)) :=
  h.taken ok (Kept.set (S := (· = E.g)) (Kept.refl _ w) (p := ⟨E.g, v, none⟩) (.inl rfl) _) (h.bat.set v z)
theorem bools_set (l : List Bool) (k : Nat) (v : Bool) : bools (l.set k v) = (bools l).set k (.bool v) := by unfold bools; rw [List.map_set]
theorem PSt.uset (h : PSt w0 X E b used acc w) (ok : E.Ok w0.heap.size) (k : Nat) (v : Bool) : PSt w0 X E b (used.set k v) acc (w.setCell ⟨E.u, k, none⟩ (.bool v)) := by
  have o := ok
  obtain ⟨h0, h1, h2, h3, h4, h5, h6, h7, h8, h9, h10⟩ := ok
  exact h.move o (Kept.set (S := E.S) (Kept.refl _ w) (p := ⟨E.u, k, none⟩) (.inl (.inr (.inl rfl))) _) (Row.far h.bat (by show E.g ≠ E.u; omega) _) (by rw [bools_set]; exact h.us.set k _) (h.re.far (by show E.te ≠ E.u; omega) _) (h.rf.far (by show E.tf ≠ E.u; omega) _)
theorem PSt.best (h : PSt w0 X E b used acc w) (ok : E.Ok w0.heap.size) (m : Int) : PSt w0 X E b used (some m) ((w.setCell ⟨E.te, 0, none⟩ (.int .i64 m)).setCell ⟨E.tf, 0, none⟩ (.bool true)) := by
  have o := ok
  obtain ⟨h0, h1, h2, h3, h4, h5, h6, h7, h8, h9, h10⟩ := ok
  refine h.move o (Kept.set (S := E.S) (Kept.set (S := E.S) (Kept.refl _ w) (p := ⟨E.te, 0, none⟩) (.inl (.inr (.inr (.inl rfl)))) _) (p := ⟨E.tf, 0, none⟩) (.inl (.inr (.inr (.inr rfl)))) _) (Row.far (Row.far h.bat (by show E.g ≠ E.te; omega) _) (by show E.g ≠ E.tf; omega) _) ((h.us.far (by show E.u ≠ E.te; omega) _).far (by show E.u ≠ E.tf; omega) _) ((h.re.set 0 _).far (by show E.te ≠ E.tf; omega) _) ?_
  exact (h.rf.far (by show E.tf ≠ E.te; omega) (.int .i64 m)).set 0 (.bool true)
end
/-- The plain step of the loop over the elements. -/
def placeStep (t : KT.Tab) (r : KT.Rw) (ins : List Int) (c : Int) (f i : Nat) (b : List Int) (used : List Bool) (q : Int × Option Int) (k : Nat) : Int × Option Int :=
  if (k : Int) = c ∨ used.getD k false = true ∨ KT.hasBit q.1 (ins.getD k 0) = true then q
  else (KT.putBit q.1 (ins.getD k 0), if (KT.acceptK t b (r.ins.getD i 0) (ins.getD k 0)).2.1 = true then KT.placeK t r ins c f (i + 1) (KT.acceptK t b (r.ins.getD i 0) (ins.getD k 0)).1 (used.set k true) q.2 else q.2)
def placeQ (t : KT.Tab) (r : KT.Rw) (ins : List Int) (c : Int) (f i : Nat) (b : List Int) (used : List Bool) (acc : Option Int) (k : Nat) : Int × Option Int := (List.range k).foldl (placeStep t r ins c f i b used) (0, acc)
theorem placeQ_succ (t : KT.Tab) (r : KT.Rw) (ins : List Int) (c : Int) (f i : Nat) (b : List Int) (used : List Bool) (acc : Option Int) (k : Nat) : placeQ t r ins c f i b used acc (k + 1) = placeStep t r ins c f i b used (placeQ t r ins c f i b used acc k) k := by
  unfold placeQ; rw [List.range_succ, List.foldl_append]; rfl
theorem placeK_loop {t : KT.Tab} {r : KT.Rw} {ins : List Int} {c : Int} {f i : Nat} {b : List Int} {used : List Bool} {acc : Option Int} (h1 : ¬ i = ins.length) (h2 : ¬ (i : Int) = c) : KT.placeK t r ins c (f + 1) i b used acc = (placeQ t r ins c f i b used acc ins.length).2 := by
  rw [KT.placeK, if_neg h1, if_neg h2]; rfl
theorem placeK_end {t : KT.Tab} {r : KT.Rw} {ins : List Int} {c : Int} {f i : Nat} {b : List Int} {used : List Bool} {acc : Option Int} (h1 : i = ins.length) : KT.placeK t r ins c (f + 1) i b used acc = KT.least acc (KT.outK b r) := by
  rw [KT.placeK, if_pos h1]
theorem placeK_skip {t : KT.Tab} {r : KT.Rw} {ins : List Int} {c : Int} {f i : Nat} {b : List Int} {used : List Bool} {acc : Option Int} (h1 : ¬ i = ins.length) (h2 : (i : Int) = c) : KT.placeK t r ins c (f + 1) i b used acc = KT.placeK t r ins c f (i + 1) b used acc := by
  rw [KT.placeK, if_neg h1, if_pos h2]
/-- The mask's arithmetic. -/
theorem mask_or : ∀ m : Nat, m < 256 → ∀ s : Nat, s < 8 → (m / 2 ^ s % 2 = 1 ∨ ((m + 2 ^ s < 256) ∧ bits .or .i64 (m : Int) (((2 ^ s : Nat) : Nat) : Int) = ((m + 2 ^ s : Nat) : Int))) := by decide +kernel
theorem i64_and1 (n : Int) : bits .and .i64 n 1 = n % 2 := by
  have h1 : (BitVec.ofInt 64 1).toNat = 2 ^ 1 - 1 := by decide
  have key : (BitVec.ofInt 64 n &&& BitVec.ofInt 64 1).toNat = (n % ((2 ^ 64 : Nat) : Int)).toNat % 2 ^ 1 := by
    rw [BitVec.toNat_and, BitVec.toNat_ofInt, h1, Nat.and_two_pow_sub_one_eq_mod]
  show IntKind.i64.wrap ((BitVec.ofInt 64 n &&& BitVec.ofInt 64 1).toNat : Nat) = n % 2
  rw [key, IntKind.wrap_i64]
  omega
/-- The mask with a state put in. -/
theorem mask_put {m s : Nat} (hm : m < 256) (hs : s < 8) (h : ¬ (m : Int) / 2 ^ s % 2 = 1) : ∃ m' : Nat, m' < 256 ∧ bits .or .i64 (m : Int) (wrap64 (2 ^ s)) = (m' : Int) ∧ KT.putBit (m : Int) (s : Int) = (m' : Int) := by
  have hc : ((2 : Int) ^ s) = ((2 ^ s : Nat) : Int) := by simp
  have h2 : ¬ m / 2 ^ s % 2 = 1 := fun e => h (by rw [hc, ← Int.natCast_ediv]; omega)
  have hp : 2 ^ s ≤ 2 ^ 7 := Nat.pow_le_pow_right (by decide) (show s ≤ 7 by omega)
  have hw : wrap64 (2 ^ s) = ((2 ^ s : Nat) : Int) := by
    rw [hc]
    generalize 2 ^ s = p at hp ⊢
    exact IntWalk.wrap64_in _ (by omega)
  rcases mask_or m hm s hs with h3 | ⟨h3, h4⟩
  · exact absurd h3 h2
  · refine ⟨m + 2 ^ s, h3, by rw [hw, h4], ?_⟩
    unfold KT.putBit KT.hasBit
    rw [Int.toNat_natCast, decide_eq_false h, if_neg (by simp), hc]
    omega
theorem used_back {l : List Bool} {k : Nat} (h : l.getD k false = false) (hk : k < l.length) : (l.set k true).set k false = l := by
  rw [List.set_set]
  have : l[k] = false := by rwa [List.getD_eq_getElem?_getD, List.getElem?_eq_getElem hk] at h
  rw [← this, List.set_getElem_self]
theorem bind_back {l : List Int} {k : Nat} {z : Int} (h : l.getD k 0 = -1) (hk : k < l.length) : (l.set k z).set k (-1) = l := by
  rw [List.set_set]
  have : l[k] = -1 := by rwa [List.getD_eq_getElem?_getD, List.getElem?_eq_getElem hk] at h
  rw [← this, List.set_getElem_self]
end Go.Proofs.YtlmdjkmcplobnaaDoor

/-
  The closure of ruletable.permuted, walked.
-/
namespace Go.Proofs.YtlmdjkmcplobnaaDoor
open Go.RowKit
set_option linter.unusedSimpArgs false
set_option linter.unusedVariables false
structure PHyp (w0 : World) (X : PCtx) (E : PEnv) : Prop where
  ok : E.Ok w0.heap.size
  tab : TabAt w0 X.t X.P
  rq : Rd w0 w0.heap.size 1 X.qa X.n (ints X.r.ins)
  ri : Rd w0 w0.heap.size 1 X.IA X.n (ints X.ins)
  n25 : X.n ≤ 25
  v40 : X.t.vars.length ≤ 40
  el : ∀ e ∈ X.r.ins, KT.elemOk X.t e = true
  out : KT.elemOk X.t X.r.out = true
  st : ∀ i, 0 ≤ X.ins.getD i 0 ∧ X.ins.getD i 0 < X.t.states
  s8 : X.t.states ≤ 8
set_option maxRecDepth 100000 in
set_option maxHeartbeats 4000000 in
theorem place_succ (w0 : World) (X : PCtx) (E : PEnv) (hx : PHyp w0 X E) (f : Nat) (hih : ∀ (i : Nat) (b : List Int) (used : List Bool) (acc : Option Int) (w : World), X.n < i + f → i ≤ X.n → KT.BOk X.t b → used.length = X.n → PSt w0 X E b used acc w →
    Calls Tryd.prog 43 #[.int .i64 (i : Int), .pointer (some ⟨E.ti, 0, none⟩), .pointer (some ⟨E.tb, 0, none⟩), .pointer (some ⟨E.tr, 0, none⟩), .pointer (some ⟨E.tf, 0, none⟩), .pointer (some ⟨E.te, 0, none⟩), .pointer (some ⟨E.tc, 0, none⟩), .pointer (some ⟨E.tp, 0, none⟩), .pointer (some ⟨E.tu, 0, none⟩), .pointer (some ⟨E.tt, 0, none⟩)] w fun e w' => e = .returned (.tuple #[]) ∧ PSt w0 X E b used (KT.placeK X.t X.r X.ins X.c f i b used acc) w') (i : Nat) (b : List Int) (used : List Bool) (acc : Option Int) (w : World) (h1 : X.n < i + (f + 1)) (h2 : i ≤ X.n) (hb : KT.BOk X.t b) (hul : used.length = X.n) (hp : PSt w0 X E b used acc w) :
    Calls Tryd.prog 43 #[.int .i64 (i : Int), .pointer (some ⟨E.ti, 0, none⟩), .pointer (some ⟨E.tb, 0, none⟩), .pointer (some ⟨E.tr, 0, none⟩), .pointer (some ⟨E.tf, 0, none⟩), .pointer (some ⟨E.te, 0, none⟩), .pointer (some ⟨E.tc, 0, none⟩), .pointer (some ⟨E.tp, 0, none⟩), .pointer (some ⟨E.tu, 0, none⟩), .pointer (some ⟨E.tt, 0, none⟩)] w fun e w' => e = .returned (.tuple #[]) ∧ PSt w0 X E b used (KT.placeK X.t X.r X.ins X.c (f + 1) i b used acc) w' := by
    have IH := Lib.hid hih
    clear hih
    have HX := Lib.hid hx
    have HB := Lib.hid hb
    have HP := Lib.hid hp
    have HOK := Lib.hid hx.ok
    have HLI : Hid (X.ins.length = X.n) := by have := hx.ri.1; show _ = _; simpa using this
    have HLQ : Hid (X.r.ins.length = X.n) := by have := hx.rq.1; show _ = _; simpa using this
    have hn25 := hx.n25
    clear hx hb hp
    obtain ⟨tt, tr, ti, te, tf, tc, g, tb, u, tu, tp⟩ := E
    obtain ⟨t, ⟨HA, hn, hc, VA, vn, vc, RA, rn, rc, vs, rs⟩, r, qa, qc, ins, n, IA, ic, c⟩ := X
    dsimp only at h1 h2 hn25 hul
    dsimp only
    go_enter Tryd.func43, Tryd.ntmps43
    have c_rr0 := HP.out.rr.cell 0
    have c_rr1 := HP.out.rr.cell 1
    have c_rrl := HP.out.rr.lt
    simp only [TP.cellsK, List.getElem?_cons_zero, List.getElem?_cons_succ] at c_rr0 c_rr1
    dsimp only at c_rr0 c_rr1 c_rrl
    have c_ri0 := HP.out.ri.cell 0
    have c_ril := HP.out.ri.lt
    simp only [TP.cellsK, List.getElem?_cons_zero, List.getElem?_cons_succ] at c_ri0
    dsimp only at c_ri0 c_ril
    have c_rc0 := HP.out.rc.cell 0
    have c_rcl := HP.out.rc.lt
    simp only [TP.cellsK, List.getElem?_cons_zero, List.getElem?_cons_succ] at c_rc0
    dsimp only at c_rc0 c_rcl
    have c_rb0 := HP.out.rb.cell 0
    have c_rbl := HP.out.rb.lt
    simp only [TP.cellsK, List.getElem?_cons_zero, List.getElem?_cons_succ] at c_rb0
    dsimp only at c_rb0 c_rbl
    have c_rp0 := HP.out.rp.cell 0
    have c_rpl := HP.out.rp.lt
    simp only [TP.cellsK, List.getElem?_cons_zero, List.getElem?_cons_succ] at c_rp0
    dsimp only at c_rp0 c_rpl
    by_cases hin : i = n
    · subst hin
      have hv := elem_vix HX.out.v40 HX.out.out
      have HC := Lib.hid (out_any r g b qa i qc w HP.out.bat HB.out.len hv.2.1 hv.2.2)
      have HE : Hid (∀ _ : Unit, KT.placeK t r ins c (f + 1) i b used acc = KT.least acc (KT.outK b r)) := fun _ => placeK_end HLI.out.symm
      clear hv
      revert HC HE
      generalize KT.outK b r = s
      intro HC HE
      go_wp2_with fail
      refine HC.out.mono ?_
      rintro e w2 ⟨rfl, hb2⟩
      have HP2 := Lib.hid (HP.out.below HOK.out hb2)
      clear hb2 HC
      clear c_rr0 c_rr1 c_rrl c_ri0 c_ril c_rc0 c_rcl c_rb0 c_rbl c_rp0 c_rpl
      have hne1 : ¬ tf = te := by have := HOK.out.h4; dsimp only at this; omega
      have hne2 : ¬ te = tf := by omega
      cases acc with
      | none =>
        have c_re0 := HP2.out.re.cell 0
        have c_rel := HP2.out.re.lt
        simp only [TP.cellsK, List.getElem?_cons_zero, List.getElem?_cons_succ] at c_re0
        dsimp only at c_re0 c_rel
        have c_rf0 := HP2.out.rf.cell 0
        have c_rfl := HP2.out.rf.lt
        simp only [TP.cellsK, List.getElem?_cons_zero, List.getElem?_cons_succ] at c_rf0
        dsimp only at c_rf0 c_rfl
        have z_re := HP2.out.re.frozen 0
        dsimp only at z_re
        have z_rf := HP2.out.rf.frozen 0
        dsimp only at z_rf
        simp only [Option.getD_none, Option.isSome_none] at c_re0 c_rf0
        go_wp2
        refine bodyPost_ret (v := .tuple #[]) (results_none rfl _ _ _) rfl ⟨rfl, ?_⟩
        rw [HE.out ()]
        exact HP2.out.best HOK.out s
      | some m =>
        have c_re0 := HP2.out.re.cell 0
        have c_rel := HP2.out.re.lt
        simp only [TP.cellsK, List.getElem?_cons_zero, List.getElem?_cons_succ] at c_re0
        dsimp only at c_re0 c_rel
        have c_rf0 := HP2.out.rf.cell 0
        have c_rfl := HP2.out.rf.lt
        simp only [TP.cellsK, List.getElem?_cons_zero, List.getElem?_cons_succ] at c_rf0
        dsimp only at c_rf0 c_rfl
        have z_re := HP2.out.re.frozen 0
        dsimp only at z_re
        have z_rf := HP2.out.rf.frozen 0
        dsimp only at z_rf
        simp only [Option.getD_some, Option.isSome_some] at c_re0 c_rf0
        by_cases hsm : s < m
        · have hd : decide (s < m) = true := decide_eq_true hsm
          have HL : Hid (KT.least (some m) s = some s) := by show _ = _; unfold KT.least; dsimp only; rw [if_pos hsm]
          go_wp2
          refine bodyPost_ret (v := .tuple #[]) (results_none rfl _ _ _) rfl ⟨rfl, ?_⟩
          rw [HE.out (), HL.out]
          exact HP2.out.best HOK.out s
        · have hd : decide (s < m) = false := decide_eq_false hsm
          have HL : Hid (KT.least (some m) s = some m) := by show _ = _; unfold KT.least; dsimp only; rw [if_neg hsm]
          go_wp2
          refine bodyPost_ret (v := .tuple #[]) (results_none rfl _ _ _) rfl ⟨rfl, ?_⟩
          rw [HE.out (), HL.out]
          exact HP2.out
    have hinz : ((i : Int) == (n : Int)) = false := by simp; omega
    by_cases hic : (i : Int) = c
    · have hicz : ((i : Int) == c) = true := by simpa using hic
      have HE : Hid (∀ _ : Unit, KT.placeK t r ins c (f + 1) i b used acc = KT.placeK t r ins c f (i + 1) b used acc) := fun _ => placeK_skip (by rw [HLI.out]; exact hin) hic
      have HC := Lib.hid (IH.out (i + 1) b used acc w (show n < i + 1 + f by omega) (show i + 1 ≤ n by omega) HB.out hul HP.out)
      have hw : IntKind.i64.wrap ((i : Int) + 1) = (i : Int) + 1 := IntWalk.i64_in _ (by omega)
      have HIC := Lib.hid hic
      clear hic
      go_wp2_with fail
      refine HC.out.mono ?_
      rintro e w2 ⟨rfl, hp2⟩
      have HP2 := Lib.hid hp2
      clear hp2 HC
      clear c_rr0 c_rr1 c_rrl c_ri0 c_ril c_rc0 c_rcl c_rb0 c_rbl c_rp0 c_rpl
      go_wp2
      refine bodyPost_ret (v := .tuple #[]) (results_none rfl _ _ _) rfl ⟨rfl, ?_⟩
      rw [HE.out ()]
      exact HP2.out
    have hicz : ((i : Int) == c) = false := by simpa using hic
    have HE : Hid (∀ _ : Unit, KT.placeK t r ins c (f + 1) i b used acc = (placeQ t r ins c f i b used acc ins.length).2) := fun _ => placeK_loop (by rw [HLI.out]; exact hin) hic
    go_wp2
    clear c_rr0 c_rr1 c_rrl c_ri0 c_ril c_rc0 c_rcl c_rb0 c_rbl c_rp0 c_rpl
    clear hinz hicz
    go_loopg [12, 13, 14, 15, 16, 41] n (fun gg s12 _ _ _ _ s41 wr => ∃ k mn : Nat, k ≤ n ∧ n - k ≤ gg ∧ s41 = .int .i64 (k : Int) ∧ s12 = .int .i64 (mn : Int) ∧ mn < 256 ∧ Aside (PSt w0 ⟨t, ⟨HA, hn, hc, VA, vn, vc, RA, rn, rc, vs, rs⟩, r, qa, qc, ins, n, IA, ic, c⟩ ⟨tt, tr, ti, te, tf, tc, g, tb, u, tu, tp⟩ b used (placeQ t r ins c f i b used acc k).2 wr ∧ (placeQ t r ins c f i b used acc k).1 = (mn : Int)))
    case atStart => exact ⟨0, 0, by omega, by omega, rfl, rfl, by omega, HP.out, rfl⟩
    case round =>
      obtain ⟨k, mn, hk, hgg, rfl, rfl, hmn, hv⟩ := hrel
      have HP2 := Lib.hid hv.out.1
      have HQ1 := Lib.hid hv.out.2
      clear hv HP
      by_cases hlt : k < n
      · have hltz : (k : Int) < (n : Int) := by omega
        have HQS : Hid (placeQ t r ins c f i b used acc (k + 1) = placeStep t r ins c f i b used (placeQ t r ins c f i b used acc k) k) := placeQ_succ _ _ _ _ _ _ _ _ _ _
        revert HP2 HQ1 HQS
        generalize placeQ t r ins c f i b used acc k = Q
        obtain ⟨Q1, Q2⟩ := Q
        intro HP2 HQ1 HQS
        obtain rfl : Q1 = (mn : Int) := HQ1.out
        clear HQ1
        dsimp only at HP2
        obtain ⟨adi, hia, hbi, hy0⟩ := HX.out.ri.int (k := k) hlt
        dsimp only at hia hy0
        subst hia
        have hy : wr.cell? (adi.add k) = some (.int .i64 (ins.getD k 0)) := (HP2.out.bel.cell (p := adi.add k) (by rw [add_block]; exact hbi)).trans hy0
        clear hy0
        have hs := HX.out.st k
        have hs8 := HX.out.s8
        dsimp only at hs hs8
        unfold placeStep at HQS
        dsimp only at HQS
        have c_us : wr.cell? ⟨u, k, none⟩ = some (.bool (used.getD k false)) := by
          have := HP2.out.us.cell k
          rw [bools_get used k (by omega)] at this
          exact this
        have z_us : wr.frozen? ⟨u, k, none⟩ = false := HP2.out.us.frozen k
        have l_us : u < wr.heap.size := HP2.out.us.lt
        revert hy HQS hs
        generalize ins.getD k 0 = y
        intro HQS hy hs
        obtain ⟨sn, rfl⟩ : ∃ sn : Nat, y = (sn : Int) := ⟨y.toNat, by omega⟩
        have hsn8 : sn < 8 := by omega
        clear hs8
        have c_rc0 := HP2.out.rc.cell 0
        have c_rcl := HP2.out.rc.lt
        simp only [TP.cellsK, List.getElem?_cons_zero, List.getElem?_cons_succ] at c_rc0
        dsimp only at c_rc0 c_rcl
        have c_ru0 := HP2.out.ru.cell 0
        have c_rul := HP2.out.ru.lt
        simp only [TP.cellsK, List.getElem?_cons_zero, List.getElem?_cons_succ] at c_ru0
        dsimp only at c_ru0 c_rul
        have hkn : (0 : Int) ≤ (k : Int) := by omega
        by_cases hkc : (k : Int) = c
        · have hd : ((k : Int) == c) = true := by simpa using hkc
          have HQN : Hid (placeQ t r ins c f i b used acc (k + 1) = ((mn : Int), Q2)) := by show _ = _; rw [HQS.out, if_pos (.inl hkc)]
          have HKC := Lib.hid hkc
          clear hkc
          go_wp2
          go_roundg (n - (k + 1))
          case measure => omega
          case rel => exact ⟨k + 1, mn, by omega, by omega, by go_num, rfl, hmn, (by rw [HQN.out]; exact HP2.out), (by rw [HQN.out])⟩
        have hd : ((k : Int) == c) = false := by simpa using hkc
        cases hu : used.getD k false with
        | true =>
          rw [hu] at c_us
          have HQN : Hid (placeQ t r ins c f i b used acc (k + 1) = ((mn : Int), Q2)) := by show _ = _; rw [HQS.out, if_pos (.inr (.inl hu))]
          clear hu
          go_wp2
          go_roundg (n - (k + 1))
          case measure => omega
          case rel => exact ⟨k + 1, mn, by omega, by omega, by go_num, rfl, hmn, (by rw [HQN.out]; exact HP2.out), (by rw [HQN.out])⟩
        | false =>
        rw [hu] at c_us
        have HU := Lib.hid hu
        clear hu
        have hmin : min sn 64 = sn := by omega
        by_cases hbit : (mn : Int) / 2 ^ sn % 2 = 1
        · have hbz : (bits BinOp.and IntKind.i64 ((mn : Int) / 2 ^ sn) 1 == 1) = true := by rw [i64_and1, hbit]; rfl
          have HQN : Hid (placeQ t r ins c f i b used acc (k + 1) = ((mn : Int), Q2)) := by show _ = _; rw [HQS.out, if_pos (.inr (.inr (by unfold KT.hasBit; rw [Int.toNat_natCast]; exact decide_eq_true hbit)))]
          go_wp2
          go_roundg (n - (k + 1))
          case measure => omega
          case rel => exact ⟨k + 1, mn, by omega, by omega, by go_num, rfl, hmn, (by rw [HQN.out]; exact HP2.out), (by rw [HQN.out])⟩
        obtain ⟨m', hm', hor, hput⟩ := mask_put hmn hsn8 hbit
        have hbz : (bits BinOp.and IntKind.i64 ((mn : Int) / 2 ^ sn) 1 == 1) = false := by rw [i64_and1]; simpa using hbit
        have HQ2 : Hid (placeQ t r ins c f i b used acc (k + 1) = ((m' : Int), if (KT.acceptK t b (r.ins.getD i 0) sn).2.1 = true then KT.placeK t r ins c f (i + 1) (KT.acceptK t b (r.ins.getD i 0) sn).1 (used.set k true) Q2 else Q2)) := by
          show _ = _
          rw [HQS.out, if_neg (by
            rintro (e | e | e)
            · exact hkc e
            · rw [HU.out] at e; cases e
            · unfold KT.hasBit at e; rw [Int.toNat_natCast] at e; exact hbit (of_decide_eq_true e)), hput]
        have HEL0 := HX.out.el (r.ins.getD i 0) (by
          rw [List.getD_eq_getElem?_getD, List.getElem?_eq_getElem (show i < r.ins.length by rw [HLQ.out]; omega)]; exact List.getElem_mem _)
        have HEI := Lib.hid (elem_vix HX.out.v40 HEL0)
        have HAO := Lib.hid (KT.accept_out HB.out HEL0 HX.out.v40 hs)
        have HLA := accept_len t b (r.ins.getD i 0) (sn : Int)
        have HC := accept_any t ⟨HA, hn, hc, VA, vn, vc, RA, rn, rc, vs, rs⟩ g b (r.ins.getD i 0) (sn : Int)
        obtain ⟨adq, hqa, hbq, hz0⟩ := HX.out.rq.int (k := i) (show i < n by omega)
        dsimp only at hqa hz0
        subst hqa
        have hz : wr.cell? (adq.add i) = some (.int .i64 (r.ins.getD i 0)) := (HP2.out.bel.cell (p := adq.add i) (by rw [add_block]; exact hbq)).trans hz0
        have HZ0 := Lib.hid hz0
        clear hz0 HQS hkc hbit HEL0 hput hmn
        revert hz HC HAO HEI HQ2 HLA HZ0
        generalize r.ins.getD i 0 = z
        intro HQ2 HAO HLA HC HEI hz HZ0
        dsimp only at HC HEI
        have HC := Lib.hid HC
        revert HQ2 HAO HLA HC
        generalize KT.acceptK t b z (sn : Int) = q
        obtain ⟨b', ok, fr⟩ := q
        intro HQ2 HAO HLA HC
        dsimp only at HQ2 HAO HLA HC
        have HLA := Lib.hid HLA
        go_upto_region 12 with fail
        obtain ⟨o0, o1, o2, o3, o4, o5, o6, o7, o8, o9, o10⟩ := HOK.out
        dsimp only at o0 o1 o2 o3 o4 o5 o6 o7 o8 o9 o10
        have HS : ∀ w', Kept (· = g) wr w' → w'.cell? ⟨tb, 0, none⟩ = some (.pointer (some ⟨g, 0, none⟩)) ∧ w'.cell? ⟨tt, 0, none⟩ = some (.int .i64 t.states) ∧ w'.cell? ⟨tt, 1, none⟩ = some (.int .i64 t.sym) ∧ w'.cell? ⟨tt, 2, none⟩ = some (.slice HA hn hc) ∧ w'.cell? ⟨tt, 3, none⟩ = some (.slice VA vn vc) ∧ w'.cell? ⟨tt, 4, none⟩ = some (.slice RA rn rc) ∧ w'.cell? ⟨tr, 0, none⟩ = some (.slice (some adq) n qc) ∧ w'.cell? (adq.add i) = some (.int .i64 z) := fun w' hk =>
          ⟨(hk.row HP2.out.rb (show ¬ tb = g by omega)).cell 0, (hk.row HP2.out.rt (show ¬ tt = g by omega)).cell 0, (hk.row HP2.out.rt (show ¬ tt = g by omega)).cell 1, (hk.row HP2.out.rt (show ¬ tt = g by omega)).cell 2, (hk.row HP2.out.rt (show ¬ tt = g by omega)).cell 3, (hk.row HP2.out.rt (show ¬ tt = g by omega)).cell 4, (hk.row HP2.out.rr (show ¬ tr = g by omega)).cell 0,
            (hk.cell (p := adq.add i) (by rw [add_block]; have := HP2.out.bel.size; omega) (by rw [add_block]; show ¬ adq.block = g; omega)).trans hz⟩
        clear c_rc0 c_rcl c_ru0 c_rul
        clear hz c_us z_us l_us hbz hor hd
        have hi0 : (0 : Int) ≤ (i : Int) := by omega
        have hin2 : (i : Int) < (n : Int) := by omega
        go_region_held3 (fun w' => w'.cell? ⟨tb, 0, none⟩ = some (.pointer (some ⟨g, 0, none⟩)) ∧ w'.cell? ⟨tt, 0, none⟩ = some (.int .i64 t.states) ∧ w'.cell? ⟨tt, 1, none⟩ = some (.int .i64 t.sym) ∧ w'.cell? ⟨tt, 2, none⟩ = some (.slice HA hn hc) ∧ w'.cell? ⟨tt, 3, none⟩ = some (.slice VA vn vc) ∧ w'.cell? ⟨tt, 4, none⟩ = some (.slice RA rn rc) ∧ w'.cell? ⟨tr, 0, none⟩ = some (.slice (some adq) n qc) ∧ w'.cell? (adq.add i) = some (.int .i64 z)) (exact HS _ (by first | exact HKP.out | exact Kept.ofBelow (by go_grown))) ((
          go_at_call 42
          refine (HC.out _ (by exact HX.out.tab.up HP2.out.bel.drew) (by exact HP2.out.bat) HB.out.len HX.out.v40 HEI.out.1 HEI.out.2.2).mono ?_
          rintro e w7 ⟨rfl, hbat, hkp⟩
          have HKP := (show Hid (Kept (· = g) wr w7) from Kept.trans (Kept.ofBelow (by go_grown)) hkp (fun _ _ h => h))
          have HP7 := (show Hid (PSt w0 ⟨t, ⟨HA, hn, hc, VA, vn, vc, RA, rn, rc, vs, rs⟩, r, some adq, qc, ins, n, some adi, ic, c⟩ ⟨tt, tr, ti, te, tf, tc, g, tb, u, tu, tp⟩ b' used Q2 w7) from Lib.hid (HP2.out.taken HOK.out HKP.out hbat))
          clear hbat hkp))
        clear HKP HS HC
        cases ok with
        | false =>
          have hfr : fr = false := by
            cases fr with
            | false => rfl
            | true => have := (HAO.out.fresh rfl).1; cases this
          subst hfr
          obtain rfl : b' = b := HAO.out.same rfl
          have HQN : Hid (placeQ t r ins c f i b' used acc (k + 1) = ((m' : Int), Q2)) := by show _ = _; rw [HQ2.out]; rfl
          go_wp2
          go_roundg (n - (k + 1))
          case measure => omega
          case rel => exact ⟨k + 1, m', by omega, by omega, by go_num, rfl, hm', (by rw [HQN.out]; exact HP7.out), (by rw [HQN.out])⟩
        | true =>
        have HUB := Lib.hid (used_back HU.out (by rw [hul]; exact hlt))
        have HP8 := Lib.hid (HP7.out.uset HOK.out k true)
        have HC := Lib.hid (IH.out (i + 1) b' (used.set k true) Q2 (w7.setCell ⟨u, k, none⟩ (.bool true)) (show n < i + 1 + f by omega) (show i + 1 ≤ n by omega) HAO.out.ok (by rw [List.length_set]; exact hul) HP8.out)
        have c_ru0 := HP7.out.ru.cell 0
        have c_rul := HP7.out.ru.lt
        simp only [TP.cellsK, List.getElem?_cons_zero, List.getElem?_cons_succ] at c_ru0
        dsimp only at c_ru0 c_rul
        have c_us : w7.cell? ⟨u, k, none⟩ = some (.bool (used.getD k false)) := by
          have := HP7.out.us.cell k
          rw [bools_get used k (by omega)] at this
          exact this
        have z_us : w7.frozen? ⟨u, k, none⟩ = false := HP7.out.us.frozen k
        have l_us : u < w7.heap.size := HP7.out.us.lt
        go_upto_region 15 with fail
        clear c_ru0 c_rul
        clear c_us z_us l_us
        try dsimp only at HP8
        revert HP8 HC
        generalize w7.setCell ⟨u, k, none⟩ (.bool true) = w8
        intro HP8 HC
        have c_rp0 := HP8.out.rp.cell 0
        have c_rpl := HP8.out.rp.lt
        simp only [TP.cellsK, List.getElem?_cons_zero, List.getElem?_cons_succ] at c_rp0
        dsimp only at c_rp0 c_rpl
        have hw : IntKind.i64.wrap ((i : Int) + 1) = (i : Int) + 1 := IntWalk.i64_in _ (by omega)
        go_wp2_with fail
        refine HC.out.mono ?_
        rintro e w9 ⟨rfl, hp9⟩
        have HP9 := Lib.hid hp9
        clear hp9 HC HP7 HP8
        clear c_rp0 c_rpl
        have c_ru0 := HP9.out.ru.cell 0
        have c_rul := HP9.out.ru.lt
        simp only [TP.cellsK, List.getElem?_cons_zero, List.getElem?_cons_succ] at c_ru0
        dsimp only at c_ru0 c_rul
        have c_us : w9.cell? ⟨u, k, none⟩ = some (.bool ((used.set k true).getD k false)) := by
          have := HP9.out.us.cell k
          rw [bools_get _ k (by rw [List.length_set]; omega)] at this
          exact this
        have z_us : w9.frozen? ⟨u, k, none⟩ = false := HP9.out.us.frozen k
        have l_us : u < w9.heap.size := HP9.out.us.lt
        have hp10 := HP9.out.uset HOK.out k false
        rw [HUB.out] at hp10
        have HP10 := Lib.hid hp10
        have HQN : Hid (placeQ t r ins c f i b used acc (k + 1) = ((m' : Int), KT.placeK t r ins c f (i + 1) b' (used.set k true) Q2)) := by show _ = _; rw [HQ2.out]; rfl
        clear hp10
        cases fr with
        | false =>
          obtain rfl : b' = b := HAO.out.same rfl
          go_wp2
          go_roundg (n - (k + 1))
          case measure => omega
          case rel => exact ⟨k + 1, m', by omega, by omega, by go_num, rfl, hm', (by rw [HQN.out]; exact HP10.out), (by rw [HQN.out])⟩
        | true =>
        obtain ⟨_, hz0, hbv, hbb, _⟩ := HAO.out.fresh rfl
        dsimp only at hbb
        have hv40 := HEI.out.2.1 hz0
        have hwz : IntKind.i64.wrap (-1 - z) = (KT.vix z : Int) := by rw [IntWalk.i64_in _ (by have := HEI.out.2.2; omega)]; unfold KT.vix; omega
        have HBB : Hid (b'.set (KT.vix z) (-1) = b) := by show _ = _; rw [hbb]; exact bind_back hbv (by rw [HB.out.len]; exact hv40)
        clear hbv hbb
        go_upto_region 18 with fail
        clear c_ru0 c_rul
        clear c_us z_us l_us
        try dsimp only at HP10
        revert HP10
        generalize w9.setCell ⟨u, k, none⟩ (.bool false) = w10
        intro HP10
        have c_g := HP10.out.bat.cell (i := KT.vix z) (by rw [HLA.out, HB.out.len]; exact hv40)
        have z_g : w10.frozen? ⟨g, KT.vix z, none⟩ = false := HP10.out.bat.frozen _
        have l_g : g < w10.heap.size := HP10.out.bat.lt
        try dsimp only at c_g
        revert hv40 hwz HBB c_g z_g
        generalize KT.vix z = v
        intro hv40 hwz HBB c_g z_g
        have hv0 : (0 : Int) ≤ (v : Int) := by omega
        have hv4 : (v : Int) < 40 := by omega
        have HS : ∀ w', Kept (· = g) w10 w' → w'.cell? ⟨tb, 0, none⟩ = some (.pointer (some ⟨g, 0, none⟩)) ∧ w'.cell? ⟨tr, 0, none⟩ = some (.slice (some adq) n qc) ∧ w'.cell? (adq.add i) = some (.int .i64 z) := fun w' hk =>
          ⟨(hk.row HP10.out.rb (show ¬ tb = g by omega)).cell 0, (hk.row HP10.out.rr (show ¬ tr = g by omega)).cell 0,
            (hk.cell (p := adq.add i) (by rw [add_block]; have := HP10.out.bel.size; omega) (by rw [add_block]; show ¬ adq.block = g; omega)).trans ((HP10.out.bel.cell (p := adq.add i) (by rw [add_block]; exact hbq)).trans HZ0.out)⟩
        have HK0 : Hid (Kept (· = g) w10 w10.drew) := Kept.ofBelow ((Below.refl w10.heap.size w10).drew)
        go_region_held3 (fun w' => w'.cell? ⟨tb, 0, none⟩ = some (.pointer (some ⟨g, 0, none⟩)) ∧ w'.cell? ⟨tr, 0, none⟩ = some (.slice (some adq) n qc) ∧ w'.cell? (adq.add i) = some (.int .i64 z)) (first | exact HS _ HK0.out | exact HS _ (Kept.set (S := (· = g)) (p := ⟨g, v, none⟩) HK0.out (.inl rfl) _)) (fail)
        clear HK0
        have hp11 := (HP10.out.below HOK.out ((Below.refl w10.heap.size w10).drew)).bset HOK.out v (-1)
        rw [HBB.out] at hp11
        have HP11 := Lib.hid hp11
        clear hp11 HP10 c_g z_g l_g HS
        go_wp2
        go_roundg (n - (k + 1))
        case measure => omega
        case rel => exact ⟨k + 1, m', by omega, by omega, by go_num, rfl, hm', (by rw [HQN.out]; exact HP11.out), (by rw [HQN.out])⟩
      · have hltz : ¬ (k : Int) < (n : Int) := by omega
        have HKN : Hid (k = ins.length) := by show _ = _; rw [HLI.out]; omega
        rw [HKN.out] at HP2
        go_wp2
        refine bodyPost_end (results_none rfl _ _ _) rfl ⟨rfl, ?_⟩
        rw [HE.out ()]
        exact HP2.out
theorem place_any (w0 : World) (X : PCtx) (E : PEnv) (hx : PHyp w0 X E) : ∀ (f i : Nat) (b : List Int) (used : List Bool) (acc : Option Int) (w : World), X.n < i + f → i ≤ X.n → KT.BOk X.t b → used.length = X.n → PSt w0 X E b used acc w →
    Calls Tryd.prog 43 #[.int .i64 (i : Int), .pointer (some ⟨E.ti, 0, none⟩), .pointer (some ⟨E.tb, 0, none⟩), .pointer (some ⟨E.tr, 0, none⟩), .pointer (some ⟨E.tf, 0, none⟩), .pointer (some ⟨E.te, 0, none⟩), .pointer (some ⟨E.tc, 0, none⟩), .pointer (some ⟨E.tp, 0, none⟩), .pointer (some ⟨E.tu, 0, none⟩), .pointer (some ⟨E.tt, 0, none⟩)] w fun e w' => e = .returned (.tuple #[]) ∧ PSt w0 X E b used (KT.placeK X.t X.r X.ins X.c f i b used acc) w'
  | 0, i, b, used, acc, w, h1, h2, _, _, _ => absurd h1 (by omega)
  | f + 1, i, b, used, acc, w, h1, h2, hb, hul, hp => place_succ w0 X E hx f (place_any w0 X E hx f) i b used acc w h1 h2 hb hul hp
end Go.Proofs.YtlmdjkmcplobnaaDoor
