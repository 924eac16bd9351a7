/-
  made and Tree of package tabletree, walked.
-/
import Derived.Test.YtlmdjkmcplobnaaDoorKC8
import Derived.Test.YtlmdjkmcplobnaaDoorKC13
import Derived.Laws.EntriesVeiled
namespace Go.Proofs.YtlmdjkmcplobnaaDoor
open Go.RowKit Go.Maps
set_option linter.unusedSimpArgs false
set_option linter.unusedVariables false
theorem hood_len {l : List Pt} (h : hoodOk l = true) : l.length ≤ 25 := by
  unfold hoodOk at h
  simp only [Bool.and_eq_true, decide_eq_true_eq] at h
  omega
/-- The nodes of the tree of a table. -/
def nodesK (t : KT.Tab) : List Nd := (KT.buildK t.states.toNat (KT.nextK t) t.hood.length [] []).2
/-- What tabletree.Tree returns. -/
def treeK (t : KT.Tab) : Tre := if KT.rightK t = true ∧ smallK t = true ∧ (nodesK t).length ≤ 4096 then ⟨t.states, t.hood, nodesK t⟩ else noTre
def treeErr (t : KT.Tab) : Int := if KT.rightK t = true then (if smallK t = true ∧ (nodesK t).length ≤ 4096 then 0 else 6) else 2
theorem next_rng {t : KT.Tab} (hr : KT.rightK t = true) (ins : List Int) (hl : ins.length = t.hood.length) (hi : ∀ s ∈ ins, 0 ≤ s ∧ s < (t.states.toNat : Int)) : 0 ≤ KT.nextK t ins ∧ KT.nextK t ins < t.states.toNat := by
  have hs : ins.all (KT.stOk t) = true := by
    rw [List.all_eq_true]
    intro s hs
    have := hi s hs
    exact decide_eq_true (by omega)
  have h1 := KT.value_in hr hl hs
  have h2 : KT.nextK t ins = KT.valueK t ins := (next_ok ⟨hr, hl⟩ hs).2
  rw [h2]
  obtain ⟨a, b⟩ := h1
  have := (rightP hr).s2
  omega
set_option maxRecDepth 100000 in
set_option maxHeartbeats 1000000 in
theorem treeFn_any (t : KT.Tab) (P : TP) (tb : Nat) (ins : List Int) (IA : Option Addr) (n ic : Nat) (w : World) (hrow : Row w tb 26 (P.cells t)) (h : TabAt w t P) (hmat : MatAt w) (hi : Rd w w.heap.size 1 IA n (ints ins)) (hm : n ≤ maxLen) :
    Calls Tryd.prog 11 #[.slice IA n ic, .pointer (some ⟨tb, 0, none⟩)] w fun e w' => e = .returned (.int .i64 (KT.nextK t ins)) ∧ Below w.heap.size w w' := by
  have HC := Lib.hid (next_any t P ins IA n ic w h hmat hi hm)
  obtain ⟨HA, hn, hc, VA, vn, vc, RA, rn, rc, vs, rs⟩ := P
  have HR : Hid (Row w tb 26 [.int .i64 t.states, .int .i64 t.sym, .slice HA hn hc, .slice VA vn vc, .slice RA rn rc]) := hrow
  dsimp only at HC
  clear hrow h hmat hi
  have k0 := HR.out.cell 0
  have k1 := HR.out.cell 1
  have k2 := HR.out.cell 2
  have k3 := HR.out.cell 3
  have k4 := HR.out.cell 4
  have kl := HR.out.lt
  simp only [List.getElem?_cons_zero, List.getElem?_cons_succ] at k0 k1 k2 k3 k4
  go_enter Tryd.func11, Tryd.ntmps11
  go_wp2_with fail
  refine HC.out.mono ?_
  rintro e w1 ⟨rfl, hb⟩
  have HB := Lib.hid hb
  clear hb HC HR k0 k1 k2 k3 k4 kl
  go_wp2
  go_ret
  exact ⟨rfl, HB.out⟩
/-- What made returns: the nodes in rows from the call's base on, the neighbourhood as it came. -/
def MadePost (t : KT.Tab) (P : TP) (w : World) (e : Ending) (w' : World) : Prop := ∃ HA hn hc NA nc sl, e = .returned (.tuple #[.agg #[.int .i64 (treeK t).states, .slice HA hn hc, .slice NA (treeK t).nodes.length nc], .int .i64 (treeErr t)]) ∧ TOwn w.heap.size w' (treeK t).nodes NA nc sl ∧ Below w.heap.size w w' ∧ ((treeK t).hood = [] ∧ hn = 0 ∨ (treeK t).hood = t.hood ∧ HA = P.HA ∧ hn = P.hn)
theorem madePost_err {t : KT.Tab} {P : TP} {k : Int} {w w' : World} (h : treeK t = noTre) (hk : treeErr t = k) (hb : Below w.heap.size w w') : MadePost t P w (.returned (.tuple #[.agg #[.int .i64 0, .slice none 0 0, .slice none 0 0], .int .i64 k])) w' := by
  refine ⟨none, 0, 0, none, 0, [], ?_, ?_, hb, .inl ⟨?_, rfl⟩⟩
  · rw [h, hk]; rfl
  · rw [h]; exact TOwn.nil _ _
  · rw [h]; rfl
set_option maxRecDepth 100000 in
set_option maxHeartbeats 4000000 in
theorem made_any (t : KT.Tab) (P : TP) (tb : Nat) (w : World) (hrow : Row w tb 26 (P.cells t)) (h : TabAt w t P) (hmat : MatAt w) (hr : KT.rightK t = true) (htab : Lib.TabBelow Tryd.prog w.heap.size w "internal/strconv.uint64pow10" .u64 Lib.pow10Tab) :
    Calls Tryd.prog 10 #[.agg #[.int .i64 t.states, .int .i64 t.sym, .slice P.HA P.hn P.hc, .slice P.VA P.vn P.vc, .slice P.RA P.rn P.rc], .func (.func 11) #[] #[.pointer (some ⟨tb, 0, none⟩)]] w (MadePost t P w) := by
  have HRP := Lib.hid (rightP hr)
  have HRT := Lib.hid hr
  have hn25 : P.hn ≤ 25 := h.hl ▸ hood_len HRP.out.hood
  have HSM := Lib.hid (fun W => small_any t P W h.hl HRP.out.s2 HRP.out.s8 hn25)
  obtain ⟨HA, hn, hc, VA, vn, vc, RA, rn, rc, vs, rs⟩ := P
  dsimp only at HSM hn25
  dsimp only
  have H := Lib.hid h
  have HM := Lib.hid hmat
  have HR := Lib.hid hrow
  have HT := Lib.hid htab
  have HL : Hid (t.hood.length = hn) := h.hl
  clear h hmat hrow hr htab
  go_enter Tryd.func10, Tryd.ntmps10
  go_upto_region 1 with fail
  have RT : Hid (Row (World.alloc (World.alloc w (.cells #[.int .i64 t.states, .int .i64 t.sym, .slice HA hn hc, .slice VA vn vc, .slice RA rn rc] 26)) (.cells #[.int .i64 0, .slice none 0 0, .slice none 0 0] 31)) (w.heap.size) 26 [.int .i64 t.states, .int .i64 t.sym, .slice HA hn hc, .slice VA vn vc, .slice RA rn rc]) := by
    have h0 := Row.new w 26 [.int .i64 t.states, .int .i64 t.sym, .slice HA hn hc, .slice VA vn vc, .slice RA rn rc]
    try simp only [World.size_alloc] at h0
    exact (h0.alloc _)
  have RZ : Hid (Row (World.alloc (World.alloc w (.cells #[.int .i64 t.states, .int .i64 t.sym, .slice HA hn hc, .slice VA vn vc, .slice RA rn rc] 26)) (.cells #[.int .i64 0, .slice none 0 0, .slice none 0 0] 31)) (w.heap.size + 1) 31 [.int .i64 0, .slice none 0 0, .slice none 0 0]) := by
    have h0 := Row.new (World.alloc w (.cells #[.int .i64 t.states, .int .i64 t.sym, .slice HA hn hc, .slice VA vn vc, .slice RA rn rc] 26)) 31 [.int .i64 0, .slice none 0 0, .slice none 0 0]
    try simp only [World.size_alloc] at h0
    exact h0
  have hgr9 : Below w.heap.size w (World.alloc (World.alloc w (.cells #[.int .i64 t.states, .int .i64 t.sym, .slice HA hn hc, .slice VA vn vc, .slice RA rn rc] 26)) (.cells #[.int .i64 0, .slice none 0 0, .slice none 0 0] 31)) := by go_grown
  have B_w : Hid (Below w.heap.size w (World.alloc (World.alloc w (.cells #[.int .i64 t.states, .int .i64 t.sym, .slice HA hn hc, .slice VA vn vc, .slice RA rn rc] 26)) (.cells #[.int .i64 0, .slice none 0 0, .slice none 0 0] 31))) := hgr9
  clear hgr9
  revert RT RZ B_w
  generalize (World.alloc (World.alloc w (.cells #[.int .i64 t.states, .int .i64 t.sym, .slice HA hn hc, .slice VA vn vc, .slice RA rn rc] 26)) (.cells #[.int .i64 0, .slice none 0 0, .slice none 0 0] 31)) = w1
  intro RT RZ B_w
  have HC := HSM.out w1
  clear HSM
  cases hsm : smallK t with
  | false =>
    rw [hsm] at HC
    have HE : Hid (treeK t = noTre ∧ treeErr t = 6) := Lib.hid (by
      unfold treeK treeErr
      rw [hsm, HRT.out]
      exact ⟨if_neg (by simp), by simp⟩)
    have HC := Lib.hid HC
    clear hsm
    have kR : Hid (Row w1 (w.heap.size) 26 [.int .i64 t.states, .int .i64 t.sym, .slice HA hn hc, .slice VA vn vc, .slice RA rn rc]) := RT.out
    have k0 := kR.out.cell 0
    have k1 := kR.out.cell 1
    have k2 := kR.out.cell 2
    have k3 := kR.out.cell 3
    have k4 := kR.out.cell 4
    have kl := kR.out.lt
    simp only [List.getElem?_cons_zero, List.getElem?_cons_succ] at k0 k1 k2 k3 k4
    clear kR
    go_wp2_with fail
    refine HC.out.mono ?_
    rintro e w2 ⟨rfl, hb⟩
    have B_w : Hid (Below w.heap.size w w2) := below_on2 B_w.out hb
    have B_w1 : Hid (Below w1.heap.size w1 w2) := hb
    clear k0 k1 k2 k3 k4 kl
    clear hb
    have RZ2 := (show Hid (Row w2 (w.heap.size + 1) 31 [.int .i64 0, .slice none 0 0, .slice none 0 0]) from (rowCells RZ.out B_w1.out))
    have z0 := RZ2.out.cell 0
    have z1 := RZ2.out.cell 1
    have z2 := RZ2.out.cell 2
    have zl := RZ2.out.lt
    simp only [List.getElem?_cons_zero, List.getElem?_cons_succ] at z0 z1 z2
    have zf0 := RZ2.out.frozen 0
    have zf1 := RZ2.out.frozen 1
    have zf2 := RZ2.out.frozen 2
    go_wp2
    refine bodyPost_ret (v := .tuple #[.agg #[.int .i64 0, .slice none 0 0, .slice none 0 0], .int .i64 6]) (by simp [results, Tryd.results10, go_sem, z0, z1, z2]) rfl ?_
    exact madePost_err HE.out.1 HE.out.2 (by have := B_w.out; go_grown)
  | true =>
    rw [hsm] at HC
    have HSK := Lib.hid hsm
    have HC := Lib.hid HC
    clear hsm
    have kR : Hid (Row w1 (w.heap.size) 26 [.int .i64 t.states, .int .i64 t.sym, .slice HA hn hc, .slice VA vn vc, .slice RA rn rc]) := RT.out
    have k0 := kR.out.cell 0
    have k1 := kR.out.cell 1
    have k2 := kR.out.cell 2
    have k3 := kR.out.cell 3
    have k4 := kR.out.cell 4
    have kl := kR.out.lt
    simp only [List.getElem?_cons_zero, List.getElem?_cons_succ] at k0 k1 k2 k3 k4
    clear kR
    go_wp2_with fail
    refine HC.out.mono ?_
    rintro e w2 ⟨rfl, hb⟩
    have B_w : Hid (Below w.heap.size w w2) := below_on2 B_w.out hb
    have B_w1 : Hid (Below w1.heap.size w1 w2) := hb
    clear k0 k1 k2 k3 k4 kl
    clear hb
    clear HC
    have kR : Hid (Row w2 (w.heap.size) 26 [.int .i64 t.states, .int .i64 t.sym, .slice HA hn hc, .slice VA vn vc, .slice RA rn rc]) := (rowCells RT.out B_w1.out)
    have k0 := kR.out.cell 0
    have k1 := kR.out.cell 1
    have k2 := kR.out.cell 2
    have k3 := kR.out.cell 3
    have k4 := kR.out.cell 4
    have kl := kR.out.lt
    simp only [List.getElem?_cons_zero, List.getElem?_cons_succ] at k0 k1 k2 k3 k4
    clear kR
    have HWS : Hid (w.heap.size ≤ w2.heap.size) := B_w.out.size
    have HRZ2 : Hid (Row w2 (w.heap.size + 1) 31 [.int .i64 0, .slice none 0 0, .slice none 0 0]) := (rowCells RZ.out B_w1.out)
    have hmm := @run_makeMap Tryd.prog
    have hss : t.states = (t.states.toNat : Int) := by have := HRP.out.s2; omega
    obtain ⟨S, hS⟩ : ∃ S : Nat, t.states.toNat = S := ⟨_, rfl⟩
    rw [hS] at hss
    have HSS := Lib.hid hss
    have HSN := Lib.hid hS
    clear hS hss
    go_upto_region 4 with fail
    clear hmm
    clear k0 k1 k2 k3 k4 kl
    have HB0 : Hid (BSt w2 ⟨w2.heap.size + 1, w2.heap.size, tb, S, HA, hn, hc⟩ ⟨none, 0, [], none, 0⟩ [] [] (KT.idsF []) ((w2.alloc (.map #[] 0)).alloc (.cells #[.int .i64 t.states, .slice HA hn hc, .slice none 0 0, .map (some w2.heap.size), .slice none 0 0, .func (.func 11) #[] #[.pointer (some ⟨tb, 0, none⟩)]] 65))) := Lib.hid
      ⟨((Below.refl _ _).alloc (Nat.le_refl _) _).alloc (by simp) _, by show w2.heap.size ≤ w2.heap.size + 1; omega, Nat.le_refl _, (by
        have h0 := Row.new (w2.alloc (.map #[] 0)) 65 [.int .i64 t.states, .slice HA hn hc, .slice none 0 0, .map (some w2.heap.size), .slice none 0 0, .func (.func 11) #[] #[.pointer (some ⟨tb, 0, none⟩)]]
        rw [World.size_alloc, HSS.out] at h0
        exact (by rw [HSS.out]; exact h0 : Row ((w2.alloc (.map #[] 0)).alloc (.cells #[.int .i64 t.states, .slice HA hn hc, .slice none 0 0, .map (some w2.heap.size), .slice none 0 0, .func (.func 11) #[] #[.pointer (some ⟨tb, 0, none⟩)]] 65)) (w2.heap.size + 1) 65 [.int .i64 (S : Int), .slice HA hn hc, .slice none 0 0, .map (some w2.heap.size), .slice none 0 0, .func (.func 11) #[] #[.pointer (some ⟨tb, 0, none⟩)]])), World.ownsRow_nil _ _ _ _, World.ownsRow_nil _ _ _ _, rfl, fun i hi => absurd hi (Nat.not_lt_zero _), fun i hi => absurd hi (Nat.not_lt_zero _), ((MK.made w2 Tryd.prog 9).alloc _).congr (fun v => KT.idsF_nil v)⟩
    have HBT : Hid (Below w2.heap.size w2 ((w2.alloc (.map #[] 0)).alloc (.cells #[.int .i64 t.states, .slice HA hn hc, .slice none 0 0, .map (some w2.heap.size), .slice none 0 0, .func (.func 11) #[] #[.pointer (some ⟨tb, 0, none⟩)]] 65))) := Lib.hid (((Below.refl _ _).alloc (Nat.le_refl _) _).alloc (by simp) _)
    have HX : Hid (BHyp w2 ⟨w2.heap.size + 1, w2.heap.size, tb, S, HA, hn, hc⟩ (KT.nextK t) hn) := Lib.hid
      { s2 := by show 2 ≤ S; have := HRP.out.s2; have := HSS.out; omega
        s8 := by show S ≤ 8; have := HRP.out.s8; have := HSS.out; omega
        hn := rfl
        h25 := hn25
        rng := fun ins hl hi => by
          dsimp only at hi ⊢
          rw [← HSN.out]
          exact next_rng HRT.out ins (by rw [HL.out]; exact hl) (by rw [HSN.out]; exact hi)
        call := fun ins IA ic W hl hi hb hrd => by
          have hbw := B_w.out.trans (hb.mono B_w.out.size)
          exact treeFn_any t ⟨HA, hn, hc, VA, vn, vc, RA, rn, rc, vs, rs⟩ tb ins IA hn ic W (rowCells HR.out hbw) (H.out.up hbw) (HM.out.up hbw) hrd (by unfold maxLen; omega)
        tab := tab_up HT.out B_w.out B_w.out.size }
    have HPW : Hid (S ^ hn ≤ 65536) := Lib.hid (by
      have h1 := of_decide_eq_true HSK.out
      rw [HSS.out, HL.out] at h1
      have h2 : ((S ^ hn : Nat) : Int) ≤ 65536 := by rw [Int.natCast_pow]; exact h1
      generalize S ^ hn = q at h2 ⊢
      omega)
    have HC := Lib.hid (build_any w2 ⟨w2.heap.size + 1, w2.heap.size, tb, S, HA, hn, hc⟩ (KT.nextK t) hn HX.out hn [] [] ⟨none, 0, [], none, 0⟩ ((w2.alloc (.map #[] 0)).alloc (.cells #[.int .i64 t.states, .slice HA hn hc, .slice none 0 0, .map (some w2.heap.size), .slice none 0 0, .func (.func 11) #[] #[.pointer (some ⟨tb, 0, none⟩)]] 65)) (by simp) (by simp) ⟨by simp, by simp⟩ (by show 0 + S ^ hn ≤ 70000; have := HPW.out; omega) HB0.out)
    have HRES := Lib.hid (KT.buildK_res HX.out.s2 HX.out.rng hn [] [] (by simp) (by simp) ⟨by simp, by simp⟩)
    have HNS : Hid ((KT.buildK S (KT.nextK t) hn [] []).2 = nodesK t) := Lib.hid (by unfold nodesK; rw [HSN.out, HL.out])
    dsimp only at HC HRES
    clear HB0 HX
    revert HBT HC
    generalize ((w2.alloc (.map #[] 0)).alloc (.cells #[.int .i64 t.states, .slice HA hn hc, .slice none 0 0, .map (some w2.heap.size), .slice none 0 0, .func (.func 11) #[] #[.pointer (some ⟨tb, 0, none⟩)]] 65)) = w3
    intro HBT HC
    go_wp2_with fail
    refine HC.out.mono ?_
    rintro e w4 ⟨p, rfl, hb, hm⟩
    have HB4 := Lib.hid hb
    rw [HNS.out] at HB4
    clear hb hm HC HBT
    obtain ⟨NA, nc, sl, IA, ic⟩ := p
    have hb := HB4.out.bel
    have B_w : Hid (Below w.heap.size w w4) := below_on2 B_w.out hb
    have B_w1 : Hid (Below w1.heap.size w1 w4) := below_on2 B_w1.out hb
    have B_w2 : Hid (Below w2.heap.size w2 w4) := hb
    clear hb
    have HR4 : Hid (Row w4 (w.heap.size + 1) 31 [.int .i64 0, .slice none 0 0, .slice none 0 0]) := (rowCells RZ.out B_w1.out)
    have z0 := HR4.out.cell 0
    have z1 := HR4.out.cell 1
    have z2 := HR4.out.cell 2
    have zl := HR4.out.lt
    simp only [List.getElem?_cons_zero, List.getElem?_cons_succ] at z0 z1 z2
    have zf0 := HR4.out.frozen 0
    have zf1 := HR4.out.frozen 1
    have zf2 := HR4.out.frozen 2
    have hqR := HB4.out.row
    dsimp only [BEnv.cells] at hqR
    have q0 := hqR.cell 0
    have q1 := hqR.cell 1
    have q2 := hqR.cell 2
    have ql := hqR.lt
    simp only [List.getElem?_cons_zero, List.getElem?_cons_succ] at q0 q1 q2
    clear hqR
    by_cases hn4 : (nodesK t).length ≤ 4096
    · have HE : Hid (treeK t = ⟨(S : Int), t.hood, nodesK t⟩ ∧ treeErr t = 0) := Lib.hid (by
        unfold treeK treeErr
        rw [if_pos ⟨HRT.out, HSK.out, hn4⟩, if_pos HRT.out, if_pos ⟨HSK.out, hn4⟩, HSS.out]
        exact ⟨rfl, rfl⟩)
      have hd : decide ((4096 : Int) < ((nodesK t).length : Int)) = false := decide_eq_false (by omega)
      have hd2 : decide (4096 < (nodesK t).length) = false := decide_eq_false (by omega)
      have HRF : Hid (Row (((w4.setCell ⟨w.heap.size + 1, 0, none⟩ (.int .i64 (S : Int))).setCell ⟨w.heap.size + 1, 1, none⟩ (.slice HA hn hc)).setCell ⟨w.heap.size + 1, 2, none⟩ (.slice NA (nodesK t).length nc)) (w.heap.size + 1) 31 [.int .i64 (S : Int), .slice HA hn hc, .slice NA (nodesK t).length nc]) := Lib.hid (((HR4.out.set 0 _).set 1 _).set 2 _)
      have HTF : Hid (TOwn w2.heap.size (((w4.setCell ⟨w.heap.size + 1, 0, none⟩ (.int .i64 (S : Int))).setCell ⟨w.heap.size + 1, 1, none⟩ (.slice HA hn hc)).setCell ⟨w.heap.size + 1, 2, none⟩ (.slice NA (nodesK t).length nc)) (nodesK t) NA nc sl) := Lib.hid (by
        have h0 : TOwn w2.heap.size w4 (nodesK t) NA nc sl := ⟨HB4.out.nown, HB4.out.sll, HB4.out.nxt, fun x hx => by
          have h1 := (HRES.out.ok.lev x (by rw [HNS.out]; exact hx)).2
          have h2 := HRP.out.s8
          have h3 := HSS.out
          omega, by omega⟩
        have hlt : w.heap.size + 1 < w2.heap.size := (show Row w2 (w.heap.size + 1) _ _ from HRZ2.out).lt
        exact ((h0.set (p := ⟨w.heap.size + 1, 0, none⟩) hlt _).set (p := ⟨w.heap.size + 1, 1, none⟩) hlt _).set (p := ⟨w.heap.size + 1, 2, none⟩) hlt _)
      have HBF : Hid (Below w.heap.size w (((w4.setCell ⟨w.heap.size + 1, 0, none⟩ (.int .i64 (S : Int))).setCell ⟨w.heap.size + 1, 1, none⟩ (.slice HA hn hc)).setCell ⟨w.heap.size + 1, 2, none⟩ (.slice NA (nodesK t).length nc))) := Lib.hid (((B_w.out.setCell (p := ⟨w.heap.size + 1, 0, none⟩) (by show _ ≤ w.heap.size + 1; omega) _).setCell (p := ⟨w.heap.size + 1, 1, none⟩) (by show _ ≤ w.heap.size + 1; omega) _).setCell (p := ⟨w.heap.size + 1, 2, none⟩) (by show _ ≤ w.heap.size + 1; omega) _)
      have HW2 : Hid (w.heap.size ≤ w2.heap.size) := HWS.out
      have d0 := HRF.out.cell 0
      have d1 := HRF.out.cell 1
      have d2 := HRF.out.cell 2
      have dl := HRF.out.lt
      simp only [List.getElem?_cons_zero, List.getElem?_cons_succ] at d0 d1 d2
      go_wp2
      refine bodyPost_ret (v := .tuple #[.agg #[.int .i64 (S : Int), .slice HA hn hc, .slice NA (nodesK t).length nc], .int .i64 0]) (by simp [results, Tryd.results10, go_sem, d0, d1, d2]) rfl ?_
      refine ⟨HA, hn, hc, NA, nc, sl, ?_, ?_, HBF.out, .inr ⟨?_, rfl, rfl⟩⟩
      · rw [HE.out.1, HE.out.2]
      · rw [HE.out.1]; exact HTF.out.mono HW2.out
      · rw [HE.out.1]
    · have HE : Hid (treeK t = noTre ∧ treeErr t = 6) := Lib.hid (by
        unfold treeK treeErr
        rw [if_neg (fun h => hn4 h.2.2), if_pos HRT.out, if_neg (fun h => hn4 h.2)]
        exact ⟨rfl, rfl⟩)
      have hd : decide ((4096 : Int) < ((nodesK t).length : Int)) = true := decide_eq_true (by omega)
      have hd2 : decide (4096 < (nodesK t).length) = true := decide_eq_true (by omega)
      have HRF : Hid (Row (((w4.setCell ⟨w.heap.size + 1, 0, none⟩ (.int .i64 0)).setCell ⟨w.heap.size + 1, 1, none⟩ (.slice none 0 0)).setCell ⟨w.heap.size + 1, 2, none⟩ (.slice none 0 0)) (w.heap.size + 1) 31 [.int .i64 0, .slice none 0 0, .slice none 0 0]) := Lib.hid (((HR4.out.set 0 _).set 1 _).set 2 _)
      have HBF : Hid (Below w.heap.size w (((w4.setCell ⟨w.heap.size + 1, 0, none⟩ (.int .i64 0)).setCell ⟨w.heap.size + 1, 1, none⟩ (.slice none 0 0)).setCell ⟨w.heap.size + 1, 2, none⟩ (.slice none 0 0))) := Lib.hid (((B_w.out.setCell (p := ⟨w.heap.size + 1, 0, none⟩) (by show _ ≤ w.heap.size + 1; omega) _).setCell (p := ⟨w.heap.size + 1, 1, none⟩) (by show _ ≤ w.heap.size + 1; omega) _).setCell (p := ⟨w.heap.size + 1, 2, none⟩) (by show _ ≤ w.heap.size + 1; omega) _)
      have d0 := HRF.out.cell 0
      have d1 := HRF.out.cell 1
      have d2 := HRF.out.cell 2
      have dl := HRF.out.lt
      simp only [List.getElem?_cons_zero, List.getElem?_cons_succ] at d0 d1 d2
      go_wp2
      refine bodyPost_ret (v := .tuple #[.agg #[.int .i64 0, .slice none 0 0, .slice none 0 0], .int .i64 6]) (by simp [results, Tryd.results10, go_sem, d0, d1, d2]) rfl ?_
      exact madePost_err HE.out.1 HE.out.2 HBF.out
set_option maxRecDepth 100000 in
set_option maxHeartbeats 4000000 in
theorem tree_any (t : KT.Tab) (P : TP) (w : World) (h : TabAt w t P) (hmat : MatAt w) (htab : Lib.TabBelow Tryd.prog w.heap.size w "internal/strconv.uint64pow10" .u64 Lib.pow10Tab) :
    Calls Tryd.prog 5 #[.agg #[.int .i64 t.states, .int .i64 t.sym, .slice P.HA P.hn P.hc, .slice P.VA P.vn P.vc, .slice P.RA P.rn P.rc]] w (TPost (treeK t) (treeErr t) w) := by
  have HC1 := Lib.hid (fun W h hm => right_any t P W h hm)
  have HC2 := Lib.hid (fun tb W hr h hm hrt ht => made_any t P tb W hr h hm hrt ht)
  obtain ⟨HA, hn, hc, VA, vn, vc, RA, rn, rc, vs, rs⟩ := P
  dsimp only at HC1 HC2
  dsimp only
  have H := Lib.hid h
  have HM := Lib.hid hmat
  have HT := Lib.hid htab
  clear h hmat htab
  go_enter Tryd.func5, Tryd.ntmps5
  go_upto_region 1 with fail
  have RT : Hid (Row (World.alloc (World.alloc w (.cells #[.int .i64 t.states, .int .i64 t.sym, .slice HA hn hc, .slice VA vn vc, .slice RA rn rc] 26)) (.cells #[.int .i64 0, .slice none 0 0, .slice none 0 0] 31)) (w.heap.size) 26 [.int .i64 t.states, .int .i64 t.sym, .slice HA hn hc, .slice VA vn vc, .slice RA rn rc]) := by
    have h0 := Row.new w 26 [.int .i64 t.states, .int .i64 t.sym, .slice HA hn hc, .slice VA vn vc, .slice RA rn rc]
    try simp only [World.size_alloc] at h0
    exact (h0.alloc _)
  have RZ : Hid (Row (World.alloc (World.alloc w (.cells #[.int .i64 t.states, .int .i64 t.sym, .slice HA hn hc, .slice VA vn vc, .slice RA rn rc] 26)) (.cells #[.int .i64 0, .slice none 0 0, .slice none 0 0] 31)) (w.heap.size + 1) 31 [.int .i64 0, .slice none 0 0, .slice none 0 0]) := by
    have h0 := Row.new (World.alloc w (.cells #[.int .i64 t.states, .int .i64 t.sym, .slice HA hn hc, .slice VA vn vc, .slice RA rn rc] 26)) 31 [.int .i64 0, .slice none 0 0, .slice none 0 0]
    try simp only [World.size_alloc] at h0
    exact h0
  have hgr9 : Below w.heap.size w (World.alloc (World.alloc w (.cells #[.int .i64 t.states, .int .i64 t.sym, .slice HA hn hc, .slice VA vn vc, .slice RA rn rc] 26)) (.cells #[.int .i64 0, .slice none 0 0, .slice none 0 0] 31)) := by go_grown
  have B_w : Hid (Below w.heap.size w (World.alloc (World.alloc w (.cells #[.int .i64 t.states, .int .i64 t.sym, .slice HA hn hc, .slice VA vn vc, .slice RA rn rc] 26)) (.cells #[.int .i64 0, .slice none 0 0, .slice none 0 0] 31))) := hgr9
  clear hgr9
  revert RT RZ B_w
  generalize (World.alloc (World.alloc w (.cells #[.int .i64 t.states, .int .i64 t.sym, .slice HA hn hc, .slice VA vn vc, .slice RA rn rc] 26)) (.cells #[.int .i64 0, .slice none 0 0, .slice none 0 0] 31)) = w1
  intro RT RZ B_w
  have HC3 := Lib.hid (HC1.out w1 (H.out.up B_w.out) (HM.out.up B_w.out))
  have HL1 : Hid (w.heap.size + 1 < w1.heap.size) := (show Row w1 (w.heap.size + 1) _ _ from RZ.out).lt
  have kR : Hid (Row w1 (w.heap.size) 26 [.int .i64 t.states, .int .i64 t.sym, .slice HA hn hc, .slice VA vn vc, .slice RA rn rc]) := RT.out
  have k0 := kR.out.cell 0
  have k1 := kR.out.cell 1
  have k2 := kR.out.cell 2
  have k3 := kR.out.cell 3
  have k4 := kR.out.cell 4
  have kl := kR.out.lt
  simp only [List.getElem?_cons_zero, List.getElem?_cons_succ] at k0 k1 k2 k3 k4
  clear kR
  go_wp2_with fail
  refine HC3.out.mono ?_
  rintro e w2 ⟨rfl, hb⟩
  clear HC3 HC1
  have B_w : Hid (Below w.heap.size w w2) := below_on2 B_w.out hb
  have B_w1 : Hid (Below w1.heap.size w1 w2) := hb
  clear k0 k1 k2 k3 k4 kl
  clear hb
  have HL2 : Hid (w.heap.size + 1 < w2.heap.size) := Lib.hid (Nat.lt_of_lt_of_le HL1.out B_w1.out.size)
  cases hr : KT.rightK t with
  | false =>
    have HE : Hid (treeK t = noTre ∧ treeErr t = 2) := Lib.hid (by
      unfold treeK treeErr
      rw [hr]
      exact ⟨if_neg (by simp), if_neg (by simp)⟩)
    clear hr
    have zR : Hid (Row w2 (w.heap.size + 1) 31 [.int .i64 0, .slice none 0 0, .slice none 0 0]) := (rowCells RZ.out B_w1.out)
    have z0 := zR.out.cell 0
    have z1 := zR.out.cell 1
    have z2 := zR.out.cell 2
    have zl := zR.out.lt
    simp only [List.getElem?_cons_zero, List.getElem?_cons_succ] at z0 z1 z2
    clear zR

    have RZ2 : Hid (Row w2 (w.heap.size + 1) 31 [.int .i64 0, .slice none 0 0, .slice none 0 0]) := (rowCells RZ.out B_w1.out)
    have zf0 := RZ2.out.frozen 0
    have zf1 := RZ2.out.frozen 1
    have zf2 := RZ2.out.frozen 2
    have HRF : Hid (Row (((w2.setCell ⟨w.heap.size + 1, 0, none⟩ (.int .i64 0)).setCell ⟨w.heap.size + 1, 1, none⟩ (.slice none 0 0)).setCell ⟨w.heap.size + 1, 2, none⟩ (.slice none 0 0)) (w.heap.size + 1) 31 [.int .i64 0, .slice none 0 0, .slice none 0 0]) := Lib.hid (((RZ2.out.set 0 _).set 1 _).set 2 _)
    have HBF : Hid (Below w.heap.size w (((w2.setCell ⟨w.heap.size + 1, 0, none⟩ (.int .i64 0)).setCell ⟨w.heap.size + 1, 1, none⟩ (.slice none 0 0)).setCell ⟨w.heap.size + 1, 2, none⟩ (.slice none 0 0))) := Lib.hid (((B_w.out.setCell (p := ⟨w.heap.size + 1, 0, none⟩) (by show _ ≤ w.heap.size + 1; omega) _).setCell (p := ⟨w.heap.size + 1, 1, none⟩) (by show _ ≤ w.heap.size + 1; omega) _).setCell (p := ⟨w.heap.size + 1, 2, none⟩) (by show _ ≤ w.heap.size + 1; omega) _)
    have d0 := HRF.out.cell 0
    have d1 := HRF.out.cell 1
    have d2 := HRF.out.cell 2
    have dl := HRF.out.lt
    simp only [List.getElem?_cons_zero, List.getElem?_cons_succ] at d0 d1 d2
    go_wp2
    refine bodyPost_ret (v := .tuple #[.agg #[.int .i64 0, .slice none 0 0, .slice none 0 0], .int .i64 2]) (by simp [results, Tryd.results5, go_sem, d0, d1, d2]) rfl ?_
    rw [HE.out.1, HE.out.2]
    exact tpost_err rfl HBF.out
  | true =>
    have HC3 := Lib.hid (HC2.out w.heap.size w2 (rowCells RT.out B_w1.out) (H.out.up B_w.out) (HM.out.up B_w.out) hr (tab_up HT.out B_w.out B_w.out.size))
    clear hr HC2
    have kR : Hid (Row w2 (w.heap.size) 26 [.int .i64 t.states, .int .i64 t.sym, .slice HA hn hc, .slice VA vn vc, .slice RA rn rc]) := (rowCells RT.out B_w1.out)
    have k0 := kR.out.cell 0
    have k1 := kR.out.cell 1
    have k2 := kR.out.cell 2
    have k3 := kR.out.cell 3
    have k4 := kR.out.cell 4
    have kl := kR.out.lt
    simp only [List.getElem?_cons_zero, List.getElem?_cons_succ] at k0 k1 k2 k3 k4
    clear kR
    go_wp2_with fail
    refine HC3.out.mono ?_
    rintro e w3 ⟨HA3, hn3, hc3, NA, nc, sl, rfl, hown, hb, hhd⟩
    have HOW := Lib.hid hown
    have HHD := Lib.hid hhd
    clear HC3 hown hhd
    have B_w : Hid (Below w.heap.size w w3) := below_on2 B_w.out hb
    have B_w1 : Hid (Below w1.heap.size w1 w3) := below_on2 B_w1.out hb
    have B_w2 : Hid (Below w2.heap.size w2 w3) := hb
    clear k0 k1 k2 k3 k4 kl
    clear hb
    have RZ3 : Hid (Row w3 (w.heap.size + 1) 31 [.int .i64 0, .slice none 0 0, .slice none 0 0]) := (rowCells RZ.out B_w1.out)
    have z0 := RZ3.out.cell 0
    have z1 := RZ3.out.cell 1
    have z2 := RZ3.out.cell 2
    have zl := RZ3.out.lt
    simp only [List.getElem?_cons_zero, List.getElem?_cons_succ] at z0 z1 z2
    have zf0 := RZ3.out.frozen 0
    have zf1 := RZ3.out.frozen 1
    have zf2 := RZ3.out.frozen 2
    obtain ⟨st, hst⟩ : ∃ st, treeK t = st := ⟨_, rfl⟩
    have HST := Lib.hid hst
    rw [hst] at HOW HHD
    rw [hst]
    clear hst
    obtain ⟨ts, th, tn⟩ := st
    dsimp only at HOW HHD ⊢
    have HRF : Hid (Row (((w3.setCell ⟨w.heap.size + 1, 0, none⟩ (.int .i64 ts)).setCell ⟨w.heap.size + 1, 1, none⟩ (.slice HA3 hn3 hc3)).setCell ⟨w.heap.size + 1, 2, none⟩ (.slice NA tn.length nc)) (w.heap.size + 1) 31 [.int .i64 ts, .slice HA3 hn3 hc3, .slice NA tn.length nc]) := Lib.hid (((RZ3.out.set 0 _).set 1 _).set 2 _)
    have HTF : Hid (TOwn w2.heap.size (((w3.setCell ⟨w.heap.size + 1, 0, none⟩ (.int .i64 ts)).setCell ⟨w.heap.size + 1, 1, none⟩ (.slice HA3 hn3 hc3)).setCell ⟨w.heap.size + 1, 2, none⟩ (.slice NA tn.length nc)) tn NA nc sl) := Lib.hid (((HOW.out.set (p := ⟨w.heap.size + 1, 0, none⟩) HL2.out _).set (p := ⟨w.heap.size + 1, 1, none⟩) HL2.out _).set (p := ⟨w.heap.size + 1, 2, none⟩) HL2.out _)
    have HBF : Hid (Below w.heap.size w (((w3.setCell ⟨w.heap.size + 1, 0, none⟩ (.int .i64 ts)).setCell ⟨w.heap.size + 1, 1, none⟩ (.slice HA3 hn3 hc3)).setCell ⟨w.heap.size + 1, 2, none⟩ (.slice NA tn.length nc))) := Lib.hid (((B_w.out.setCell (p := ⟨w.heap.size + 1, 0, none⟩) (by show _ ≤ w.heap.size + 1; omega) _).setCell (p := ⟨w.heap.size + 1, 1, none⟩) (by show _ ≤ w.heap.size + 1; omega) _).setCell (p := ⟨w.heap.size + 1, 2, none⟩) (by show _ ≤ w.heap.size + 1; omega) _)
    have d0 := HRF.out.cell 0
    have d1 := HRF.out.cell 1
    have d2 := HRF.out.cell 2
    have dl := HRF.out.lt
    simp only [List.getElem?_cons_zero, List.getElem?_cons_succ] at d0 d1 d2
    go_wp2
    refine bodyPost_ret (v := .tuple #[.agg #[.int .i64 ts, .slice HA3 hn3 hc3, .slice NA tn.length nc], .int .i64 (treeErr t)]) (by simp [results, Tryd.results5, go_sem, d0, d1, d2]) rfl ?_
    rw [HST.out]
    refine ⟨HA3, NA, hn3, hc3, tn.length, nc, sl, rfl, ?_, HBF.out⟩
    rcases HHD.out with ⟨h1, h2⟩ | ⟨h1, h2, h3⟩
    · subst h1 h2
      exact HTF.out.tat (Rd.empty _) (by unfold maxLen; omega)
    · subst h1 h2 h3
      exact HTF.out.tat (H.out.up HBF.out).hood H.out.h63
end Go.Proofs.YtlmdjkmcplobnaaDoor

