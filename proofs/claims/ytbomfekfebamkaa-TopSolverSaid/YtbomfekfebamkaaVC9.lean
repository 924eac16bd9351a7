/-
  refute's engine: the method propagate, walked.
-/
import Derived.Test.YtbomfekfebamkaaVC8
import Derived.Test.YtbomfekfebamkaaVC5
namespace Go.Proofs.Ytbomfekfebamkaa
open Go.RowKit Go.Maps
set_option linter.unusedSimpArgs false
set_option linter.unusedVariables false
theorem EngR.setHd {w : World} {B b : Nat} {s : V.En} {X : Int → Prop} {us : List Int} {em : Bool} {G : EG} {US : Value} (h : EngR w B b s X us em G US) (m : Nat) : EngR (w.setCell ⟨b, 6, none⟩ (.int .i64 (m : Int))) B b { s with hd := m } X us em G US :=
  ⟨(h.core.hd m).set (p := ⟨b, 6, none⟩) (by show foreign (G.O b); rw [h.ob]; trivial) _, h.row.set 6 _, h.hb, h.ob, h.us.far (by show G.O b ≠ _; rw [h.ob]; nofun) _⟩
/-- What propagate knows at the head of its outer loop. -/
structure PLoop (n : Nat) (F : List (List Int)) (s s1 : V.En) (f B b : Nat) (us : List Int) (em : Bool) (G G1 : EG) (US : Value) (w wr : World) : Prop where
  run : V.propF (n + 2) s = V.propF f s1
  wf : V.WF n F s1
  inv : V.Inv2 s1 s1.hd
  eng : EngR wr B b s1 (fun _ => False) us em G1 US
  fuel : n + 1 < f + s1.hd
  bel : Below B w wr
  own : ∀ g, g < w.heap.size → G1.O g = G.O g
  non : ∀ g, g < w.heap.size → fre (G.O g) → wr.heap[g]? = w.heap[g]?
section
variable {n : Nat} {F : List (List Int)} {s s1 : V.En} {f B b : Nat} {us : List Int} {em : Bool} {G G1 : EG} {US : Value} {w wr : World}
theorem PLoop.drewN (h : PLoop n F s s1 f B b us em G G1 US w wr) (k : Nat) : PLoop n F s s1 f B b us em G G1 US w (wr.drewN k) := ⟨h.run, h.wf, h.inv, h.eng.drewN k, h.fuel, below_drewN h.bel k, h.own, h.non⟩
theorem PLoop.f1 (h : PLoop n F s s1 f B b us em G G1 US w wr) : 1 ≤ f := by have := h.fuel; have := h.wf.tk.le; have := h.wf.hdle; omega
/-- The visit of one literal's clauses ended well: the head goes on. -/
theorem PLoop.next (h : PLoop n F s s1 f B b us em G G1 US w wr) {l x : Int} (hl : s1.tr[s1.hd]? = some l) (hx : -l = x) {r1 : V.En} (hr : V.visitC x (s1.wa x) [] s1 = (r1, true)) {G2 : EG} {w2 : World} (E : EngR w2 B b r1 (fun _ => False) us em G2 US) (hb : Below B w w2) (ho : ∀ g, g < w.heap.size → G2.O g = G.O g) (hno : ∀ g, g < w.heap.size → fre (G.O g) → w2.heap[g]? = w.heap[g]?) :
    PLoop n F s { r1 with hd := s1.hd + 1 } (f - 1) B b us em G G2 US w (w2.setCell ⟨b, 6, none⟩ (.int .i64 ((s1.hd + 1 : Nat) : Int))) := by
  subst hx
  have hf := h.f1
  obtain ⟨f, rfl⟩ : ∃ f', f = f' + 1 := ⟨f - 1, by omega⟩
  obtain ⟨q1, q2, q3⟩ := V.prop_step h.wf h.inv hl _ hr.symm
  obtain ⟨q4, q5⟩ := q3 rfl
  refine ⟨?_, q4, q5, E.setHd _, ?_, hb.setCell E.hb _, ho, fun q hq h0 => (Below.heap_setCell _ _ _ _ (fun e => by have e : q = b := e; have := E.ob; rw [← e, ho q hq] at this; rw [this] at h0; exact h0)).trans (hno q hq h0)⟩
  · rw [h.run, prop_run (n := n) hl hr]; rfl
  · have := h.fuel; show n + 1 < f + 1 - 1 + (s1.hd + 1); omega
theorem PLoop.stop (h : PLoop n F s s1 f B b us em G G1 US w wr) {l x : Int} (hl : s1.tr[s1.hd]? = some l) (hx : -l = x) {r1 : V.En} (hr : V.visitC x (s1.wa x) [] s1 = (r1, false)) : V.propF (n + 2) s = (r1, false) := by
  subst hx
  have hf := h.f1
  obtain ⟨f, rfl⟩ : ∃ f', f = f' + 1 := ⟨f - 1, by omega⟩
  rw [h.run, prop_run (n := n) hl hr]; rfl
end
set_option maxRecDepth 100000 in
set_option maxHeartbeats 4000000 in
theorem pProp_any (B b n : Nat) (F : List (List Int)) (s : V.En) (us : List Int) (em : Bool) (G : EG) (US : Value) (w : World) (h : EngR w B b s (fun _ => False) us em G US) (hW : V.WF n F s) (hI : V.Inv2 s s.hd) (hn : n ≤ 1000000) (hF : F.length ≤ 1000000) :
    Calls Try.prog 16 #[.pointer (some ⟨b, 0, none⟩)] w fun e w' => e = .returned (.bool (V.propF (n + 2) s).2) ∧ ∃ G', EngR w' B b (V.propF (n + 2) s).1 (fun _ => False) us em G' US ∧ KeepN B w w' G G' := by
  have H := Lib.hid h
  have HW := Lib.hid hW
  have HI := Lib.hid hI
  clear h hW hI
  go_enter Try.func16, Try.ntmps16
  go_wp2
  go_loopg [2, 3, 4, 5, 6, 7, 8, 9, 48] (n + 2) (fun gg _ _ _ _ _ _ _ _ _ wr => ∃ (f : Nat) (s1 : V.En) (G1 : EG), f ≤ gg ∧ Aside (PLoop n F s s1 f B b us em G G1 US w wr))
  case atStart => exact ⟨n + 2, s, G, Nat.le_refl _, rfl, HW.out, HI.out, H.out, by omega, Below.refl _ _, fun _ _ => rfl, fun _ _ _ => rfl⟩
  case round =>
    obtain ⟨f, s1, G1, hfg, hv⟩ := hrel
    have HP0 : Hid (PLoop n F s s1 f B b us em G G1 US w wr) := hv
    clear hv
    have R1 : Hid (Row wr b 46 [G1.CL, .map (some G1.mb), US, .bool em, G1.VA, G1.TR, .int .i64 (s1.hd : Int)]) := HP0.out.eng.row
    have k0 := R1.out.cell 0
    have k1 := R1.out.cell 1
    have k2 := R1.out.cell 2
    have k3 := R1.out.cell 3
    have k4 := R1.out.cell 4
    have k5 := R1.out.cell 5
    have k6 := R1.out.cell 6
    have kl := R1.out.lt
    simp only [List.getElem?_cons_zero, List.getElem?_cons_succ] at k0 k1 k2 k3 k4 k5 k6
    by_cases hlt : s1.hd < s1.tr.length
    · have hltz : (s1.hd : Int) < (s1.tr.length : Int) := by omega
      obtain ⟨gt, ct, hTR, hOt, hBt, hgt, hct, hcell, _⟩ := HP0.out.eng.core.tr.at_ hlt
      obtain ⟨l, hl⟩ : ∃ l, s1.tr[s1.hd]? = some l := ⟨_, List.getElem?_eq_getElem hlt⟩
      have HTL : Hid (∀ _ : Unit, s1.tr[s1.hd]? = some l) := fun _ => hl
      have z0 : wr.cell? ⟨gt, s1.hd, none⟩ = some (.int .i64 l) := hcell _ _ (by simp [ints, hl])
      have hLL := HP0.out.wf.tk.lits l (List.mem_of_getElem? hl)
      have hl1 := hLL.2.1
      have hl2 := hLL.2.2
      obtain ⟨x, hx⟩ : ∃ x, -l = x := ⟨_, rfl⟩
      have HXL : Hid (∀ _ : Unit, -l = x) := fun _ => hx
      have hlw : IntKind.i64.wrap (-l) = x := (IntWalk.i64_in _ (by omega)).trans hx
      have HX : Hid (V.lit n x) := hx ▸ hLL.neg
      have HT : Hid (-x ∈ s1.tr) := by show _ ∈ _; rw [← hx, Int.neg_neg]; exact List.mem_of_getElem? hl
      rw [hTR] at k5
      clear hcell hl hTR hLL hl1 hl2 hx
      go_upto_region 1 with fail
      go_quiet (fail)
      have HP1 : Hid (PLoop n F s s1 f B b us em G G1 US w (wr.drewN nq)) := HP0.out.drewN nq
      have hz : (wr.drewN nq).cell? ⟨gt, s1.hd, none⟩ = some (.int .i64 l) := z0
      have hk5 : (wr.drewN nq).cell? ⟨b, 5, none⟩ = some (.slice (some ⟨gt, 0, none⟩) s1.tr.length ct) := k5
      have hk6 : (wr.drewN nq).cell? ⟨b, 6, none⟩ = some (.int .i64 (s1.hd : Int)) := k6
      clear HP0 z0 k0 k1 k2 k3 k4 k5 k6 kl R1
      revert HP1 hz hk5 hk6
      generalize wr.drewN nq = w2
      intro HP1 z0 k5 k6
      go_upto_region 3 with fail
      go_quiet (fail)
      have HP : Hid (PLoop n F s s1 f B b us em G G1 US w (w2.drewN nq)) := HP1.out.drewN nq
      clear HP1 z0 k5 k6 hlw
      revert HP
      generalize w2.drewN nq = w3
      intro HP
      have R3 : Hid (Row w3 b 46 [G1.CL, .map (some G1.mb), US, .bool em, G1.VA, G1.TR, .int .i64 (s1.hd : Int)]) := HP.out.eng.row
      have hlk0 := HP.out.eng.core.mp.lookup int_keyedV Try.underlying43 (Try.zeroValue26 w3) (keyV x (lit_wf hn HX.out))
      have hwl := HP.out.wf.wle x
      have k0 := R3.out.cell 0
      have k1 := R3.out.cell 1
      have k2 := R3.out.cell 2
      have k3 := R3.out.cell 3
      have k4 := R3.out.cell 4
      have k5 := R3.out.cell 5
      have k6 := R3.out.cell 6
      have kl := R3.out.lt
      simp only [List.getElem?_cons_zero, List.getElem?_cons_succ] at k0 k1 k2 k3 k4 k5 k6
      have hH := Lib.hid (HP.out.eng.core.wt x id)
      have hdb : (s1.hd : Int) ≤ 1000002 := by have := HP.out.wf.tk.le; omega
      rcases hH.out.1.2 with ⟨hf0, hl0⟩ | ⟨g, c, cur, hf, hgB, hgh, hnc, hcm, hcs, hct⟩
      · have hw0 : s1.wa x = [] := List.eq_nil_of_length_eq_zero hl0
        have HW0 : Hid (∀ _ : Unit, s1.wa x = []) := fun _ => hw0
        rw [hf0] at hlk0
        clear hf0 hl0 hw0 hH hwl
        go_wp2_with fail
        clear k0 k1 k2 k3 k4 k5 k6 kl hlk0 R3
        go_loopg [5, 6, 7, 8, 9, 48] 1 (fun gg s5 _ _ _ _ s48 wq => s48 = .int .i64 0 ∧ s5 = .slice none 0 0 ∧ w3 = wq)
        case atStart => exact ⟨rfl, rfl, rfl⟩
        case round =>
          obtain ⟨rfl, rfl, rfl⟩ := hrel
          have HEQ : Hid (EngR w3 B b s1 (fun _ => False) us em G1 US) := HP.out.eng
          have R3 : Hid (Row w3 b 46 [G1.CL, .map (some G1.mb), US, .bool em, G1.VA, G1.TR, .int .i64 (s1.hd : Int)]) := HP.out.eng.row
          have k0 := R3.out.cell 0
          have k1 := R3.out.cell 1
          have k2 := R3.out.cell 2
          have k3 := R3.out.cell 3
          have k4 := R3.out.cell 4
          have k5 := R3.out.cell 5
          have k6 := R3.out.cell 6
          have kl := R3.out.lt
          simp only [List.getElem?_cons_zero, List.getElem?_cons_succ] at k0 k1 k2 k3 k4 k5 k6
          go_upto_region 2 with (first | (at_mapUpdate; refine wpList_mapUpd rfl (.tmp 83) (.tmp 84) (.tmp 85) rfl HEQ.out.core.mp int_keyedV Try.underlying43 rfl (keyV x (lit_wf hn HX.out)) rfl (.slice none 0 0) rfl ?_; intro w7 hm7 hg7; have HM7 := Lib.hid hm7; have HG7 := Lib.hid hg7; clear hm7 hg7) | fail)
          have E7 : EngR w7 B b { s1 with wa := V.upd s1.wa x [] } (fun _ => False) us em { G1 with fn := updV G1.fn x (.slice none 0 0) } US := (HEQ.out.mapUpd (l := []) Hd.nil HM7.out HG7.out).weak (fun _ q => q.1)
          have B7 : Hid (Below B w w7) := map_below HG7.out HEQ.out.core.hmb (Nat.le_trans HEQ.out.hb (Nat.le_of_lt HEQ.out.row.lt)) HP.out.bel
          have hrun : V.visitC x (s1.wa x) [] s1 = ({ s1 with wa := V.upd s1.wa x [] }, true) := by rw [HW0.out ()]; rfl
          have hN7 : ∀ q, q < w.heap.size → fre (G.O q) → w7.heap[q]? = w.heap[q]? := fun q hq h0 => (HG7.out.block q (Nat.lt_of_lt_of_le hq HP.out.bel.size) (fun e => by injection e with e; have := HEQ.out.core.om; rw [← e, HP.out.own q hq] at this; rw [this] at h0; exact h0)).trans (HP.out.non q hq h0)
          have HN := Lib.hid (HP.out.next (HTL.out ()) (HXL.out ()) hrun E7 B7.out HP.out.own hN7)
          clear hN7
          have R7 : Hid (Row w7 b 46 [G1.CL, .map (some G1.mb), US, .bool em, G1.VA, G1.TR, .int .i64 (s1.hd : Int)]) := E7.row
          have hf1 := HP.out.f1
          clear k0 k1 k2 k3 k4 k5 k6 kl R3 E7 hrun
          have k0 := R7.out.cell 0
          have k1 := R7.out.cell 1
          have k2 := R7.out.cell 2
          have k3 := R7.out.cell 3
          have k4 := R7.out.cell 4
          have k5 := R7.out.cell 5
          have k6 := R7.out.cell 6
          have kl := R7.out.lt
          simp only [List.getElem?_cons_zero, List.getElem?_cons_succ] at k0 k1 k2 k3 k4 k5 k6
          have kf0 := R7.out.frozen 0
          have kf1 := R7.out.frozen 1
          have kf2 := R7.out.frozen 2
          have kf3 := R7.out.frozen 3
          have kf4 := R7.out.frozen 4
          have kf5 := R7.out.frozen 5
          have kf6 := R7.out.frozen 6
          go_wp2_with fail
          go_roundg (f - 1)
          case measure => omega
          case rel => exact ⟨f - 1, _, _, Nat.le_refl _, HN.out⟩
      · have HF := Lib.hid hf
        rw [hf] at hlk0
        have hgo := Lib.hid (hH.out.2 g (by rw [hf]; rfl))
        have hV : Hid (VR w3 w3 B b n F s1 s1 x us em G1 G1 US g c 0 [] cur.toList) := ⟨by simp, HP.out.eng.weak (fun _ q => q.elim), HF.out, hgo.out, hgB, by unfold Row; simpa using hgh, by simpa using hcs, hcm, by simp [nats, ints], fun j _ hj => by
            have h1 : (nats (s1.wa x))[j]? = some _ := nats_get _ _ hj
            rw [← hct, List.getElem?_take_of_lt (by omega)] at h1; exact h1, Nat.zero_le _, hnc, by rw [List.nil_append, List.drop_zero, V.upd_self]; exact HP.out.wf, HT.out, Below.refl _ _, fun _ _ => rfl, fun _ _ _ => rfl⟩
        clear hf hct hgh hH
        go_wp2_with fail
        clear k0 k1 k2 k3 k4 k5 k6 kl hlk0 R3
        have hV0 := Lib.hid hV.out
        clear hV
        go_loopg [5, 6, 7, 8, 9, 48] (s1.wa x).length (fun gg s5 _ _ _ _ s48 wq => ∃ (i : Nat) (kept : List Nat) (s2 : V.En) (G2 : EG) (cells : List Value), i ≤ (s1.wa x).length ∧ (s1.wa x).length - i ≤ gg ∧ s48 = .int .i64 i ∧ s5 = .slice (some ⟨g, 0, none⟩) kept.length c ∧ Aside (VR w3 wq B b n F s1 s2 x us em G1 G2 US g c i kept cells))
        case atStart => exact ⟨0, [], s1, G1, cur.toList, Nat.zero_le _, by omega, rfl, rfl, hV0.out⟩
        case round =>
          rename World => wq
          obtain ⟨i, kept, s2, G2, cells, hin, hgg, rfl, rfl, hv⟩ := hrel
          have HV : Hid (VR w3 wq B b n F s1 s2 x us em G1 G2 US g c i kept cells) := hv
          clear hv hV0
          by_cases hlt : i < (s1.wa x).length
          · have hltz : (i : Int) < ((s1.wa x).length : Int) := by omega
            obtain ⟨k, hk⟩ : ∃ k, (s1.wa x).getD i 0 = k := ⟨_, rfl⟩
            have HK : Hid (∀ _ : Unit, (s1.wa x).getD i 0 = k) := fun _ => hk
            have hwf1 : V.WF n F { s2 with wa := V.upd s2.wa x (kept ++ k :: (s1.wa x).drop (i + 1)) } := by have := HV.out.wf; rw [HV.out.dropK hlt, hk] at this; exact this
            have hone : V.Out1 n F s2 x kept ((s1.wa x).drop (i + 1)) k (V.visit1 x k s2) := by
              obtain ⟨c0, a, tl, hS⟩ := V.step_facts hwf1
              exact V.one_out (hwf1.tk.rng a hS.la) hS
            have HPV := pVisit_any B b n F s2 x kept ((s1.wa x).drop (i + 1)) k us em G2 US wq HV.out.eng hwf1 hn hF
            have oc : wq.cell? ⟨g, i, none⟩ = some (.int .i64 (k : Nat)) := (HV.out.row.cell i).trans ((HV.out.rc i (Nat.le_refl _) hlt).trans (by rw [hk]))
            revert hone HPV
            generalize V.visit1 x k s2 = v
            obtain ⟨s3, mv, ok⟩ := v
            intro hone HPV
            have HONE := Lib.hid hone
            have HPV2 := Lib.hid HPV
            clear hone HPV hk hwf1
            go_wp2_with fail
            refine HPV2.out.mono ?_
            rintro e w4 ⟨G3, rfl, hE3, hK3⟩
            have HE3 : Hid (EngR w4 B b s3 (fun z => z = x) us em G3 US) := hE3
            have HK3 := Lib.hid hK3
            have RO4 : Hid (Row w4 g 3 cells) := (hK3.oth g HV.out.row.lt (.inl HV.out.og)).trans HV.out.row
            have HNO4 : Hid (∀ q, q < w3.heap.size → fre (G1.O q) → w4.heap[q]? = w3.heap[q]?) := fun q hq h0 => (hK3.oth q (Nat.lt_of_lt_of_le hq HV.out.bel.size) (.inr (by rw [HV.out.own q hq]; exact h0))).trans (HV.out.non q hq h0)
            have HBW4 : Hid (Below B w3 w4) := HV.out.bel.trans hK3.below
            have HOG : Hid (G3.O g = .watch x) := (hK3.own g HV.out.row.lt).trans HV.out.og
            have HFN : Hid (∀ _ : Unit, G3.fn x = G2.fn x) := fun _ => hK3.fn
            have HOW : Hid (∀ q, q < w3.heap.size → G3.O q = G1.O q) := fun q hq => (hK3.own q (Nat.lt_of_lt_of_le hq HV.out.bel.size)).trans (HV.out.own q hq)
            clear hE3 hK3 oc HPV2
            cases mv with
            | true =>
              obtain ⟨hok, hvis, hwf3⟩ := HONE.out.moved rfl
              have hok' : ok = true := hok
              subst hok'
              have HVIS : Hid (∀ _ : Unit, V.visitC x (k :: (s1.wa x).drop (i + 1)) kept s2 = V.visitC x ((s1.wa x).drop (i + 1)) kept s3) := fun _ => hvis
              have HWF3 := Lib.hid hwf3
              clear hok hvis hwf3
              go_wp2_with fail
              go_roundg ((s1.wa x).length - (i + 1))
              case measure => omega
              case rel =>
                refine ⟨i + 1, kept, s3, G3, cells, by omega, by omega, by go_num, rfl, HV.out.onMoved ?_ HE3.out HWF3.out (HONE.out.ext _ HV.out.xt) RO4.out HBW4.out (HFN.out ()) HOG.out HOW.out HNO4.out⟩
                rw [HV.out.eq, HV.out.dropK hlt, HK.out (), HVIS.out ()]
            | false =>
              obtain ⟨hwf3, hgood, hbad⟩ := HONE.out.kept rfl
              have HWF3 := Lib.hid hwf3
              have HGOOD := Lib.hid hgood
              have HBAD0 := Lib.hid hbad
              clear hwf3 hgood hbad
              have hX := HV.out.keepRow hlt k
              have hnews : ∀ (j : Nat) (u : Value), [Value.int .i64 (k : Int)][j]? = some u → (w4.alloc (.cells #[.int .i64 (k : Int)] 3)).cell? ((⟨w4.heap.size, 0, none⟩ : Addr).add j) = some u := fun j u hu => by
                rw [add_zero_off, World.cell?_alloc_new]; simpa using hu
              have hclen := HV.out.clen
              have hroom : kept.length + 1 ≤ c := by have := HV.out.kl; have := HV.out.nc; omega
              have Hnews := Lib.hid hnews
              have HX2 := Lib.hid hX
              clear hX hnews
              cases ok with
              | true =>
                have HG2 : Hid (V.visitC x (k :: (s1.wa x).drop (i + 1)) kept s2 = V.visitC x ((s1.wa x).drop (i + 1)) (kept ++ [k]) s3) := HGOOD.out rfl
                clear HGOOD HBAD0
                go_wp2_with (first | (at_builtin; refine wpList_room rfl (.tmp 62) (.tmp 64) 26 rfl 3 (.int .i64 0) 8 Try.underlying26 int_infoV g kept.length c cells rfl (RO4.out.alloc _) hclen (⟨w4.heap.size, 0, none⟩) 1 1 [.int .i64 (k : Int)] rfl rfl Hnews.out (by intro u hu; simp at hu; subst hu; rfl) hroom ?_) | fail)
                go_roundg ((s1.wa x).length - (i + 1))
                case measure => omega
                case rel =>
                  refine ⟨i + 1, kept ++ [k], s3, G3, cells.take kept.length ++ Value.int .i64 (k : Int) :: cells.drop (kept.length + 1), by omega, by omega, by go_num, by simp, ?_⟩
                  have hkk := HV.out.keepRow hlt k
                  have hB : B ≤ w4.heap.size := Nat.le_trans HV.out.gB (Nat.le_of_lt RO4.out.lt)
                  exact ⟨by rw [HV.out.eq, HV.out.dropK hlt, HK.out (), HG2.out], (HE3.out.alloc _).growW (setRow_grownV _ _ _) HOG.out rfl, by rw [HFN.out ()]; exact HV.out.fn, HOG.out, HV.out.gB, (RO4.out.alloc _).setRowV _, hkk.2.1, HV.out.cmax, hkk.1, hkk.2.2, by have := HV.out.kl; simp; omega, HV.out.nc, HWF3.out, HONE.out.ext _ HV.out.xt,
                    (HBW4.out.alloc hB _).grown (setRow_grownV _ _ _) (by simp; omega) (fun k e => by cases e; exact HV.out.gB), HOW.out, fun q hq h0 => ((setRow_grownV _ _ _).block q (by simp; have := HBW4.out.size; omega) (fun e => by injection e with e; have := HOG.out; rw [← e, HOW.out q hq] at this; rw [this] at h0; exact h0)).trans ((Below.heap_alloc _ _ _ (Nat.lt_of_lt_of_le hq HBW4.out.size)).trans (HNO4.out q hq h0))⟩
              | false =>
                have HBAD : Hid (V.visitC x (k :: (s1.wa x).drop (i + 1)) kept s2 = ({ s3 with wa := V.upd s3.wa x (kept ++ [k] ++ (s1.wa x).drop (i + 1)) }, false)) := HBAD0.out rfl
                clear HBAD0 HGOOD
                go_upto_region 13 with (first | (at_builtin; refine wpList_room rfl (.tmp 62) (.tmp 64) 26 rfl 3 (.int .i64 0) 8 Try.underlying26 int_infoV g kept.length c cells rfl (RO4.out.alloc _) hclen (⟨w4.heap.size, 0, none⟩) 1 1 [.int .i64 (k : Int)] rfl rfl Hnews.out (by intro u hu; simp at hu; subst hu; rfl) hroom ?_) | fail)
                have HE5 : Hid (EngR ((w4.alloc (.cells #[.int .i64 (k : Int)] 3)).setRow g (cells.take kept.length ++ Value.int .i64 (k : Int) :: cells.drop (kept.length + 1)).toArray) B b s3 (fun z => z = x) us em G3 US) := (HE3.out.alloc _).growW (setRow_grownV _ _ _) HOG.out rfl
                have RO5 : Hid (Row ((w4.alloc (.cells #[.int .i64 (k : Int)] 3)).setRow g (cells.take kept.length ++ Value.int .i64 (k : Int) :: cells.drop (kept.length + 1)).toArray) g 3 (cells.take kept.length ++ Value.int .i64 (k : Int) :: cells.drop (kept.length + 1))) := (RO4.out.alloc _).setRowV _
                have HBW5 : Hid (Below B w3 ((w4.alloc (.cells #[.int .i64 (k : Int)] 3)).setRow g (cells.take kept.length ++ Value.int .i64 (k : Int) :: cells.drop (kept.length + 1)).toArray)) := (HBW4.out.alloc (by have := RO4.out.lt; have := HV.out.gB; omega) _).grown (setRow_grownV _ _ _) (by have := RO4.out.lt; have := HV.out.gB; simp; omega) (fun q e => by cases e; exact HV.out.gB)
                have HNO5 : Hid (∀ q, q < w3.heap.size → fre (G1.O q) → ((w4.alloc (.cells #[.int .i64 (k : Int)] 3)).setRow g (cells.take kept.length ++ Value.int .i64 (k : Int) :: cells.drop (kept.length + 1)).toArray).heap[q]? = w3.heap[q]?) := fun q hq h0 => ((setRow_grownV _ _ _).block q (by simp; have := HBW4.out.size; omega) (fun e => by injection e with e; have := HOG.out; rw [← e, HOW.out q hq] at this; rw [this] at h0; exact h0)).trans ((Below.heap_alloc _ _ _ (Nat.lt_of_lt_of_le hq HBW4.out.size)).trans (HNO4.out q hq h0))
                clear HE3 RO4 HBW4 Hnews HNO4
                revert HE5 RO5 HBW5 HNO5
                generalize (w4.alloc (.cells #[.int .i64 (k : Int)] 3)).setRow g (cells.take kept.length ++ Value.int .i64 (k : Int) :: cells.drop (kept.length + 1)).toArray = w5
                intro HE5 RO5 HBW5 HNO5
                have R5 : Hid (Row w5 b 46 [G3.CL, .map (some G3.mb), US, .bool em, G3.VA, G3.TR, .int .i64 (s3.hd : Int)]) := HE5.out.row
                have k0 := R5.out.cell 0
                have k1 := R5.out.cell 1
                have k2 := R5.out.cell 2
                have k3 := R5.out.cell 3
                have k4 := R5.out.cell 4
                have k5 := R5.out.cell 5
                have k6 := R5.out.cell 6
                have kl := R5.out.lt
                simp only [List.getElem?_cons_zero, List.getElem?_cons_succ] at k0 k1 k2 k3 k4 k5 k6
                have hN := HV.out.nc
                have HNE : Hid (b ≠ g) := fun e => by have := HE5.out.ob; rw [e, HOG.out] at this; cases this
                have hcl5 := HX2.out.2.1
                have hHN : Hid (∀ (j : Nat) (u : Value), (nats ((s1.wa x).drop (i + 1)))[j]? = some u → w5.cell? ⟨g, i + 1 + j, none⟩ = some u) := fun j u hu => by
                  obtain ⟨h1, rfl⟩ := nats_rest _ _ _ _ hu
                  rw [RO5.out.cell]
                  exact HX2.out.2.2 _ (by omega) h1
                have hHL : Hid ((nats ((s1.wa x).drop (i + 1))).length = (s1.wa x).length - (i + 1)) := by show _ = _; simp
                have hkn : kept.length + 1 + ((s1.wa x).length - (i + 1)) ≤ c := by have := HV.out.kl; omega
                have hH1 : Hid (∀ u ∈ nats ((s1.wa x).drop (i + 1)), u.oneCell' = true) := ints_one _
                by_cases hce : c = i + 1
                · have HCE : Hid (∀ _ : Unit, c = i + 1) := fun _ => hce
                  have hce3 : ((i : Int) + 1) ≤ ((s1.wa x).length : Int) := by omega
                  have hcw : IntKind.i64.wrap ((i : Int) + 1) = (i : Int) + 1 := IntWalk.i64_in _ (by omega)
                  have hct : ((i : Int) + 1).toNat = i + 1 := by omega
                  have hcf : (c = i + 1) = True := by simp; omega
                  have hc0 : (0 : Int) ≤ (i : Int) + 1 := by omega
                  clear hce
                  refine wp_region_L (fun w' => w'.cell? ⟨b, 1, none⟩ = some (.map (some G3.mb))) [11] (by kernel_rfl) (by exact k1) (fun hHeld => ?_)
                  refine restL_pure (i := 0) (v := ?vd1) rfl (by kernel_rfl) (by kernel_rfl) (by kernel_rfl) (fun _ _ _ h => h) (Or.inl ⟨by rfl, ?yd1⟩) ?rd1
                  case yd1 => intro w' hSw; clear hSw; go_simp; try (with_reducible rfl)
                  go_simp
                  refine restL_pure (i := 1) (v := ?vd2) rfl (by kernel_rfl) (by kernel_rfl) (by kernel_rfl) (fun _ _ _ h => h) (Or.inl ⟨by rfl, ?yd2⟩) ?rd2
                  case yd2 => intro w' hSw; clear hSw; go_simp; try (with_reducible rfl)
                  go_simp
                  refine restL_pure (i := 2) (v := ?vd3) rfl (by kernel_rfl) (by kernel_rfl) (by kernel_rfl) (fun _ _ _ h => h) (Or.inl ⟨by rfl, ?yd3⟩) ?rd3
                  case yd3 => intro w' hSw; clear hSw; go_simp; try (with_reducible rfl)
                  go_simp
                  refine restL_pure (i := 4) (v := ?vd4) rfl (by kernel_rfl) (by kernel_rfl) (by kernel_rfl) (fun _ _ _ h => h) (Or.inl ⟨by rfl, ?yd4⟩) ?rd4
                  case yd4 => intro w' hSw; clear hSw; go_simp; try (with_reducible rfl)
                  go_simp
                  refine restL_pure (i := 5) (v := ?vd5) rfl (by kernel_rfl) (by kernel_rfl) (by kernel_rfl) (fun _ _ _ h => h) (Or.inl ⟨by rfl, ?yd5⟩) ?rd5
                  case yd5 => intro w' hSw; clear hSw; go_simp; try (with_reducible rfl)
                  go_simp
                  refine restL_pure (i := 6) (v := ?vd6) rfl (by kernel_rfl) (by kernel_rfl) (by kernel_rfl) (fun _ _ _ h => h) (Or.inl ⟨by rfl, ?yd6⟩) ?rd6
                  case yd6 => intro w' hSw; clear hSw; go_simp; try (with_reducible rfl)
                  go_simp
                  refine restL_pure (i := 7) (v := ?vd7) rfl (by kernel_rfl) (by kernel_rfl) (by kernel_rfl) (fun _ _ _ h => h) (Or.inl ⟨by rfl, ?yd7⟩) ?rd7
                  case yd7 => intro w' hSw; clear hSw; go_simp; try (with_reducible rfl)
                  go_simp
                  refine restL_pure (i := 8) (v := ?vd8) rfl (by kernel_rfl) (by kernel_rfl) (by kernel_rfl) (fun _ _ _ h => h) (Or.inl ⟨by rfl, ?yd8⟩) ?rd8
                  case yd8 => intro w' hSw; clear hSw; go_simp; try (with_reducible rfl)
                  go_simp
                  refine restL_take (i := 3) (v := ?vd9) [[11]] rfl (by kernel_rfl) (by kernel_rfl) (by kernel_rfl) (by kernel_rfl) (fun _ _ _ h => h) (Or.inl ⟨by rfl, ?yd9⟩) hHeld ?rd9
                  case yd9 =>
                    intro w' hSw
                    have q1 := hSw
                    go_simp
                    try (with_reducible rfl)
                  go_simp
                  refine restL_take (i := 9) (v := ?vd10) [[11]] rfl (by kernel_rfl) (by kernel_rfl) (by kernel_rfl) (by kernel_rfl) (fun _ _ _ h => h) (Or.inl ⟨by rfl, ?yd10⟩) hHeld ?rd10
                  case yd10 =>
                    intro w' hSw
                    have q1 := hSw
                    go_simp
                    try (with_reducible rfl)
                  go_simp
                  refine restL_one (i := 10) (by kernel_rfl) rfl (fun K hK => ?_)
                  refine step_room rfl (.tmp 73) (.tmp 77) 26 rfl 3 (.int .i64 0) 8 Try.underlying26 int_infoV g (kept.length + 1) c (cells.take kept.length ++ Value.int .i64 (k : Int) :: cells.drop (kept.length + 1)) rfl RO5.out hcl5 ⟨g, 0, none⟩ ((s1.wa x).length - (i + 1)) _ (nats ((s1.wa x).drop (i + 1))) rfl hHL.out (fun j u hu => absurd (nats_rest _ _ _ _ hu).1 (by have := HCE.out (); omega)) hH1.out hkn ?_
                  have HEW : Hid (EngR (World.setRow (World.drew w5) g ((cells.take kept.length ++ Value.int .i64 (k : Int) :: cells.drop (kept.length + 1)).take (kept.length + 1) ++ nats ((s1.wa x).drop (i + 1)) ++ (cells.take kept.length ++ Value.int .i64 (k : Int) :: cells.drop (kept.length + 1)).drop (kept.length + 1 + ((s1.wa x).length - (i + 1)))).toArray) B b s3 (fun z => z = x) us em G3 US) := HE5.out.drew.growW (setRow_grownV _ _ _) HOG.out rfl
                  have ROW : Hid (Row (World.setRow (World.drew w5) g ((cells.take kept.length ++ Value.int .i64 (k : Int) :: cells.drop (kept.length + 1)).take (kept.length + 1) ++ nats ((s1.wa x).drop (i + 1)) ++ (cells.take kept.length ++ Value.int .i64 (k : Int) :: cells.drop (kept.length + 1)).drop (kept.length + 1 + ((s1.wa x).length - (i + 1)))).toArray) g 3 ((cells.take kept.length ++ Value.int .i64 (k : Int) :: cells.drop (kept.length + 1)).take (kept.length + 1) ++ nats ((s1.wa x).drop (i + 1)) ++ (cells.take kept.length ++ Value.int .i64 (k : Int) :: cells.drop (kept.length + 1)).drop (kept.length + 1 + ((s1.wa x).length - (i + 1))))) := (show Row (World.drew w5) g 3 (cells.take kept.length ++ Value.int .i64 (k : Int) :: cells.drop (kept.length + 1)) from RO5.out).setRowV _
                  have HBF : Hid (Below B w3 (World.setRow (World.drew w5) g ((cells.take kept.length ++ Value.int .i64 (k : Int) :: cells.drop (kept.length + 1)).take (kept.length + 1) ++ nats ((s1.wa x).drop (i + 1)) ++ (cells.take kept.length ++ Value.int .i64 (k : Int) :: cells.drop (kept.length + 1)).drop (kept.length + 1 + ((s1.wa x).length - (i + 1)))).toArray)) := HBW5.out.drew.grown (setRow_grownV _ _ _) (by have := RO5.out.lt; have := HV.out.gB; show B ≤ w5.heap.size; omega) (fun q e => by cases e; exact HV.out.gB)
                  have HKP : Hid (World.cell? (World.setRow (World.drew w5) g ((cells.take kept.length ++ Value.int .i64 (k : Int) :: cells.drop (kept.length + 1)).take (kept.length + 1) ++ nats ((s1.wa x).drop (i + 1)) ++ (cells.take kept.length ++ Value.int .i64 (k : Int) :: cells.drop (kept.length + 1)).drop (kept.length + 1 + ((s1.wa x).length - (i + 1)))).toArray) ⟨b, 1, none⟩ = some (.map (some G3.mb))) := (cell_setRow_other _ _ _ _ HNE.out).trans k1
                  have HNF : Hid (∀ q, q < w3.heap.size → fre (G1.O q) → (World.setRow (World.drew w5) g ((cells.take kept.length ++ Value.int .i64 (k : Int) :: cells.drop (kept.length + 1)).take (kept.length + 1) ++ nats ((s1.wa x).drop (i + 1)) ++ (cells.take kept.length ++ Value.int .i64 (k : Int) :: cells.drop (kept.length + 1)).drop (kept.length + 1 + ((s1.wa x).length - (i + 1)))).toArray).heap[q]? = w3.heap[q]?) := fun q hq h0 => ((setRow_grownV _ _ _).block q (by show q < w5.heap.size; have := HBW5.out.size; omega) (fun e => by injection e with e; have := HOG.out; rw [← e, HOW.out q hq] at this; rw [this] at h0; exact h0)).trans (HNO5.out q hq h0)
                  revert HEW ROW HBF HKP HNF
                  generalize (World.setRow (World.drew w5) g ((cells.take kept.length ++ Value.int .i64 (k : Int) :: cells.drop (kept.length + 1)).take (kept.length + 1) ++ nats ((s1.wa x).drop (i + 1)) ++ (cells.take kept.length ++ Value.int .i64 (k : Int) :: cells.drop (kept.length + 1)).drop (kept.length + 1 + ((s1.wa x).length - (i + 1)))).toArray) = wW
                  intro HEW ROW HBF HKP HNF
                  refine hK.out _ _ (fun _ => ?keep) (fun hHeld => ?_)
                  case keep => exact HKP.out
                  have hHeld := hHeld rfl
                  clear hK K
                  try go_simp
                  refine restL_one (i := 11) (by kernel_rfl) rfl (fun K hK => ?_)
                  refine step_mapUpd rfl (.tmp 71) (.tmp 72) (.tmp 78) rfl HEW.out.core.mp int_keyedV Try.underlying43 rfl (keyV x (lit_wf hn HX.out)) rfl (.slice (some ⟨g, 0, none⟩) (kept.length + 1 + ((s1.wa x).length - (i + 1))) c) rfl ?_
                  intro w7 hm7 hg7
                  have HM7 := Lib.hid hm7
                  have HG7 := Lib.hid hg7
                  clear hm7 hg7
                  refine hK.out _ _ (fun h => absurd h (by decide)) (fun _ => ?_)
                  clear hK K
                  try go_simp
                  refine restL_done (by kernel_rfl) ?_ _
                  go_wp2_with fail
                  have hll : (kept ++ [k] ++ (s1.wa x).drop (i + 1)).length = kept.length + 1 + ((s1.wa x).length - (i + 1)) := by simp; omega
                  refine bodyPost_ret (v := .bool false) (by simp [results, Try.results16, go_sem]) rfl ?_
                  have hrun : V.visitC x (s1.wa x) [] s1 = ({ s3 with wa := V.upd s3.wa x (kept ++ [k] ++ (s1.wa x).drop (i + 1)) }, false) := by
                    rw [HV.out.eq, HV.out.dropK hlt, HK.out (), HBAD.out]
                  rw [HP.out.stop (HTL.out ()) (HXL.out ()) hrun]
                  rw [← hll] at HM7
                  refine ⟨rfl, _, engR_fin HEW.out ROW.out HV.out.gB (by have := HX2.out.2.1; have := HV.out.kl; simp; omega) HV.out.cmax HOG.out _ (conf_take HX2.out.1 (by simp; have := HX2.out.2.1; simp at this; omega) (by simp)) (by rw [hll]; exact hkn) HM7.out HG7.out, HP.out.bel.trans (map_below HG7.out HEW.out.core.hmb (Nat.le_trans HEW.out.hb (Nat.le_of_lt HEW.out.row.lt)) HBF.out), fun q hq => (HOW.out q (Nat.lt_of_lt_of_le hq HP.out.bel.size)).trans (HP.out.own q hq), fun q hq h0 => ?_⟩
                  have hq3 := Nat.lt_of_lt_of_le hq HP.out.bel.size
                  have h03 : fre (G1.O q) := by rw [HP.out.own q hq]; exact h0
                  exact (HG7.out.block q (Nat.lt_of_lt_of_le hq3 HBF.out.size) (fun e => by injection e with e; have := HEW.out.core.om; rw [← e, HOW.out q hq3] at this; rw [this] at h03; exact h03)).trans ((HNF.out q hq3 h03).trans (HP.out.non q hq h0))
                · have hce1 : i + 1 < c := by omega
                  have hce2 : ((i : Int) + 1) < (c : Int) := by omega
                  have hce3 : ((i : Int) + 1) ≤ ((s1.wa x).length : Int) := by omega
                  have hcw : IntKind.i64.wrap ((i : Int) + 1) = (i : Int) + 1 := IntWalk.i64_in _ (by omega)
                  have hct : ((i : Int) + 1).toNat = i + 1 := by omega
                  have hcf : (c = i + 1) = False := by simp; omega
                  have hc0 : (0 : Int) ≤ (i : Int) + 1 := by omega
                  clear hce
                  refine wp_region_L (fun w' => w'.cell? ⟨b, 1, none⟩ = some (.map (some G3.mb))) [11] (by kernel_rfl) (by exact k1) (fun hHeld => ?_)
                  refine restL_pure (i := 0) (v := ?vc1) rfl (by kernel_rfl) (by kernel_rfl) (by kernel_rfl) (fun _ _ _ h => h) (Or.inl ⟨by rfl, ?yc1⟩) ?rc1
                  case yc1 => intro w' hSw; clear hSw; go_simp; try (with_reducible rfl)
                  go_simp
                  refine restL_pure (i := 1) (v := ?vc2) rfl (by kernel_rfl) (by kernel_rfl) (by kernel_rfl) (fun _ _ _ h => h) (Or.inl ⟨by rfl, ?yc2⟩) ?rc2
                  case yc2 => intro w' hSw; clear hSw; go_simp; try (with_reducible rfl)
                  go_simp
                  refine restL_pure (i := 2) (v := ?vc3) rfl (by kernel_rfl) (by kernel_rfl) (by kernel_rfl) (fun _ _ _ h => h) (Or.inl ⟨by rfl, ?yc3⟩) ?rc3
                  case yc3 => intro w' hSw; clear hSw; go_simp; try (with_reducible rfl)
                  go_simp
                  refine restL_pure (i := 4) (v := ?vc4) rfl (by kernel_rfl) (by kernel_rfl) (by kernel_rfl) (fun _ _ _ h => h) (Or.inl ⟨by rfl, ?yc4⟩) ?rc4
                  case yc4 => intro w' hSw; clear hSw; go_simp; try (with_reducible rfl)
                  go_simp
                  refine restL_pure (i := 5) (v := ?vc5) rfl (by kernel_rfl) (by kernel_rfl) (by kernel_rfl) (fun _ _ _ h => h) (Or.inl ⟨by rfl, ?yc5⟩) ?rc5
                  case yc5 => intro w' hSw; clear hSw; go_simp; try (with_reducible rfl)
                  go_simp
                  refine restL_pure (i := 6) (v := ?vc6) rfl (by kernel_rfl) (by kernel_rfl) (by kernel_rfl) (fun _ _ _ h => h) (Or.inl ⟨by rfl, ?yc6⟩) ?rc6
                  case yc6 => intro w' hSw; clear hSw; go_simp; try (with_reducible rfl)
                  go_simp
                  refine restL_pure (i := 7) (v := ?vc7) rfl (by kernel_rfl) (by kernel_rfl) (by kernel_rfl) (fun _ _ _ h => h) (Or.inl ⟨by rfl, ?yc7⟩) ?rc7
                  case yc7 => intro w' hSw; clear hSw; go_simp; try (with_reducible rfl)
                  go_simp
                  refine restL_pure (i := 8) (v := ?vc8) rfl (by kernel_rfl) (by kernel_rfl) (by kernel_rfl) (fun _ _ _ h => h) (Or.inl ⟨by rfl, ?yc8⟩) ?rc8
                  case yc8 => intro w' hSw; clear hSw; go_simp; try (with_reducible rfl)
                  go_simp
                  refine restL_take (i := 3) (v := ?vc9) [[11]] rfl (by kernel_rfl) (by kernel_rfl) (by kernel_rfl) (by kernel_rfl) (fun _ _ _ h => h) (Or.inl ⟨by rfl, ?yc9⟩) hHeld ?rc9
                  case yc9 =>
                    intro w' hSw
                    have q1 := hSw
                    go_simp
                    try (with_reducible rfl)
                  go_simp
                  refine restL_take (i := 9) (v := ?vc10) [[11]] rfl (by kernel_rfl) (by kernel_rfl) (by kernel_rfl) (by kernel_rfl) (fun _ _ _ h => h) (Or.inl ⟨by rfl, ?yc10⟩) hHeld ?rc10
                  case yc10 =>
                    intro w' hSw
                    have q1 := hSw
                    go_simp
                    try (with_reducible rfl)
                  go_simp
                  refine restL_one (i := 10) (by kernel_rfl) rfl (fun K hK => ?_)
                  refine step_room rfl (.tmp 73) (.tmp 77) 26 rfl 3 (.int .i64 0) 8 Try.underlying26 int_infoV g (kept.length + 1) c (cells.take kept.length ++ Value.int .i64 (k : Int) :: cells.drop (kept.length + 1)) rfl RO5.out hcl5 ⟨g, i + 1, none⟩ ((s1.wa x).length - (i + 1)) _ (nats ((s1.wa x).drop (i + 1))) rfl hHL.out (fun j u hu => by rw [addr_add]; exact hHN.out j u hu) hH1.out hkn ?_
                  have HEW : Hid (EngR (World.setRow (World.drew w5) g ((cells.take kept.length ++ Value.int .i64 (k : Int) :: cells.drop (kept.length + 1)).take (kept.length + 1) ++ nats ((s1.wa x).drop (i + 1)) ++ (cells.take kept.length ++ Value.int .i64 (k : Int) :: cells.drop (kept.length + 1)).drop (kept.length + 1 + ((s1.wa x).length - (i + 1)))).toArray) B b s3 (fun z => z = x) us em G3 US) := HE5.out.drew.growW (setRow_grownV _ _ _) HOG.out rfl
                  have ROW : Hid (Row (World.setRow (World.drew w5) g ((cells.take kept.length ++ Value.int .i64 (k : Int) :: cells.drop (kept.length + 1)).take (kept.length + 1) ++ nats ((s1.wa x).drop (i + 1)) ++ (cells.take kept.length ++ Value.int .i64 (k : Int) :: cells.drop (kept.length + 1)).drop (kept.length + 1 + ((s1.wa x).length - (i + 1)))).toArray) g 3 ((cells.take kept.length ++ Value.int .i64 (k : Int) :: cells.drop (kept.length + 1)).take (kept.length + 1) ++ nats ((s1.wa x).drop (i + 1)) ++ (cells.take kept.length ++ Value.int .i64 (k : Int) :: cells.drop (kept.length + 1)).drop (kept.length + 1 + ((s1.wa x).length - (i + 1))))) := (show Row (World.drew w5) g 3 (cells.take kept.length ++ Value.int .i64 (k : Int) :: cells.drop (kept.length + 1)) from RO5.out).setRowV _
                  have HBF : Hid (Below B w3 (World.setRow (World.drew w5) g ((cells.take kept.length ++ Value.int .i64 (k : Int) :: cells.drop (kept.length + 1)).take (kept.length + 1) ++ nats ((s1.wa x).drop (i + 1)) ++ (cells.take kept.length ++ Value.int .i64 (k : Int) :: cells.drop (kept.length + 1)).drop (kept.length + 1 + ((s1.wa x).length - (i + 1)))).toArray)) := HBW5.out.drew.grown (setRow_grownV _ _ _) (by have := RO5.out.lt; have := HV.out.gB; show B ≤ w5.heap.size; omega) (fun q e => by cases e; exact HV.out.gB)
                  have HKP : Hid (World.cell? (World.setRow (World.drew w5) g ((cells.take kept.length ++ Value.int .i64 (k : Int) :: cells.drop (kept.length + 1)).take (kept.length + 1) ++ nats ((s1.wa x).drop (i + 1)) ++ (cells.take kept.length ++ Value.int .i64 (k : Int) :: cells.drop (kept.length + 1)).drop (kept.length + 1 + ((s1.wa x).length - (i + 1)))).toArray) ⟨b, 1, none⟩ = some (.map (some G3.mb))) := (cell_setRow_other _ _ _ _ HNE.out).trans k1
                  have HNF : Hid (∀ q, q < w3.heap.size → fre (G1.O q) → (World.setRow (World.drew w5) g ((cells.take kept.length ++ Value.int .i64 (k : Int) :: cells.drop (kept.length + 1)).take (kept.length + 1) ++ nats ((s1.wa x).drop (i + 1)) ++ (cells.take kept.length ++ Value.int .i64 (k : Int) :: cells.drop (kept.length + 1)).drop (kept.length + 1 + ((s1.wa x).length - (i + 1)))).toArray).heap[q]? = w3.heap[q]?) := fun q hq h0 => ((setRow_grownV _ _ _).block q (by show q < w5.heap.size; have := HBW5.out.size; omega) (fun e => by injection e with e; have := HOG.out; rw [← e, HOW.out q hq] at this; rw [this] at h0; exact h0)).trans (HNO5.out q hq h0)
                  revert HEW ROW HBF HKP HNF
                  generalize (World.setRow (World.drew w5) g ((cells.take kept.length ++ Value.int .i64 (k : Int) :: cells.drop (kept.length + 1)).take (kept.length + 1) ++ nats ((s1.wa x).drop (i + 1)) ++ (cells.take kept.length ++ Value.int .i64 (k : Int) :: cells.drop (kept.length + 1)).drop (kept.length + 1 + ((s1.wa x).length - (i + 1)))).toArray) = wW
                  intro HEW ROW HBF HKP HNF
                  refine hK.out _ _ (fun _ => ?keep) (fun hHeld => ?_)
                  case keep => exact HKP.out
                  have hHeld := hHeld rfl
                  clear hK K
                  try go_simp
                  refine restL_one (i := 11) (by kernel_rfl) rfl (fun K hK => ?_)
                  refine step_mapUpd rfl (.tmp 71) (.tmp 72) (.tmp 78) rfl HEW.out.core.mp int_keyedV Try.underlying43 rfl (keyV x (lit_wf hn HX.out)) rfl (.slice (some ⟨g, 0, none⟩) (kept.length + 1 + ((s1.wa x).length - (i + 1))) c) rfl ?_
                  intro w7 hm7 hg7
                  have HM7 := Lib.hid hm7
                  have HG7 := Lib.hid hg7
                  clear hm7 hg7
                  refine hK.out _ _ (fun h => absurd h (by decide)) (fun _ => ?_)
                  clear hK K
                  try go_simp
                  refine restL_done (by kernel_rfl) ?_ _
                  go_wp2_with fail
                  have hll : (kept ++ [k] ++ (s1.wa x).drop (i + 1)).length = kept.length + 1 + ((s1.wa x).length - (i + 1)) := by simp; omega
                  refine bodyPost_ret (v := .bool false) (by simp [results, Try.results16, go_sem]) rfl ?_
                  have hrun : V.visitC x (s1.wa x) [] s1 = ({ s3 with wa := V.upd s3.wa x (kept ++ [k] ++ (s1.wa x).drop (i + 1)) }, false) := by
                    rw [HV.out.eq, HV.out.dropK hlt, HK.out (), HBAD.out]
                  rw [HP.out.stop (HTL.out ()) (HXL.out ()) hrun]
                  rw [← hll] at HM7
                  refine ⟨rfl, _, engR_fin HEW.out ROW.out HV.out.gB (by have := HX2.out.2.1; have := HV.out.kl; simp; omega) HV.out.cmax HOG.out _ (conf_take HX2.out.1 (by simp; have := HX2.out.2.1; simp at this; omega) (by simp)) (by rw [hll]; exact hkn) HM7.out HG7.out, HP.out.bel.trans (map_below HG7.out HEW.out.core.hmb (Nat.le_trans HEW.out.hb (Nat.le_of_lt HEW.out.row.lt)) HBF.out), fun q hq => (HOW.out q (Nat.lt_of_lt_of_le hq HP.out.bel.size)).trans (HP.out.own q hq), fun q hq h0 => ?_⟩
                  have hq3 := Nat.lt_of_lt_of_le hq HP.out.bel.size
                  have h03 : fre (G1.O q) := by rw [HP.out.own q hq]; exact h0
                  exact (HG7.out.block q (Nat.lt_of_lt_of_le hq3 HBF.out.size) (fun e => by injection e with e; have := HEW.out.core.om; rw [← e, HOW.out q hq3] at this; rw [this] at h03; exact h03)).trans ((HNF.out q hq3 h03).trans (HP.out.non q hq h0))
          · have hie : i = (s1.wa x).length := by omega
            have hltz : ¬ (i : Int) < ((s1.wa x).length : Int) := by omega
            subst hie
            have HEQ := Lib.hid HV.out.eng
            have R3 : Hid (Row wq b 46 [G2.CL, .map (some G2.mb), US, .bool em, G2.VA, G2.TR, .int .i64 (s2.hd : Int)]) := HV.out.eng.row
            have k0 := R3.out.cell 0
            have k1 := R3.out.cell 1
            have k2 := R3.out.cell 2
            have k3 := R3.out.cell 3
            have k4 := R3.out.cell 4
            have k5 := R3.out.cell 5
            have k6 := R3.out.cell 6
            have kl := R3.out.lt
            simp only [List.getElem?_cons_zero, List.getElem?_cons_succ] at k0 k1 k2 k3 k4 k5 k6
            go_upto_region 2 with (first | (at_mapUpdate; refine wpList_mapUpd rfl (.tmp 83) (.tmp 84) (.tmp 85) rfl HEQ.out.core.mp int_keyedV Try.underlying43 rfl (keyV x (lit_wf hn HX.out)) rfl (.slice (some ⟨g, 0, none⟩) kept.length c) rfl ?_; intro w7 hm7 hg7; have HM7 := Lib.hid hm7; have HG7 := Lib.hid hg7; clear hm7 hg7) | fail)
            have hrun : V.visitC x (s1.wa x) [] s1 = ({ s2 with wa := V.upd s2.wa x kept }, true) := by
              rw [HV.out.eq, List.drop_length]; rfl
            have hhd : s2.hd = s1.hd := by
              have := (V.prop_step HP.out.wf HP.out.inv (HTL.out ()) _ rfl).2.1
              rw [HXL.out (), hrun] at this
              exact this
            have E7 := engR_fin HV.out.eng HV.out.row HV.out.gB HV.out.clen HV.out.cmax HV.out.og _ HV.out.kc (by have := HV.out.kl; have := HV.out.nc; omega) HM7.out HG7.out
            have B7 : Hid (Below B w w7) := HP.out.bel.trans (map_below HG7.out HV.out.eng.core.hmb (Nat.le_trans HV.out.eng.hb (Nat.le_of_lt HV.out.eng.row.lt)) HV.out.bel)
            have hN7 : ∀ q, q < w.heap.size → fre (G.O q) → w7.heap[q]? = w.heap[q]? := fun q hq h0 => by
              have hq3 := Nat.lt_of_lt_of_le hq HP.out.bel.size
              have h03 : fre (G1.O q) := by rw [HP.out.own q hq]; exact h0
              exact (HG7.out.block q (Nat.lt_of_lt_of_le hq3 HV.out.bel.size) (fun e => by injection e with e; have := HV.out.eng.core.om; rw [← e, HV.out.own q hq3] at this; rw [this] at h03; exact h03)).trans ((HV.out.non q hq3 h03).trans (HP.out.non q hq h0))
            have HN := Lib.hid (HP.out.next (HTL.out ()) (HXL.out ()) hrun E7 B7.out (fun q hq => (HV.out.own q (Nat.lt_of_lt_of_le hq HP.out.bel.size)).trans (HP.out.own q hq)) hN7)
            clear hN7
            have R7 : Hid (Row w7 b 46 [G2.CL, .map (some G2.mb), US, .bool em, G2.VA, G2.TR, .int .i64 (s1.hd : Int)]) := by
              have := E7.row
              simp only [hhd] at this
              exact this
            have hf1 := HP.out.f1
            clear k0 k1 k2 k3 k4 k5 k6 kl R3 E7 hrun hhd
            have k0 := R7.out.cell 0
            have k1 := R7.out.cell 1
            have k2 := R7.out.cell 2
            have k3 := R7.out.cell 3
            have k4 := R7.out.cell 4
            have k5 := R7.out.cell 5
            have k6 := R7.out.cell 6
            have kl := R7.out.lt
            simp only [List.getElem?_cons_zero, List.getElem?_cons_succ] at k0 k1 k2 k3 k4 k5 k6
            have kf0 := R7.out.frozen 0
            have kf1 := R7.out.frozen 1
            have kf2 := R7.out.frozen 2
            have kf3 := R7.out.frozen 3
            have kf4 := R7.out.frozen 4
            have kf5 := R7.out.frozen 5
            have kf6 := R7.out.frozen 6
            go_wp2_with fail
            go_roundg (f - 1)
            case measure => omega
            case rel => exact ⟨f - 1, _, _, Nat.le_refl _, HN.out⟩
    · have hle : s1.tr.length ≤ s1.hd := by omega
      have hltz : ¬ (s1.hd : Int) < (s1.tr.length : Int) := by omega
      obtain ⟨AT, ct, hTR, _⟩ := HP0.out.eng.core.tr.rd
      rw [hTR] at k5
      have hrun : V.propF (n + 2) s = (s1, true) := HP0.out.run.trans (prop_stop hle)
      have HRUN : Hid (∀ _ : Unit, V.propF (n + 2) s = (s1, true)) := fun _ => hrun
      clear hTR hrun hle
      go_upto_region 1 with fail
      go_quiet (fail)
      go_wp2
      go_ret
      rw [HRUN.out ()]
      exact ⟨rfl, G1, HP0.out.eng.drewN nq, below_drewN HP0.out.bel nq, HP0.out.own, HP0.out.non⟩
end Go.Proofs.Ytbomfekfebamkaa

/-
  solve's engine: what going back and deciding do to it in memory.
-/
namespace Go.Proofs.Ytbomfekfebamkaa
open Go.RowKit Go.Maps
set_option linter.unusedSimpArgs false
set_option linter.unusedVariables false
section
variable {w w' : World} {O : Nat → Ow} {B b : Nat} {s : V.En} {X : Int → Prop} {de : List V.Dec} {bad : Bool} {G : EG} {DE : Value}
theorem own_shrink {base sz n m c : Nat} {T : TypeId} {A : Option Addr} {xs : List Value} (h : w.ownsRow base T sz (.slice A n c) n xs) (hm : m ≤ n) (h0 : A = none → c = 0) : w.ownsRow base T sz (.slice A m c) m (xs.take (m * sz)) := by
  refine ⟨by rw [List.length_take, h.1, Nat.min_eq_left (Nat.mul_le_mul_right _ hm)], ?_⟩
  rcases h.2 with ⟨e, e2⟩ | ⟨g, cap, cur, e, h1, h2, h3, h4, h5, h6⟩
  · left
    obtain rfl : m = 0 := by omega
    cases e; exact ⟨rfl, rfl⟩
  · right
    cases e
    refine ⟨g, c, cur, rfl, h1, h2, by omega, h4, h5, ?_⟩
    rw [← h6, List.take_take, Nat.min_eq_left (Nat.mul_le_mul_right _ hm)]
theorem Hd.shrink {t : Ow} {T : TypeId} {sz n m c : Nat} {A : Option Addr} {xs : List Value} (h : Hd w O B t T sz (.slice A n c) n xs) (hm : m ≤ n) : Hd w O B t T sz (.slice A m c) m (xs.take (m * sz)) :=
  ⟨own_shrink h.1 hm (fun e => by
    rcases h.1.2 with ⟨e1, _⟩ | ⟨_, _, _, e1, _⟩
    · cases e1; rfl
    · cases e1; cases e), fun g hg => h.2 g (by cases A with
    | none => simp [Value.ownBlock] at hg
    | some a => simpa [Value.ownBlock] using hg)⟩
theorem ints_take (l : List Int) (m : Nat) : (ints l).take (m * 1) = ints (l.take m) := by simp [ints, List.map_take]
/-- The trail is cut (its values were forgotten). -/
theorem EngS.cutTrail (h : EngS w B b s X de bad G DE) {A : Option Addr} {c m : Nat} (hv : G.TR = .slice A s.tr.length c) (hm : m ≤ s.tr.length) :
    EngS (w.setCell ⟨b, 3, none⟩ (.slice A m c)) B b { s with tr := s.tr.take m } X de bad { G with TR := .slice A m c } DE := by
  have hf : foreign (G.O (⟨b, 3, none⟩ : Addr).block) := by show foreign (G.O b); rw [h.ob]; trivial
  have hc := h.core.set (p := ⟨b, 3, none⟩) hf (.slice A m c)
  have ht := hc.tr
  rw [hv] at ht
  have ht2 := ht.shrink hm
  rw [ints_take] at ht2
  refine ⟨⟨hc.mp, hc.hmb, hc.om, hc.cl, hc.hl, hc.cs, hc.va, ?_, hc.wt⟩, h.row.set 3 _, h.hb, h.ob, h.de.far (by show G.O b ≠ _; rw [h.ob]; nofun) _⟩
  have hlen : (s.tr.take m).length = m := by simp; omega
  show Hd _ _ _ _ _ _ _ (s.tr.take m).length _
  rw [hlen]; exact ht2
theorem EngS.setNone (h : EngS w B b s X de bad G DE) {p : Addr} (hp : G.O p.block = .none) (u : Value) : EngS (w.setCell p u) B b s X de bad G DE :=
  ⟨h.core.set (by rw [hp]; trivial) u, h.row.far (fun e => by have := h.ob; rw [e, hp] at this; cases this) u, h.hb, h.ob, h.de.far (by rw [hp]; nofun) u⟩
theorem decCells_length (l : List V.Dec) : (decCells l).length = l.length * 3 := by
  induction l with
  | nil => rfl
  | cons d l ih =>
    show (([_, _, _] : List Value) ++ decCells l).length = _
    rw [List.length_append, ih]; simp; omega
theorem decCells_snoc (l : List V.Dec) (d : V.Dec) : decCells (l ++ [d]) = decCells l ++ [.int .i64 (d.v : Int), .int .i64 (d.t : Int), .bool d.turned] := by simp [decCells]
/-- The last decision is taken from the list. -/
theorem EngS.popDec {d : V.Dec} {ds : List V.Dec} (h : EngS w B b s X (d :: ds) bad G DE) {A : Option Addr} {c : Nat} (hv : DE = .slice A (ds.length + 1) c) :
    EngS (w.setCell ⟨b, 5, none⟩ (.slice A ds.length c)) B b s X ds bad G (.slice A ds.length c) := by
  have hf : foreign (G.O (⟨b, 5, none⟩ : Addr).block) := by show foreign (G.O b); rw [h.ob]; trivial
  have hd := h.de.far (p := ⟨b, 5, none⟩) (by show G.O b ≠ _; rw [h.ob]; nofun) (.slice A ds.length c)
  rw [hv] at hd
  have hd2 := (show Hd _ _ _ _ _ _ _ (ds.length + 1) _ from hd).shrink (m := ds.length) (by omega)
  refine ⟨h.core.set hf _, h.row.set 5 _, h.hb, h.ob, ?_⟩
  rw [List.reverse_cons, decCells_snoc, List.take_append_of_le_length (by rw [decCells_length]; simp), List.take_of_length_le (by rw [decCells_length]; simp)] at hd2
  exact hd2
/-- The last decision's cells. -/
theorem EngS.topDec {d : V.Dec} {ds : List V.Dec} (h : EngS w B b s X (d :: ds) bad G DE) : ∃ g c, DE = .slice (some ⟨g, 0, none⟩) (ds.length + 1) c ∧ ds.length + 1 ≤ c ∧ G.O g = .decs ∧ B ≤ g ∧
    w.cell? ⟨g, ds.length * 3, none⟩ = some (.int .i64 (d.v : Int)) ∧ w.cell? ⟨g, ds.length * 3 + 1, none⟩ = some (.int .i64 (d.t : Int)) ∧ w.cell? ⟨g, ds.length * 3 + 2, none⟩ = some (.bool d.turned) := by
  rcases h.de.1.2 with ⟨_, e⟩ | ⟨g, cap, cur, e, h1, h2, h3, h4, h5, h6⟩
  · simp at e
  · have hl := decCells_length ds.reverse
    have hget : ∀ j u, (decCells (d :: ds).reverse)[j]? = some u → w.cell? ⟨g, j, none⟩ = some u := fun j u hu => by
      have := h.de.1.cells (g := g) (by rw [e]; rfl) j u hu
      rwa [add_zero_off] at this
    have hcs : decCells (d :: ds).reverse = decCells ds.reverse ++ [.int .i64 (d.v : Int), .int .i64 (d.t : Int), .bool d.turned] := by rw [List.reverse_cons, decCells_snoc]
    rw [hcs] at hget
    simp only [List.length_reverse] at hl
    refine ⟨g, cap, e, h3, h.de.2 g (by rw [e]; rfl), h1, hget _ _ ?_, hget _ _ ?_, hget _ _ ?_⟩
    · rw [List.getElem?_append_right (by omega), hl]; simp
    · rw [List.getElem?_append_right (by omega), hl]; simp
    · rw [List.getElem?_append_right (by omega), hl]; simp
/-- A decision is put behind the list. -/
theorem EngS.pushDec {w1 w2 : World} {v' : Value} {d : V.Dec} (h : EngS w1 B b s X de bad G DE)
    (hown : w2.ownsRow B 74 3 v' (de.length + 1) (decCells de.reverse ++ [.int .i64 (d.v : Int), .int .i64 (d.t : Int), .bool d.turned])) (hg : (w1.alloc (.cells #[.int .i64 (d.v : Int), .int .i64 (d.t : Int), .bool d.turned] 74)).grownBy w2 DE.ownBlock)
    (hat : v'.ownBlock = DE.ownBlock ∨ v'.ownBlock = some (w1.alloc (.cells #[.int .i64 (d.v : Int), .int .i64 (d.t : Int), .bool d.turned] 74)).heap.size) :
    EngS (w2.setCell ⟨b, 5, none⟩ v') B b s X (d :: de) bad { G with O := newO G.O (w1.alloc (.cells #[.int .i64 (d.v : Int), .int .i64 (d.t : Int), .bool d.turned] 74)).heap.size .decs } v' ∧ Row w2 b 56 [G.CL, .map (some G.mb), G.VA, G.TR, .int .i64 (s.hd : Int), DE, .bool bad] ∧
    Below B w1 (w2.setCell ⟨b, 5, none⟩ v') ∧ ∀ g, g < w1.heap.size → newO G.O (w1.alloc (.cells #[.int .i64 (d.v : Int), .int .i64 (d.t : Int), .bool d.turned] 74)).heap.size .decs g = G.O g := by
  have hlt := h.row.lt
  have hne : ∀ k, DE.ownBlock = some k → G.O k = .decs := h.de.2
  have hdl : ∀ k, DE.ownBlock = some k → k < w1.heap.size := own_lt h.de.1
  have hA := (h.alloc (.cells #[.int .i64 (d.v : Int), .int .i64 (d.t : Int), .bool d.turned] 74)).reNew .decs
  have hc := hA.core.grow hg (fun k e => by show foreign (newO G.O _ .decs k); rw [newO_old (by have := hdl k e; simp; omega), hne k e]; trivial)
  have hr : Row w2 b 56 [G.CL, .map (some G.mb), G.VA, G.TR, .int .i64 (s.hd : Int), DE, .bool bad] := (h.row.alloc _).grown hg (fun e => by
    have := hne b e.symm; rw [h.ob] at this; cases this)
  have hob : newO G.O (w1.alloc (.cells #[.int .i64 (d.v : Int), .int .i64 (d.t : Int), .bool d.turned] 74)).heap.size .decs b = .box := (newO_old (by simp; omega)).trans h.ob
  have hB : B ≤ w1.heap.size := Nat.le_trans h.hb (Nat.le_of_lt hlt)
  refine ⟨⟨hc.set (p := ⟨b, 5, none⟩) (by show foreign (newO G.O _ .decs b); rw [hob]; trivial) _, hr.set 5 _, h.hb, hob, ?_⟩, hr, ?_, fun g hgg => newO_old (by simp; omega)⟩
  · have := (h.de.alloc (.cells #[.int .i64 (d.v : Int), .int .i64 (d.t : Int), .bool d.turned] 74)).app hown hat
    refine Hd.far ?_ (by show newO G.O _ .decs b ≠ _; rw [hob]; nofun) _
    rw [List.reverse_cons, decCells_snoc]
    exact this
  · exact (((Below.refl B w1).alloc hB _).grown hg (by simp; omega) (fun k e => (h.de.1.lt k e).1)).setCell h.hb _
end
end Go.Proofs.Ytbomfekfebamkaa
