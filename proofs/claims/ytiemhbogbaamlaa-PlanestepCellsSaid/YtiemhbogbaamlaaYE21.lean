/-
 A part.
-/
import Derived.Test.YtiemhbogbaamlaaYE17
import Derived.Test.YtiemhbogbaamlaaYE20
import Derived.Deep.RegionLaw
namespace Go.Proofs.Ytiemhbogbaamlaa
open Go.RowKit
set_option linter.unusedSimpArgs false
set_option linter.unusedVariables false
theorem bit_int (x : Int) (k : Nat) (h0 : 0 ≤ x) (h1 : x ≤ 7) : bits BinOp.and IntKind.i64 (x / 2 ^ k) 1 = if bitI x k = true then 1 else 0 := by rw [bit_run x k h0 h1, bit_cases]
theorem iint_snoc (l : List Int) (x : Int) : ints (l ++ [x]) = ints l ++ [.int .i64 x] := by simp [ints]
set_option maxRecDepth 100000 in
set_option maxHeartbeats 2000000 in
theorem ltest_any (B b N bb i s Bn : Nat) (gs : List Gt) (cs : List Value) (nv : Value) (w : World) (h : LSt w B b N gs cs) (hN : N ≤ 100) (hl : gs.length ≤ 20000) (h6 : cs[4]? = some (.int .i64 bb)) (h7 : cs[5]? = some nv)
 (hn : w.ownsRow Bn 3 1 nv N (ints (notsW N))) (hb : 1 ≤ bb) (hb3 : bb ≤ 3) (hi : i * bb + bb ≤ N) (hs : s ≤ 7) :
 Calls Try.prog 52 #[.pointer (some ⟨b, 0, none⟩), .int .i64 i, .int .i64 s] w fun e w' => e = .returned (.int .i64 (testS N bb gs i s).2) ∧ LSt w' B b N (testS N bb gs i s).1 cs ∧ LFrm B w w' := by
 have H : Hid (LSt w B b N gs cs) := h
 have HN : Hid (w.ownsRow Bn 3 1 nv N (ints (notsW N))) := hn
 obtain ⟨NA, nc, rfl, _⟩ := Rd.own hn
 have H6 : Hid (cs[4]? = some (.int .i64 bb)) := h6
 have H7 : Hid (cs[5]? = some (.slice NA N nc)) := h7
 clear h hn h6 h7
 have c6 := (H.out.cs 4).trans H6.out
 obtain ⟨hbl, hBb⟩ := H.out.blk
 go_enter Try.func52, Try.ntmps52
 go_wp2
 clear c6 hbl
 go_loopg [7, 8, 13] bb (fun gg s7 _ s13 wr => ∃ (kk : Nat), kk ≤ bb ∧ bb - kk ≤ gg ∧ s13 = .int .i64 kk ∧ Aside (Below w.heap.size w wr) ∧ Aside (wr.ownsRow w.heap.size 3 1 s7 kk (ints ((litsF N bb i s).take kk))))
 case atStart => exact ⟨0, Nat.zero_le _, by omega, rfl, Below.refl _ _, World.ownsRow_nil _ _ _ _⟩
 case round =>
  obtain ⟨kk, hkk, hgg, rfl, BW, OW⟩ := hrel
  by_cases hlt : kk < bb
  ·have hltz : (kk : Int) < (bb : Int) := by omega
   have hbit := bit_int (s : Int) kk (by omega) (by omega)
   obtain ⟨q, hq⟩ : ∃ q : Int, q = if bitI (s : Int) kk = true then 1 else 0 := ⟨_, rfl⟩
   rw [← hq] at hbit
   have HQ : Hid (q = if bitI (s : Int) kk = true then 1 else 0) := hq
   have HT : Hid ((litsF N bb i s).take (kk + 1) = (litsF N bb i s).take kk ++ [litF N (i * bb + kk) (bitI (s : Int) kk)]) := by
    show _ = _
    rw [il_snoc _ _ (by rw [litsF_length]; exact hlt), litsF_get _ _ _ _ _ hlt]
   obtain ⟨NA', nc', e9, hRN⟩ := Rd.own (own_below HN.out BW.out (Nat.le_refl _))
   cases e9
   have HRN : Hid (Rd wr wr.heap.size 1 NA N (ints (notsW N))) := hRN
   have LS := H.out.below BW.out
   have h6 : Hid (wr.cell? ⟨b, 6, none⟩ = some (.int .i64 bb)) := (LS.cs 4).trans H6.out
   have h7 : Hid (wr.cell? ⟨b, 7, none⟩ = some (.slice NA N nc)) := (LS.cs 5).trans H7.out
   have hsz : w.heap.size ≤ wr.heap.size := BW.out.size
   generalize (litsF N bb i s).take kk = xs at OW HT
   generalize hlit : litF N (i * bb + kk) (bitI (s : Int) kk) = lv at HT
   have HLV : Hid (litF N (i * bb + kk) (bitI (s : Int) kk) = lv) := hlit
   have hjN : Hid (i * bb + kk < N) := by show _ < _; omega
   clear LS hRN hq hlit
   go_wp2_with (first | (go_at_call 79; refine (llit_any b N bb i kk nc NA (bitI (s : Int) kk) q _ h6.out h7.out HRN.out hjN.out hN HQ.out).mono ?_; rw [HLV.out]; rintro e w4 ⟨rfl, rfl⟩) | (at_builtin; refine wpList_app rfl (.tmp 16) (.tmp 25) 35 rfl w.heap.size 3 (.int .i64 0) 1 8 Try.underlying35 int_infoL rfl (by decide) (by decide) u7 (kk) (ints xs) rfl ?own (wr.heap.size + 1) (some ⟨wr.heap.size, 0, none⟩) 1 1 [.int .i64 lv] rfl ?rd ?one ?hb ?hbase ?_))
   case own => exact (OW.out).alloc _
   case rd => exact Rd.lit wr #[.int .i64 lv] 3 (sz := 1) (m := 1) rfl
   case one => intro u hu; simp at hu; subst hu; rfl
   case hb => omega
   case hbase => simp; omega
   intro v' w' hown' hgrow' hat'
   have BB := BW.out
   have B3 : Below w.heap.size w (wr.alloc (.cells #[.int .i64 lv] 3)) := by go_grown
   have HB4 : Aside (Below w.heap.size w w') := B3.grown hgrow' (by simp; omega) (fun k hk => (OW.out.lt k hk).1)
   have HOWN' : Aside (w'.ownsRow w.heap.size 3 1 v' (kk + 1) (ints (xs ++ [lv]))) := by
    show w'.ownsRow _ _ _ _ _ _
    rw [iint_snoc]
    exact hown'
   clear B3 BB hown' hgrow' hat' hbit
   go_wp2
   go_roundg (bb - (kk + 1))
   case measure => omega
   case rel =>
    refine ⟨kk + 1, by omega, by omega, by go_num, HB4.out, ?_⟩
    show World.ownsRow _ _ _ _ _ _ _
    rw [HT.out]
    exact HOWN'.out
  ·have hltz : ¬ (kk : Int) < (bb : Int) := by omega
   obtain rfl : kk = bb := by omega
   have LS : Hid (LSt wr B b N gs cs) := H.out.below BW.out
   have HA : Hid (allS N 3 gs ((litsF N kk i s).take kk) = testS N kk gs i s) := by
    show _ = _
    rw [List.take_of_length_le (by rw [litsF_length]; exact Nat.le_refl _)]; rfl
   have hbB : Hid (B ≤ w.heap.size) := by show _ ≤ _; have := H.out.blk; omega
   go_wp2_with fail
   refine (lall_any B b N w.heap.size kk gs cs 3 u7 ((litsF N kk i s).take kk) _ LS.out hN hl OW.out hb (by omega)).mono ?_
   rw [HA.out]
   rintro e w2 ⟨rfl, hl2, hf2⟩
   have LS2 : Hid (LSt w2 B b N (testS N kk gs i s).1 cs) := hl2
   have FF2 : Hid (LFrm B w w2) := Frm.trans (Frm.ofBelow BW.out hbB.out) hf2
   clear hl2 hf2
   go_wp2
   go_ret
   exact ⟨rfl, LS2.out, FF2.out⟩
end Go.Proofs.Ytiemhbogbaamlaa

/-
 A part.
-/
namespace Go.Proofs.Ytiemhbogbaamlaa
open Go.RowKit
set_option linter.unusedSimpArgs false
set_option linter.unusedVariables false
theorem Rows2At.get {w : World} {base : Nat} {E I : TypeId} {v : Value} {rows : List (List Int)} (h : Rows2At w base E I v rows) (i : Nat) (hi : i < rows.length) :
 ∃ g c u, v = .slice (some ⟨g, 0, none⟩) rows.length c ∧ w.cell? ⟨g, i, none⟩ = some u ∧ w.ownsRow base I 1 u (rows.getD i []).length (ints (rows.getD i [])) := by
 obtain ⟨vs, h1, h2, h3⟩ := h
 obtain ⟨g, c, rfl, _, _⟩ := h1.form (by omega)
 refine ⟨g, c, vs.getD i undef, rfl, ?_, h3 i hi⟩
 rw [h1.cellAt i (by omega), List.getD_eq_getElem?_getD, List.getElem?_eq_getElem (by omega)]; rfl
theorem Frm.drew {B : Nat} {T1 T2 : TypeId} {w w1 : World} (h : Frm B T1 T2 w w1) : Frm B T1 T2 w w1.drew := ⟨⟨h.below.os, h.below.tape, h.below.output, h.below.size, h.below.block⟩, h.keep⟩
structure LRes (w : World) (B : Nat) (cs : List Value) (hn : Nat) (tests res : List (List Int)) : Prop where
 hood : ∃ HA hc, cs[2]? = some (.slice HA hn hc)
 tests : ∃ tv Bt, cs[6]? = some tv ∧ Rows2At w Bt 35 3 tv tests
 res : ∃ rv Br, cs[7]? = some rv ∧ Rows2At w Br 35 3 rv res
theorem LRes.frm {w w' : World} {B hn : Nat} {cs : List Value} {tests res : List (List Int)} (h : LRes w B cs hn tests res) (f : LFrm B w w') : LRes w' B cs hn tests res := by
 obtain ⟨h1, ⟨tv, Bt, e, h2⟩, rv, Br, e', h3⟩ := h
 exact ⟨h1, ⟨tv, Bt, e, h2.frm f (by decide) (by decide) (by decide) (by decide)⟩, rv, Br, e', h3.frm f (by decide) (by decide) (by decide) (by decide)⟩
set_option maxRecDepth 100000 in
set_option maxHeartbeats 4000000 in
theorem lresult_any (B b N hn pos k S xc : Nat) (gs : List Gt) (cs : List Value) (tests res : List (List Int)) (lev : Int) (next : List Int) (XA : Option Addr) (w : World) (h : LSt w B b N gs cs) (hN : N ≤ 100) (hl : gs.length ≤ 19900)
 (hR : LRes w B cs hn tests res) (hX : Rd w B 1 XA S (ints next)) (hlev : 1 ≤ lev) (hlev2 : lev ≤ hn) (hpos : (hn : Int) - lev = pos) (hhn : hn ≤ 25) (hk : k ≤ 2) (hS : 1 ≤ S) (hS8 : S ≤ 8)
 (htl : tests.length = hn) (htr : (tests.getD pos []).length = S)
 (hup : 1 < lev → ∀ s, s < S → 0 ≤ next.getD s 0 ∧ (next.getD s 0).toNat < res.length ∧ k < (res.getD (next.getD s 0).toNat []).length)
 (hdn : lev = 1 → ∀ s, s < S → 0 ≤ next.getD s 0 ∧ next.getD s 0 ≤ 7) (hB : B ≤ w.heap.size) :
 Calls Try.prog 53 #[.pointer (some ⟨b, 0, none⟩), .agg #[.int .i64 lev, .slice XA S xc], .int .i64 k] w fun e w' =>
  e = .returned (.int .i64 (resS N (decide (1 < lev)) (tests.getD pos []) res next S gs k).2) ∧ LSt w' B b N (resS N (decide (1 < lev)) (tests.getD pos []) res next S gs k).1 cs ∧ LFrm B w w' := by
 have H : Hid (LSt w B b N gs cs) := h
 have HR : Hid (LRes w B cs hn tests res) := hR
 have HX : Hid (Rd w B 1 XA S (ints next)) := hX
 have HTL : Hid (tests.length = hn) := htl
 have HTR : Hid ((tests.getD pos []).length = S) := htr
 have HUP : Hid (1 < lev → ∀ s, s < S → 0 ≤ next.getD s 0 ∧ (next.getD s 0).toNat < res.length ∧ k < (res.getD (next.getD s 0).toNat []).length) := hup
 have HDN : Hid (lev = 1 → ∀ s, s < S → 0 ≤ next.getD s 0 ∧ next.getD s 0 ≤ 7) := hdn
 have HLX : Hid (next.length = S) := by have := hX.1; rw [ints_length, Nat.mul_one] at this; exact this
 have hph : pos < hn := by omega
 have HUS : Hid (B ≤ w.heap.size) := hB
 obtain ⟨⟨HA, hc, eh⟩, ⟨tv, Bt, et, hT⟩, rv, Br, er, hRR⟩ := HR.out
 obtain ⟨tg, tc, tu, rfl, htc, hto⟩ := hT.get pos (by omega)
 rw [htr] at hto
 obtain ⟨TA, tc2, rfl, _⟩ := Rd.own hto
 rw [htl] at et
 have ET : Hid (cs[6]? = some (.slice (some ⟨tg, 0, none⟩) hn tc)) := et
 have ER : Hid (cs[7]? = some rv) := er
 have EH : Hid (cs[2]? = some (.slice HA hn hc)) := eh
 have OT : Hid (w.ownsRow Bt 3 1 (.slice TA S tc2) S (ints (tests.getD pos []))) := hto
 have HTC : Hid (w.cell? ⟨tg, pos, none⟩ = some (.slice TA S tc2)) := htc
 have hnb : Hid (hn ≤ maxLen) := by show _ ≤ _; unfold maxLen; omega
 have hblk := h.blk
 clear h hR hX htl htr hup hdn et er eh hto htc hT hRR hB
 have c8 := (H.out.cs 6).trans ET.out
 have c4 := (H.out.cs 2).trans EH.out
 have c9 := HTC.out
 have hpi : (pos : Int) < (hn : Int) := by omega
 have hpp : (0 : Int) ≤ (pos : Int) := by omega
 have hwp : IntKind.i64.wrap (pos : Int) = (pos : Int) := IntWalk.i64_in _ (by omega)
 have htgl : tg < w.heap.size := World.block_lt_of_cell? w _ c9
 go_enter Try.func53, Try.ntmps53
 go_wp2_with fail
 go_quiet (fail)
 go_wp2
 have RN : Hid (Row (World.alloc w _) w.heap.size 64 [.int .i64 lev, .slice XA S xc]) := Row.new w 64 [.int .i64 lev, .slice XA S xc]
 have LS1 : Hid (LSt (World.alloc w (.cells #[.int .i64 lev, .slice XA S xc] 64)) B b N gs cs) := H.out.alloc _
 have HF01 : Hid (LFrm B w (World.alloc w (.cells #[.int .i64 lev, .slice XA S xc] 64))) := (Frm.refl B _ _ w).alloc HUS.out _
 have hw01 : Hid (w.heap.size ≤ (World.alloc w (.cells #[.int .i64 lev, .slice XA S xc] 64)).heap.size) := by show _ ≤ _; simp
 have OT1 : Hid (World.ownsRow (World.alloc w (.cells #[.int .i64 lev, .slice XA S xc] 64)) Bt 3 1 (.slice TA S tc2) S (ints (tests.getD pos []))) := OT.out.alloc _
 have HR1 : Hid (LRes (World.alloc w (.cells #[.int .i64 lev, .slice XA S xc] 64)) B cs hn tests res) := HR.out.frm HF01.out
 have HXW : Hid (∀ p : Addr, p.block < B → (World.alloc w (.cells #[.int .i64 lev, .slice XA S xc] 64)).cell? p = w.cell? p) := fun p hp => World.cell?_alloc_lt w _ p (by have := HUS.out; omega)
 clear c8 c4 c9 hpi hpp hwp htgl hblk
 revert RN LS1 HF01 hw01 OT1 HR1 HXW
 generalize World.alloc w (.cells #[.int .i64 lev, .slice XA S xc] 64) = w1
 intro RN LS1 HF01 hw01 OT1 HR1 HXW
 by_cases hup : 1 < lev
 ·have HDU : Hid (decide (1 < lev) = true) := decide_eq_true hup
  go_loopg [8, 9, 10, 29, 34, 59] S (fun gg s8 _ _ s29 _ _ wr => ∃ kk : Nat, kk ≤ S ∧ S - kk ≤ gg ∧ s29 = .int .i64 kk ∧ Aside (LFrm B w1 wr) ∧ Aside (LSt wr B b N (termsS N true (tests.getD pos []) res next gs k kk).1 cs) ∧ Aside (wr.ownsRow w1.heap.size 3 1 s8 (termsS N true (tests.getD pos []) res next gs k kk).2.length (ints (termsS N true (tests.getD pos []) res next gs k kk).2)))
  case atStart => exact ⟨0, Nat.zero_le _, by omega, rfl, (Frm.refl B _ _ w1).drewN _, LS1.out, World.ownsRow_nil _ _ _ _⟩
  case round =>
   obtain ⟨kk, hkk, hgg, rfl, FF, LS, OW⟩ := hrel
   have RN' : Hid (Row wr w.heap.size 64 [.int .i64 lev, .slice XA S xc]) := Frm.row FF.out RN.out (by decide) (by decide)
   obtain ⟨n0, n1, nl⟩ := RN'.out.cells2
   have hsz : w1.heap.size ≤ wr.heap.size := FF.out.below.size
   have hBr : Hid (B ≤ wr.heap.size) := Nat.le_trans HUS.out (Nat.le_trans hw01.out hsz)
   obtain ⟨hln1, hln2⟩ := termsS_len N true (tests.getD pos []) res next gs k kk
   by_cases hlt : kk < S
   ·have hltz : (kk : Int) < (S : Int) := by omega
    have HXr : Rd wr B 1 XA S (ints next) := HX.out.keep (fun p hp => (FF.out.below.cell (by omega)).trans (HXW.out p hp))
    obtain ⟨xad, exa, hxb, hz⟩ := HXr.int hlt
    subst exa
    have HTR2 := Frm.own FF.out OT1.out (by decide) (by decide)
    obtain ⟨TA', tc', e9, hRT⟩ := Rd.own HTR2
    cases e9
    obtain ⟨tad, eta, htb, htz⟩ := hRT.int hlt
    subst eta
    have hblr := LS.out.blk
    have HTS : Hid ((termsS N true (tests.getD pos []) res next gs k (kk + 1)) = termStep N true (tests.getD pos []) res next k (termsS N true (tests.getD pos []) res next gs k kk) kk) := termsS_succ ..
    obtain ⟨z0, z1, z2⟩ := HUP.out hup kk hlt
    generalize hzz : next.getD kk 0 = z at hz z0 z1 z2
    have HZ : Hid (next.getD kk 0 = z) := hzz
    obtain ⟨zn, rfl⟩ : ∃ zn : Nat, z = (zn : Int) := ⟨z.toNat, by omega⟩
    rw [Int.toNat_natCast] at z1 z2
    obtain ⟨_, ⟨_, _, _, _⟩, rv', Br', er', hRR⟩ := HR1.out.frm FF.out
    have er2 := ER.out
    rw [er'] at er2
    cases er2
    obtain ⟨rg, rc, ru, hrve, hrc, hro⟩ := hRR.get zn z1
    subst hrve
    obtain ⟨RA, rc2, hrue, hRR2⟩ := Rd.own hro
    subst hrue
    obtain ⟨rad, hrae, hrb, hrz⟩ := hRR2.int z2
    subst hrae
    have c9 := (LS.out.cs 7).trans er'
    have hzi : (zn : Int) < (res.length : Int) := by omega
    have hki : (k : Int) < ((res.getD zn []).length : Int) := by omega
    generalize hxt : (tests.getD pos []).getD kk 0 = xt at htz
    have HXT : Hid ((tests.getD pos []).getD kk 0 = xt) := hxt
    generalize hxr : (res.getD zn []).getD k 0 = xr at hrz
    have HXR : Hid ((res.getD zn []).getD k 0 = xr) := hxr
    generalize (res.getD zn []).length = rl at *
    generalize res.length = resl at *
    generalize hp : (termsS N true (tests.getD pos []) res next gs k kk) = p at LS OW hln1 hln2 HTS
    have HP : Hid ((termsS N true (tests.getD pos []) res next gs k kk) = p) := hp
    obtain ⟨pg, pt⟩ := p
    dsimp only at hln1 hln2
    have LS' : Hid (LSt wr B b N pg cs) := LS.out
    have OW' : Hid (wr.ownsRow w1.heap.size 3 1 u8 pt.length (ints pt)) := OW.out
    have HTS' : Hid ((termsS N true (tests.getD pos []) res next gs k (kk + 1)) = (pg ++ [⟨3, xt, xr⟩], pt ++ [wireF N pg])) := by
     show _ = _
     rw [HTS.out, termStep, if_pos rfl, HXT.out, HZ.out, Int.toNat_natCast, HXR.out]
    generalize hq : pt.length = q at OW' hln2
    have HQ : Hid (pt.length = q) := hq
    clear LS OW HTS hzz hxt hxr hp hq HTR2 hRT er' hRR hro hRR2 HXr
    go_wp2_with fail
    go_region_law (first
     | (go_simp; go_at_call 51
        refine (lgate_any B b N pg cs 3 xt xr _ (by exact LS'.out) hN (by omega)).mono ?_
        rintro e w2 ⟨rfl, hl2, hf2⟩
        have LS2 : Hid (LSt w2 B b N (pg ++ [⟨3, xt, xr⟩]) cs) := hl2
        have FF2 : Hid (LFrm B w1 w2) := Frm.trans (Frm.drew FF.out) hf2
        have OW2 : Hid (w2.ownsRow w1.heap.size 3 1 u8 q (ints pt)) := Frm.own hf2 (by exact OW'.out) (by decide) (by decide)
        have hls := LS2.out.blk
        have hsz2 : w1.heap.size ≤ w2.heap.size := FF2.out.below.size
        clear hl2 hf2)
     | (refine step_app rfl (.tmp 38) (.tmp 57) 35 rfl w1.heap.size 3 (.int .i64 0) 1 8 Try.underlying35 int_infoL rfl (by decide) (by decide) u8 q (ints pt) rfl ?own (w2.heap.size + 1) (some ⟨w2.heap.size, 0, none⟩) 1 1 [.int .i64 (wireF N pg)] rfl ?rd ?one ?hb ?hbase ?_
        case own => exact OW2.out.alloc _
        case rd => exact Rd.lit w2 #[.int .i64 (wireF N pg)] 3 (sz := 1) (m := 1) rfl
        case one => intro u hu; simp at hu; subst hu; rfl
        case hb => omega
        case hbase => simp; omega
        intro v' w' hown' hgrow' hat'
        have FF3 : Hid (LFrm B w1 w') := Frm.grownNew (FF2.out.alloc (by omega) _) hgrow' (fun k hk => (OW2.out.lt k hk).1) (Nat.le_trans HUS.out hw01.out)
        have LS3 : Hid (LSt w' B b N (pg ++ [⟨3, xt, xr⟩]) cs) := (LS2.out.alloc _).grownT (OW2.out.alloc _) hgrow' (by decide) (by decide)
        have OW3 : Hid (w'.ownsRow w1.heap.size 3 1 v' (q + 1) (ints (pt ++ [wireF N pg]))) := (by
         show w'.ownsRow _ _ _ _ _ _
         rw [iint_snoc]
         exact hown')
        clear hown' hgrow' hat'))
    all_goals
     go_wp2
     go_roundg (S - (kk + 1))
     case measure => omega
     case rel =>
      refine ⟨kk + 1, by omega, by omega, by go_num, FF3.out, (show LSt _ _ _ _ _ _ by rw [HTS'.out]; exact LS3.out), ?_⟩
      show World.ownsRow _ _ _ _ _ _ _
      rw [HTS'.out, List.length_append, List.length_singleton, HQ.out]
      exact OW3.out
   ·have hltz : ¬ (kk : Int) < (S : Int) := by omega
    obtain rfl : kk = S := by omega
    generalize hp : (termsS N true (tests.getD pos []) res next gs k kk) = p at LS OW hln1 hln2
    have HP : Hid ((termsS N true (tests.getD pos []) res next gs k kk) = p) := hp
    have HRS : Hid (resS N true (tests.getD pos []) res next kk gs k = orS N p) := by show _ = _; rw [resS, hp]
    obtain ⟨pg, pt⟩ := p
    dsimp only at hln1 hln2
    have LS' : Hid (LSt wr B b N pg cs) := LS.out
    have OW' : Hid (wr.ownsRow w1.heap.size 3 1 u8 pt.length (ints pt)) := OW.out
    generalize hq : pt.length = q at OW' hln2
    have HQ : Hid (pt.length = q) := hq
    clear LS OW hp
    obtain ⟨PA, pc, rfl, _⟩ := Rd.own OW'.out
    by_cases hq0 : q = 0
    ·have HO : Hid (orS N (pg, pt) = (pg ++ [⟨0, 0, 0⟩], wireF N pg)) := by show _ = _; rw [orS, if_pos (by dsimp only; omega)]
     have hqz : ((q : Int) == 0) = true := by simpa using hq0
     clear hq0 hq
     go_wp2_with fail
     refine (lgate_any B b N pg cs 0 0 0 _ LS'.out hN (by omega)).mono ?_
     rintro e w2 ⟨rfl, hl2, hf2⟩
     have LS2 : Hid (LSt w2 B b N (pg ++ [⟨0, 0, 0⟩]) cs) := hl2
     have FF2 : Hid (LFrm B w w2) := Frm.trans HF01.out (Frm.trans FF.out hf2)
     clear hl2 hf2
     go_wp2
     go_ret
     rw [HDU.out, HRS.out, HO.out]
     exact ⟨rfl, LS2.out, FF2.out⟩
    ·have HO : Hid (orS N (pg, pt) = allS N 4 pg pt) := by show _ = _; rw [orS, if_neg (by dsimp only; omega)]
     have hqz : ((q : Int) == 0) = false := by simpa using hq0
     clear hq
     go_wp2_with fail
     refine (lall_any B b N w1.heap.size q pg cs 4 (.slice PA q pc) pt _ LS'.out hN (by omega) OW'.out (by omega) (by omega)).mono ?_
     rintro e w2 ⟨rfl, hl2, hf2⟩
     have LS2 : Hid (LSt w2 B b N (allS N 4 pg pt).1 cs) := hl2
     have FF2 : Hid (LFrm B w w2) := Frm.trans HF01.out (Frm.trans FF.out hf2)
     clear hl2 hf2
     go_wp2
     go_ret
     rw [HDU.out, HRS.out, HO.out]
     exact ⟨rfl, LS2.out, FF2.out⟩
 ·have HDU : Hid (decide (1 < lev) = false) := decide_eq_false hup
  have hlev1 : Hid (lev = 1) := by show _ = _; omega
  go_loopg [8, 9, 10, 29, 34, 59] S (fun gg s8 _ _ s29 _ _ wr => ∃ kk : Nat, kk ≤ S ∧ S - kk ≤ gg ∧ s29 = .int .i64 kk ∧ Aside (LFrm B w1 wr) ∧ Aside (LSt wr B b N (termsS N false (tests.getD pos []) res next gs k kk).1 cs) ∧ Aside (wr.ownsRow w1.heap.size 3 1 s8 (termsS N false (tests.getD pos []) res next gs k kk).2.length (ints (termsS N false (tests.getD pos []) res next gs k kk).2)))
  case atStart => exact ⟨0, Nat.zero_le _, by omega, rfl, (Frm.refl B _ _ w1).drewN _, LS1.out, World.ownsRow_nil _ _ _ _⟩
  case round =>
   obtain ⟨kk, hkk, hgg, rfl, FF, LS, OW⟩ := hrel
   have RN' : Hid (Row wr w.heap.size 64 [.int .i64 lev, .slice XA S xc]) := Frm.row FF.out RN.out (by decide) (by decide)
   obtain ⟨n0, n1, nl⟩ := RN'.out.cells2
   have hsz : w1.heap.size ≤ wr.heap.size := FF.out.below.size
   have hBr : Hid (B ≤ wr.heap.size) := Nat.le_trans HUS.out (Nat.le_trans hw01.out hsz)
   obtain ⟨hln1, hln2⟩ := termsS_len N false (tests.getD pos []) res next gs k kk
   by_cases hlt : kk < S
   ·have hltz : (kk : Int) < (S : Int) := by omega
    have HXr : Rd wr B 1 XA S (ints next) := HX.out.keep (fun p hp => (FF.out.below.cell (by omega)).trans (HXW.out p hp))
    obtain ⟨xad, exa, hxb, hz⟩ := HXr.int hlt
    subst exa
    have HTR2 := Frm.own FF.out OT1.out (by decide) (by decide)
    obtain ⟨TA', tc', e9, hRT⟩ := Rd.own HTR2
    cases e9
    obtain ⟨tad, eta, htb, htz⟩ := hRT.int hlt
    subst eta
    have hblr := LS.out.blk
    have HTS : Hid ((termsS N false (tests.getD pos []) res next gs k (kk + 1)) = termStep N false (tests.getD pos []) res next k (termsS N false (tests.getD pos []) res next gs k kk) kk) := termsS_succ ..
    obtain ⟨z0, z7⟩ := HDN.out hlev1.out kk hlt
    generalize hzz : next.getD kk 0 = z at hz z0 z7
    have HZ : Hid (next.getD kk 0 = z) := hzz
    have hbit : (bits BinOp.and IntKind.i64 (z / 2 ^ k) 1 == 1) = bitI z k := by rw [bit_run z k z0 z7]; rfl
    generalize hxt : (tests.getD pos []).getD kk 0 = xt at htz
    have HXT : Hid ((tests.getD pos []).getD kk 0 = xt) := hxt
    generalize hp : (termsS N false (tests.getD pos []) res next gs k kk) = p at LS OW hln1 hln2 HTS
    have HP : Hid ((termsS N false (tests.getD pos []) res next gs k kk) = p) := hp
    obtain ⟨pg, pt⟩ := p
    dsimp only at hln1 hln2
    have LS' : Hid (LSt wr B b N pg cs) := LS.out
    have OW' : Hid (wr.ownsRow w1.heap.size 3 1 u8 pt.length (ints pt)) := OW.out
    have HTS' : Hid ((termsS N false (tests.getD pos []) res next gs k (kk + 1)) = if bitI z k = true then (pg, pt ++ [xt]) else (pg, pt)) := by
     show _ = _
     rw [HTS.out, termStep, if_neg (by decide), HXT.out, HZ.out]
    generalize hq : pt.length = q at OW' hln2
    have HQ : Hid (pt.length = q) := hq
    clear LS OW HTS hzz hxt hp hq HTR2 hRT HXr
    generalize bitI z k = bz at hbit HTS'
    cases bz
    ·have HT0 : Hid ((termsS N false (tests.getD pos []) res next gs k (kk + 1)) = (pg, pt)) := by show _ = _; have := HTS'.out; simpa using this
     clear HTS'
     go_wp2
     go_roundg (S - (kk + 1))
     case measure => omega
     case rel =>
      refine ⟨kk + 1, by omega, by omega, by go_num, FF.out, (show LSt _ _ _ _ _ _ by rw [HT0.out]; exact LS'.out), ?_⟩
      show World.ownsRow _ _ _ _ _ _ _
      rw [HT0.out, HQ.out]
      exact OW'.out
    ·have hls := LS'.out.blk
     have HT0 : Hid ((termsS N false (tests.getD pos []) res next gs k (kk + 1)) = (pg, pt ++ [xt])) := by show _ = _; have := HTS'.out; simpa using this
     clear HTS'
     go_wp2_with (at_builtin; refine wpList_app rfl (.tmp 65) (.tmp 70) 35 rfl w1.heap.size 3 (.int .i64 0) 1 8 Try.underlying35 int_infoL rfl (by decide) (by decide) u8 (q) (ints pt) rfl ?own (wr.heap.size + 1) (some ⟨wr.heap.size, 0, none⟩) 1 1 [.int .i64 xt] rfl ?rd ?one ?hb ?hbase ?_)
     case own => exact (OW'.out).alloc _
     case rd => exact Rd.lit wr #[.int .i64 xt] 3 (sz := 1) (m := 1) rfl
     case one => first | (intro u hu; simp at hu; subst hu; rfl) | rfl
     case hb => omega
     case hbase => first | (simp; omega) | omega
     intro v' w' hown' hgrow' hat'
     have FF2 : Hid (LFrm B w1 w') := Frm.grownNew (FF.out.alloc hBr.out _) hgrow' (fun k hk => (OW'.out.lt k hk).1) (Nat.le_trans HUS.out hw01.out)
     have LS2 : Hid (LSt w' B b N pg cs) := (LS'.out.alloc _).grownT (OW'.out.alloc _) hgrow' (by decide) (by decide)
     have OW2 : Hid (w'.ownsRow w1.heap.size 3 1 v' (q + 1) (ints (pt ++ [xt]))) := by
      show w'.ownsRow _ _ _ _ _ _
      rw [iint_snoc]
      exact hown'
     clear hown' hgrow' hat' hbit
     go_wp2
     go_roundg (S - (kk + 1))
     case measure => omega
     case rel =>
      refine ⟨kk + 1, by omega, by omega, by go_num, FF2.out, (show LSt _ _ _ _ _ _ by rw [HT0.out]; exact LS2.out), ?_⟩
      show World.ownsRow _ _ _ _ _ _ _
      rw [HT0.out, List.length_append, List.length_singleton, HQ.out]
      exact OW2.out
   ·have hltz : ¬ (kk : Int) < (S : Int) := by omega
    obtain rfl : kk = S := by omega
    generalize hp : (termsS N false (tests.getD pos []) res next gs k kk) = p at LS OW hln1 hln2
    have HP : Hid ((termsS N false (tests.getD pos []) res next gs k kk) = p) := hp
    have HRS : Hid (resS N false (tests.getD pos []) res next kk gs k = orS N p) := by show _ = _; rw [resS, hp]
    obtain ⟨pg, pt⟩ := p
    dsimp only at hln1 hln2
    have LS' : Hid (LSt wr B b N pg cs) := LS.out
    have OW' : Hid (wr.ownsRow w1.heap.size 3 1 u8 pt.length (ints pt)) := OW.out
    generalize hq : pt.length = q at OW' hln2
    have HQ : Hid (pt.length = q) := hq
    clear LS OW hp
    obtain ⟨PA, pc, rfl, _⟩ := Rd.own OW'.out
    by_cases hq0 : q = 0
    ·have HO : Hid (orS N (pg, pt) = (pg ++ [⟨0, 0, 0⟩], wireF N pg)) := by show _ = _; rw [orS, if_pos (by dsimp only; omega)]
     have hqz : ((q : Int) == 0) = true := by simpa using hq0
     clear hq0 hq
     go_wp2_with fail
     refine (lgate_any B b N pg cs 0 0 0 _ LS'.out hN (by omega)).mono ?_
     rintro e w2 ⟨rfl, hl2, hf2⟩
     have LS2 : Hid (LSt w2 B b N (pg ++ [⟨0, 0, 0⟩]) cs) := hl2
     have FF2 : Hid (LFrm B w w2) := Frm.trans HF01.out (Frm.trans FF.out hf2)
     clear hl2 hf2
     go_wp2
     go_ret
     rw [HDU.out, HRS.out, HO.out]
     exact ⟨rfl, LS2.out, FF2.out⟩
    ·have HO : Hid (orS N (pg, pt) = allS N 4 pg pt) := by show _ = _; rw [orS, if_neg (by dsimp only; omega)]
     have hqz : ((q : Int) == 0) = false := by simpa using hq0
     clear hq
     go_wp2_with fail
     refine (lall_any B b N w1.heap.size q pg cs 4 (.slice PA q pc) pt _ LS'.out hN (by omega) OW'.out (by omega) (by omega)).mono ?_
     rintro e w2 ⟨rfl, hl2, hf2⟩
     have LS2 : Hid (LSt w2 B b N (allS N 4 pg pt).1 cs) := hl2
     have FF2 : Hid (LFrm B w w2) := Frm.trans HF01.out (Frm.trans FF.out hf2)
     clear hl2 hf2
     go_wp2
     go_ret
     rw [HDU.out, HRS.out, HO.out]
     exact ⟨rfl, LS2.out, FF2.out⟩
end Go.Proofs.Ytiemhbogbaamlaa
