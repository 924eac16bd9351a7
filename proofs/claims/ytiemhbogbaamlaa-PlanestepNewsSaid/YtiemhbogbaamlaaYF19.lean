/-
 A part.
-/
import Derived.Test.YtiemhbogbaamlaaYF1
import Derived.Test.YtiemhbogbaamlaaYF18
import Derived.Test.YtiemhbogbaamlaaYF2
import Derived.Test.YtiemhbogbaamlaaYF16
set_option linter.unusedSimpArgs false
set_option linter.unusedVariables false
namespace Go.Proofs.Ytiemhbogbaamlaa
open Go.RowKit
theorem headOk_parts {t:Tre} (h:headOk t=true):(2≤t.states∧t.states≤8)∧1≤t.nodes.length∧t.nodes.length≤4096∧(t.nodes.getD (t.nodes.length - 1) default).level=t.hood.length:=by
 simpa [headOk] using h
theorem rightT_all {t:Tre} (h1:hoodOk t.hood=true) (h2:headOk t=true) (h:∀ i,i < t.nodes.length→nodeOk t i=true):rightT t=true:=by
 have:nodesOk t=true:=decide_eq_true h
 simp [rightT,h1,h2,this]
theorem nodeOk_len {t:Tre} {i:Nat} {x:Nd} (hx:t.nodes.getD i default=x) (h:¬ (1≤x.level∧x.level≤t.hood.length∧(x.next.length:Int)=t.states)):nodeOk t i=false:=by
 rw [nodeOk,hx,decide_eq_false h];rfl
theorem nodeOk_link {t:Tre} {i:Nat} {x:Nd} (hx:t.nodes.getD i default=x) (s:Nat) (hs:s < x.next.length) (h:linkOk t i x (x.next.getD s 0)=false):nodeOk t i=false:=by
 rw [nodeOk,hx,all_false_at _ _ s hs h];simp
theorem nodeOk_all {t:Tre} {i:Nat} {x:Nd} (hx:t.nodes.getD i default=x) (h:1≤x.level∧x.level≤t.hood.length∧(x.next.length:Int)=t.states) (hs:∀ s,s < x.next.length→linkOk t i x (x.next.getD s 0)=true):nodeOk t i=true:=by
 rw [nodeOk,hx,decide_eq_true h,all_true_at _ _ hs];rfl
set_option maxRecDepth 100000 in
set_option maxHeartbeats 4000000 in
theorem treeRight_ok (t:Tre) (HA NA:Option Addr) (hn hc nn nc:Nat) (sl:List Sl) (w:World) (h:TAt w t HA NA hn nn sl) (hh:hoodOk t.hood=true) (hg:headOk t=true):
 Calls Try.prog 49 #[.agg #[.int .i64 t.states,.slice HA hn hc,.slice NA nn nc]] w fun e w'=>e=.returned (.bool (rightT t))∧Below w.heap.size w w':=by
 have H:=hiD h
 have HL:Hid (t.nodes.length=nn):=h.nl
 have HLH:Hid (t.hood.length=hn):=h.hl
 have hm1:=h.h63
 have HG:=hiD hg
 obtain ⟨⟨q1,q2⟩,q3,q4,q5⟩:=headOk_parts hg
 rw [HL.out] at q3 q4
 have hn25:hn≤25:=by
  simp only [hoodOk,Bool.and_eq_true,decide_eq_true_eq] at hh
  rw [HLH.out] at hh;omega
 have HH0:=hiD hh
 clear h hg
 have hs0:¬ t.states < 2:=by omega
 have hs1:¬ 8 < t.states:=by omega
 have hd0:decide (t.states < 2)=false:=by simpa using hs0
 have hd1:decide (8 < t.states)=false:=by simpa using hs1
 obtain ⟨m,rfl⟩:∃ m,nn=m+1:=⟨nn - 1,by omega⟩
 obtain ⟨ad,rfl,hb,g0,g1⟩:=H.out.node (k:=m) (by omega)
 clear g1
 rw [HL.out,Nat.add_sub_cancel,HLH.out] at q5
 rw [q5] at g0
 clear q5
 have hj1:(0:Int)≤(m:Int):=by omega
 have hjn:(m:Int) < (m:Int)+1:=by omega
 have hwj:IntKind.i64.wrap (m:Int)=(m:Int):=IntWalk.i64_in _ (by omega)
 have he0:decide ((m:Int)+1 < 1)=false:=by rw [decide_eq_false_iff_not];omega
 have he1:decide (4096 < (m:Int)+1)=false:=by rw [decide_eq_false_iff_not];omega
 have hne:((hn:Int) != (hn:Int))=false:=by simp
 go_enter Try.func49,Try.ntmps49
 go_wp2_with fail
 have RA:Hid (Row (World.alloc w _) w.heap.size 25 [.int .i64 t.states,.slice HA hn hc,.slice (some ad) (m+1) nc]):=Row.new w 25 [.int .i64 t.states,.slice HA hn hc,.slice (some ad) (m+1) nc]
 have HB:Hid (Below w.heap.size w (World.alloc w (.cells #[.int .i64 t.states,.slice HA hn hc,.slice (some ad) (m+1) nc] 25))):=by show Below _ _ _;go_grown
 revert RA HB
 generalize World.alloc w (.cells #[.int .i64 t.states,.slice HA hn hc,.slice (some ad) (m+1) nc] 25)=w1
 intro RA HB
 have hu:undef=Value.tuple #[]:=rfl
 have HH:Hid (Rd w1 w1.heap.size 2 HA hn (hoodCells t.hood)):=H.out.hood.up HB.out
 have HN:Hid (Below w1.heap.size w1 w1):=Below.refl _ _
 have hbox:w.heap.size < w1.heap.size:=RA.out.lt
 have HS:∀ w',Below w1.heap.size w1 w'→w'.cell? ⟨w.heap.size,0,none⟩=some (.int .i64 t.states)∧w'.cell? ⟨w.heap.size,1,none⟩=some (.slice HA hn hc)∧w'.cell? ⟨w.heap.size,2,none⟩=some (.slice (some ad) (m+1) nc)∧w'.cell? (ad.add (m * 2))=some (.int .i64 hn):=fun w' hw=>⟨(rowCells RA.out hw).cell 0,(rowCells RA.out hw).cell 1,(rowCells RA.out hw).cell 2,((HB.out.trans (hw.mono HB.out.size)).cell (by rw [add_block];exact hb)).trans g0⟩
 clear g0
 refine wp_region_held_drew (S:=fun w'=>w'.cell? ⟨w.heap.size,0,none⟩=some (.int .i64 t.states)∧w'.cell? ⟨w.heap.size,1,none⟩=some (.slice HA hn hc)∧w'.cell? ⟨w.heap.size,2,none⟩=some (.slice (some ad) (m+1) nc)∧w'.cell? (ad.add (m * 2))=some (.int .i64 hn)) (by kernel_rfl) (by (try dsimp only);exact HS _ (by first | exact below_on2 HN.out (by go_grown) | go_grown)) (fun hHeld=>?_)
 refine takeW 0 ?vg0 rfl (by rfl) ?yg0 (by assumption) ?rg0
 case yg0=>intro w' hSw;(try dsimp only at hSw);go_simp;try (with_reducible rfl)
 go_simp
 refine takeW 1 ?vg1 rfl (by rfl) ?yg1 (by assumption) ?rg1
 case yg1=>intro w' hSw;(try dsimp only at hSw);go_simp;try (with_reducible rfl)
 go_simp
 refine takeW 2 ?vg2 rfl (by rfl) ?yg2 (by assumption) ?rg2
 case yg2=>intro w' hSw;(try dsimp only at hSw);go_simp;try (with_reducible rfl)
 go_simp
 refine takeW 3 ?vg3 rfl (by rfl) ?yg3 (by assumption) ?rg3
 case yg3=>intro w' hSw;(try dsimp only at hSw);go_simp;try (with_reducible rfl)
 go_simp
 refine takeW 4 ?vg4 rfl (by first | rfl | (go_simp;done)) ?yg4 (by assumption) ?rg4
 case yg4=>intro w' hSw;(try dsimp only at hSw);go_simp;try (with_reducible rfl)
 go_simp
 refine takeW 5 ?vg5 rfl (by first | rfl | (go_simp;done)) ?yg5 (by assumption) ?rg5
 case yg5=>intro w' hSw;(try dsimp only at hSw);go_simp;try (with_reducible rfl)
 go_simp
 refine takeW 6 ?vg6 rfl (by first | rfl | (go_simp;done)) ?yg6 (by assumption) ?rg6
 case yg6=>intro w' hSw;(try dsimp only at hSw);go_simp;try (with_reducible rfl)
 go_simp
 refine takeW 7 ?vg7 rfl (by rfl) ?yg7 (by assumption) ?rg7
 case yg7=>intro w' hSw;(try dsimp only at hSw);go_simp;try (with_reducible rfl)
 go_simp
 refine takeW 8 ?vg8 rfl (by rfl) ?yg8 (by assumption) ?rg8
 case yg8=>intro w' hSw;(try dsimp only at hSw);go_simp;try (with_reducible rfl)
 go_simp
 refine takeW 9 ?vg9 rfl (by first | rfl | (go_simp;done)) ?yg9 (by assumption) ?rg9
 case yg9=>intro w' hSw;(try dsimp only at hSw);go_simp;try (with_reducible rfl)
 go_simp
 refine takeW 10 ?vg10 rfl (by first | rfl | (go_simp;done)) ?yg10 (by assumption) ?rg10
 case yg10=>intro w' hSw;(try dsimp only at hSw);go_simp;try (with_reducible rfl)
 go_simp
 refine wpAnyH_ready (rs:=[11]) (by kernel_rfl) (by simp) ?_
 refine AllReadyH.cons rfl (fun K hK=>?_) AllReadyH.nil
 go_simp
 go_at_call 78
 refine (hoodRight_any t.hood HA hn hc _ (by exact HH.out.up (by first | exact below_on2 HN.out (by go_grown) | go_grown)) hm1).mono ?_
 rw [hh]
 rintro e w7 ⟨rfl,hb⟩
 have HN:=(show Hid (Below w1.heap.size w1 w7) from below_on HN.out (by go_grown) hb)
 clear hb
 refine hK.out _ _ ?_ (fun hHeld=>?_)
 ·(try dsimp only);exact HS _ (by first | exact below_on2 HN.out (by go_grown) | go_grown)
 clear hK K
 try go_simp
 refine takeW 12 ?vg12 rfl (by first | rfl | (go_simp;done)) ?yg12 (by assumption) ?rg12
 case yg12=>intro w' hSw;(try dsimp only at hSw);go_simp;try (with_reducible rfl)
 go_simp
 refine takeW 13 ?vg13 rfl (by rfl) ?yg13 (by assumption) ?rg13
 case yg13=>intro w' hSw;(try dsimp only at hSw);go_simp;try (with_reducible rfl)
 go_simp
 refine takeW 14 ?vg14 rfl (by rfl) ?yg14 (by assumption) ?rg14
 case yg14=>intro w' hSw;(try dsimp only at hSw);go_simp;try (with_reducible rfl)
 go_simp
 refine takeW 15 ?vg15 rfl (by first | rfl | (go_simp;done)) ?yg15 (by assumption) ?rg15
 case yg15=>intro w' hSw;(try dsimp only at hSw);go_simp;try (with_reducible rfl)
 go_simp
 refine takeW 16 ?vg16 rfl (by first | rfl | (go_simp;done)) ?yg16 (by assumption) ?rg16
 case yg16=>intro w' hSw;(try dsimp only at hSw);go_simp;try (with_reducible rfl)
 go_simp
 refine takeW 17 ?vg17 rfl (by rfl) ?yg17 (by assumption) ?rg17
 case yg17=>intro w' hSw;(try dsimp only at hSw);go_simp;try (with_reducible rfl)
 go_simp
 refine takeW 18 ?vg18 rfl (by rfl) ?yg18 (by assumption) ?rg18
 case yg18=>intro w' hSw;(try dsimp only at hSw);go_simp;try (with_reducible rfl)
 go_simp
 refine takeW 19 ?vg19 rfl (by first | rfl | (go_simp;done)) ?yg19 (by assumption) ?rg19
 case yg19=>intro w' hSw;(try dsimp only at hSw);go_simp;try (with_reducible rfl)
 go_simp
 refine takeW 20 ?vg20 rfl (by first | rfl | (go_simp;done)) ?yg20 (by assumption) ?rg20
 case yg20=>intro w' hSw;(try dsimp only at hSw);go_simp;try (with_reducible rfl)
 go_simp
 refine takeW 21 ?vg21 rfl (by rfl) ?yg21 (by assumption) ?rg21
 case yg21=>intro w' hSw;(try dsimp only at hSw);go_simp;try (with_reducible rfl)
 go_simp
 refine takeW 22 ?vg22 rfl (by rfl) ?yg22 (by assumption) ?rg22
 case yg22=>intro w' hSw;(try dsimp only at hSw);go_simp;try (with_reducible rfl)
 go_simp
 refine takeW 23 ?vg23 rfl (by first | rfl | (go_simp;done)) ?yg23 (by assumption) ?rg23
 case yg23=>intro w' hSw;(try dsimp only at hSw);go_simp;try (with_reducible rfl)
 go_simp
 refine takeW 24 ?vg24 rfl (by first | rfl | (go_simp;done)) ?yg24 (by assumption) ?rg24
 case yg24=>intro w' hSw;(try dsimp only at hSw);go_simp;try (with_reducible rfl)
 go_simp
 refine takeW 25 ?vg25 rfl (by first | rfl | (go_simp;done)) ?yg25 (by assumption) ?rg25
 case yg25=>intro w' hSw;(try dsimp only at hSw);go_simp;try (with_reducible rfl)
 go_simp
 refine takeW 26 ?vg26 rfl (by first | rfl | (go_simp;done)) ?yg26 (by assumption) ?rg26
 case yg26=>intro w' hSw;(try dsimp only at hSw);go_simp;try (with_reducible rfl)
 go_simp
 refine takeW 27 ?vg27 rfl (by first | rfl | (go_simp;done)) ?yg27 (by assumption) ?rg27
 case yg27=>intro w' hSw;(try dsimp only at hSw);go_simp;try (with_reducible rfl)
 go_simp
 refine takeW 28 ?vg28 rfl (by first | rfl | (go_simp;done)) ?yg28 (by assumption) ?rg28
 case yg28=>intro w' hSw;(try dsimp only at hSw);go_simp;try (with_reducible rfl)
 go_simp
 refine takeW 29 ?vg29 rfl (by first | rfl | (go_simp;done)) ?yg29 (by assumption) ?rg29
 case yg29=>intro w' hSw;(try dsimp only at hSw);go_simp;try (with_reducible rfl)
 go_simp
 refine takeW 30 ?vg30 rfl (by first | rfl | (go_simp;done)) ?yg30 (by assumption) ?rg30
 case yg30=>intro w' hSw;(try dsimp only at hSw);go_simp;try (with_reducible rfl)
 go_simp
 refine takeW 31 ?vg31 rfl (by first | rfl | (go_simp;done)) ?yg31 (by assumption) ?rg31
 case yg31=>intro w' hSw;(try dsimp only at hSw);go_simp;try (with_reducible rfl)
 go_simp
 refine takeW 32 ?vg32 rfl (by first | rfl | (go_simp;done)) ?yg32 (by assumption) ?rg32
 case yg32=>intro w' hSw;(try dsimp only at hSw);go_simp;try (with_reducible rfl)
 go_simp
 refine takeW 33 ?vg33 rfl (by first | rfl | (go_simp;done)) ?yg33 (by assumption) ?rg33
 case yg33=>intro w' hSw;(try dsimp only at hSw);go_simp;try (with_reducible rfl)
 go_simp
 refine takeW 34 ?vg34 rfl (by rfl) ?yg34 (by assumption) ?rg34
 case yg34=>intro w' hSw;(try dsimp only at hSw);go_simp;try (with_reducible rfl)
 go_simp
 refine wpAnyH_done (by kernel_rfl) ?_ _
 clear hs0 hs1 hd0 hd1 he0 he1 hne hwj hj1 hjn
 have RW:=hiD (rowCells RA.out HN.out)
 obtain ⟨k0,k1,k2,kl⟩:=RW.out.cells3
 go_wp2
 clear k0 k1 k2 kl RW hHeld HS hb hh
 go_loopg [4,49] (m+1) (fun gg _ s49 wr=>∃ kk:Nat,kk≤m+1∧m+1 - kk≤gg∧s49=.int .i64 kk∧Aside (Below w1.heap.size w1 wr)∧Aside (∀ j,j < kk→nodeOk t j=true))
 case atStart=>exact ⟨0,Nat.zero_le _,by omega,rfl,(by first | exact HN.out | exact below_drewN HN.out _ | exact below_on2 HN.out (by go_grown)),fun j hj=>absurd hj (Nat.not_lt_zero _)⟩
 case round=>
  obtain ⟨kk,hkk,hgg,rfl,BW,AA⟩:=hrel
  clear HN
  have RW:=hiD (rowCells RA.out BW.out)
  obtain ⟨k0,k1,k2,kl⟩:=RW.out.cells3
  have HBr:=hiD (below_on2 HB.out BW.out)
  by_cases hlt:kk < m+1
  ·have hltz:(kk:Int) < (m:Int)+1:=by omega
   obtain ⟨ad',e',hb',g0,g1⟩:=(H.out.up HBr.out).node hlt
   cases e'
   have HNX:=(H.out.up HBr.out).next kk (by rw [HL.out];exact hlt)
   generalize hx:t.nodes.getD kk default=x at g0 HNX
   generalize hq:sl.getD kk default=q at g1 HNX
   obtain ⟨qa,ql,qc⟩:=q
   dsimp only at HNX g1
   obtain ⟨hnx,hql⟩:=HNX
   have HNX:=hiD hnx
   have HNL:Hid (x.next.length=ql):=by have:=hnx.1;simp at this;show _=_;omega
   have HX:=hiD hx
   have hfalse:Hid (nodeOk t kk=false→rightT t=false):=fun he=>rightT_node kk (by rw [HL.out];exact hlt) he
   unfold maxLen at hql
   clear hx hq hnx
   by_cases c1:x.level < 1
   ·have HF:Hid (rightT t=false):=hfalse.out (nodeOk_len HX.out (by omega))
    go_wp2
    go_ret
    exact ⟨ret_bool HF.out.symm,below_on2 HBr.out (by go_grown)⟩
   by_cases c2:(hn:Int) < x.level
   ·have HF:Hid (rightT t=false):=hfalse.out (nodeOk_len HX.out (by rw [HLH.out];omega))
    go_wp2
    go_ret
    exact ⟨ret_bool HF.out.symm,below_on2 HBr.out (by go_grown)⟩
   cases c3:((ql:Int) != t.states)
   case true=>
    have HF:Hid (rightT t=false):=hfalse.out (nodeOk_len HX.out (by rw [HNL.out];rw [bne_iff_ne] at c3;omega))
    go_wp2
    go_ret
    exact ⟨ret_bool HF.out.symm,below_on2 HBr.out (by go_grown)⟩
   have HC:Hid (1≤x.level∧x.level≤t.hood.length∧(x.next.length:Int)=t.states):=⟨by omega,by rw [HLH.out];omega,by rw [HNL.out];simpa using c3⟩
   go_wp2
   clear c3 k0 k1 k2 kl g0 g1
   have RX:Hid (Row (World.alloc wr _) wr.heap.size 64 [.int .i64 x.level,.slice qa ql qc]):=Row.new wr 64 [.int .i64 x.level,.slice qa ql qc]
   have HW2:Hid (Below wr.heap.size wr (World.alloc wr (.cells #[.int .i64 x.level,.slice qa ql qc] 64))):=by show Below _ _ _;go_grown
   have RT:=hiD (rowCells RW.out HW2.out)
   revert RX HW2 RT
   generalize World.alloc wr (.cells #[.int .i64 x.level,.slice qa ql qc] 64)=w2
   intro RX HW2 RT
   have HB2:=hiD (below_on2 HBr.out HW2.out)
   have HN2:=hiD (below_on2 BW.out HW2.out)
   have HNX2:Hid (Rd w2 w2.heap.size 1 qa ql (ints x.next)):=HNX.out.up HW2.out
   clear HNX HBr RW BW HW2
   obtain ⟨wo,rfl⟩:∃ wo:World,wo=wr:=⟨_,rfl⟩
   go_loopg [7,76] ql (fun gg _ s76 wr=>∃ k2:Nat,k2≤ql∧ql - k2≤gg∧s76=.int .i64 k2∧Aside (Below w2.heap.size w2 wr)∧Aside (∀ s,s < k2→linkOk t kk x (x.next.getD s 0)=true))
   case atStart=>exact ⟨0,Nat.zero_le _,by omega,rfl,Below.refl _ _,fun j hj=>absurd hj (Nat.not_lt_zero _)⟩
   case round=>
    obtain ⟨n2,hn2,hg2,rfl,BI,AI⟩:=hrel
    have RXi:=hiD (rowCells RX.out BI.out)
    have RTi:=hiD (rowCells RT.out BI.out)
    obtain ⟨k0,k1,k2,kl⟩:=RTi.out.cells3
    obtain ⟨x0,x1,xl⟩:=RXi.out.cells2
    have HBi:=hiD (below_on2 HB2.out BI.out)
    by_cases hlt2:n2 < ql
    ·have hltz2:(n2:Int) < (ql:Int):=by omega
     obtain ⟨adn,rfl,hbn,hz⟩:=(HNX2.out.up BI.out).int hlt2
     generalize hzz:x.next.getD n2 0=z at hz
     have HZ:=hiD hzz
     have hfl:Hid (linkOk t kk x z=false→rightT t=false):=fun he=>hfalse.out (nodeOk_link HX.out n2 (by rw [HNL.out];exact hlt2) (by rw [HZ.out];exact he))
     clear hzz
     have hsub:IntKind.i64.wrap (x.level - 1)=x.level - 1:=IntWalk.i64_in _ (by omega)
     by_cases a1:z < 0
     ·have HF:Hid (rightT t=false):=hfl.out (decide_eq_false (by omega))
      have d1:decide (z < 0)=true:=by simpa using a1
      go_wp2_with fail
      go_quiet (fail)
      go_wp2
      go_ret
      exact ⟨ret_bool HF.out.symm,below_drewN HBi.out _⟩
     have d1:decide (z < 0)=false:=by simpa using a1
     cases d2:(x.level == 1)
     ·have hlev:1 < x.level:=by
       have:x.level≠1:=by simpa using d2
       omega
      have d3:decide (1 < x.level)=true:=by simpa using hlev
      by_cases a2:(kk:Int)≤z
      ·have HF:Hid (rightT t=false):=hfl.out (decide_eq_false (by omega))
       have d4:decide ((kk:Int)≤z)=true:=by simpa using a2
       go_wp2_with fail
       go_quiet (fail)
       go_wp2
       go_ret
       exact ⟨ret_bool HF.out.symm,below_drewN HBi.out _⟩
      obtain ⟨zn,rfl⟩:∃ zn:Nat,z=(zn:Int):=⟨z.toNat,by omega⟩
      have d4:decide ((kk:Int)≤(zn:Int))=false:=by simpa using a2
      have d4':decide (kk≤zn)=false:=by rw [decide_eq_false_iff_not];omega
      obtain ⟨ad3,e3,hb3,n0,n1⟩:=(H.out.up HBi.out).node (k:=zn) (by omega)
      cases e3
      clear n1
      generalize hlv:(t.nodes.getD zn default).level=lv at n0
      have HV:=hiD hlv
      clear hlv
      have hz1:(zn:Int) < (m:Int)+1:=by omega
      have hz2:(0:Int)≤(zn:Int):=by omega
      cases d5:(lv != x.level - 1)
      ·have HK:Hid (linkOk t kk x (zn:Int)=true):=decide_eq_true ⟨by omega,fun h=>by omega,fun _=>⟨by omega,by rw [Int.toNat_natCast,HV.out];simpa using d5⟩⟩
       go_wp2_with fail
       go_quiet (fail)
       go_wp2
       go_roundg (ql - (n2+1))
       case measure=>omega
       case rel=>
        refine ⟨n2+1,by omega,by omega,by go_num,(show Below _ _ _ from below_drewN BI.out _),(show Aside _ from fun j hj=>?_)⟩
        by_cases e:j=n2
        ·subst e;rw [HZ.out];exact HK.out
        ·exact AI.out j (by omega)
      ·have HF:Hid (rightT t=false):=hfl.out (decide_eq_false (fun h=>by
        have:=(h.2.2 hlev).2
        rw [Int.toNat_natCast,HV.out] at this
        rw [this] at d5;simp at d5))
       go_wp2_with fail
       go_quiet (fail)
       go_wp2
       go_ret
       exact ⟨ret_bool HF.out.symm,below_drewN HBi.out _⟩
     ·have HL1:Hid (x.level=1):=by show _=_;simpa using d2
      have d3:decide (1 < x.level)=false:=by rw [decide_eq_false_iff_not];have:=HL1.out;omega
      by_cases a2:t.states≤z
      ·have HF:Hid (rightT t=false):=hfl.out (decide_eq_false (fun h=>by have:=h.2.1 HL1.out;omega))
       have d4:decide (t.states≤z)=true:=by simpa using a2
       go_wp2_with fail
       go_quiet (fail)
       go_wp2
       go_ret
       exact ⟨ret_bool HF.out.symm,below_drewN HBi.out _⟩
      ·have d4:decide (t.states≤z)=false:=by simpa using a2
       have HK:Hid (linkOk t kk x z=true):=decide_eq_true ⟨by omega,fun _=>by omega,fun h=>by have:=HL1.out;omega⟩
       go_wp2_with fail
       go_quiet (fail)
       go_wp2
       go_roundg (ql - (n2+1))
       case measure=>omega
       case rel=>
        refine ⟨n2+1,by omega,by omega,by go_num,(show Below _ _ _ from below_drewN BI.out _),(show Aside _ from fun j hj=>?_)⟩
        by_cases e:j=n2
        ·subst e;rw [HZ.out];exact HK.out
        ·exact AI.out j (by omega)
    ·have hltz2:¬ (n2:Int) < (ql:Int):=by omega
     have HK:Hid (nodeOk t kk=true):=nodeOk_all HX.out HC.out (fun s hs=>AI.out s (by rw [HNL.out] at hs;omega))
     go_wp2
     go_roundg (m+1 - (kk+1))
     case measure=>omega
     case rel=>
      refine ⟨kk+1,by omega,by omega,by go_num,(show Below _ _ _ from below_on2 HN2.out BI.out),(show Aside _ from fun j hj=>?_)⟩
      by_cases e:j=kk
      ·subst e;exact HK.out
      ·exact AA.out j (by omega)
  ·have hltz:¬ (kk:Int) < (m:Int)+1:=by omega
   go_wp2
   go_ret
   exact ⟨ret_bool (rightT_all HH0.out HG.out (fun i hi=>AA.out i (by rw [HL.out] at hi;omega))).symm,HBr.out⟩
theorem treeRight_any (t:Tre) (HA NA:Option Addr) (hn hc nn nc:Nat) (sl:List Sl) (w:World) (h:TAt w t HA NA hn nn sl):
 Calls Try.prog 49 #[.agg #[.int .i64 t.states,.slice HA hn hc,.slice NA nn nc]] w fun e w'=>e=.returned (.bool (rightT t))∧Below w.heap.size w w':=by
 by_cases hb:hoodOk t.hood=true∧headOk t=true
 ·exact treeRight_ok t HA NA hn hc nn nc sl w h hb.1 hb.2
 ·exact treeRight_bad t HA NA hn hc nn nc sl w h hb
end Go.Proofs.Ytiemhbogbaamlaa
/-
 A part.
-/
namespace Go.Proofs.Ytiemhbogbaamlaa
open Go.RowKit
set_option maxRecDepth 100000 in
set_option maxHeartbeats 4000000 in
theorem rTreeRight_any (t:Tre) (HA NA:Option Addr) (hn hc nn nc:Nat) (sl:List Sl) (w:World) (h:TAt w t HA NA hn nn sl):
 Calls Try.prog 22 #[.agg #[.int .i64 t.states,.slice HA hn hc,.slice NA nn nc]] w fun e w'=>e=.returned (.bool (rightT t))∧Below w.heap.size w w':=by
 have H:=hiD h
 have HL:Hid (t.nodes.length=nn):=h.nl
 have HLH:Hid (t.hood.length=hn):=h.hl
 have hm1:=h.h63
 have hm2:=h.n63
 clear h
 have hm1':=hm1
 unfold maxLen at hm2 hm1'
 by_cases q1:t.states < 2
 ·have HF:Hid (rightT t=false):=rightT_head (decide_eq_false (by omega))
  go_enter Try.func22,Try.ntmps22
  go_wp2
  go_ret
  exact ⟨ret_bool HF.out.symm,by go_grown⟩
 by_cases q2:8 < t.states
 ·have HF:Hid (rightT t=false):=rightT_head (decide_eq_false (by omega))
  go_enter Try.func22,Try.ntmps22
  go_wp2
  go_ret
  exact ⟨ret_bool HF.out.symm,by go_grown⟩
 go_enter Try.func22,Try.ntmps22
 go_wp2_with fail
 refine (rHoodRight_any t.hood HA hn hc _ (H.out.hood.up (by go_grown)) hm1).mono ?_
 rintro e w1 ⟨rfl,hb⟩
 have HB:Hid (Below w.heap.size w w1):=below_next hb (by go_grown)
 have RA:Hid (Row w1 w.heap.size 25 [.int .i64 t.states,.slice HA hn hc,.slice NA nn nc]):=rowCells (Row.new w 25 [.int .i64 t.states,.slice HA hn hc,.slice NA nn nc]) hb
 clear hb
 cases hh:hoodOk t.hood
 ·have HF:Hid (rightT t=false):=by show _=_;simp [rightT,hh]
  go_wp2
  go_ret
  exact ⟨ret_bool HF.out.symm,HB.out⟩
 have HH0:=hiD hh
 clear hh
 by_cases q3:(nn:Int) < 1
 ·have HF:Hid (rightT t=false):=rightT_head (decide_eq_false (by rw [HL.out];omega))
  go_wp2
  go_ret
  exact ⟨ret_bool HF.out.symm,HB.out⟩
 by_cases q4:4096 < (nn:Int)
 ·have HF:Hid (rightT t=false):=rightT_head (decide_eq_false (by rw [HL.out];omega))
  go_wp2
  go_ret
  exact ⟨ret_bool HF.out.symm,HB.out⟩
 have hn25:hn≤25:=by
  have hh:=HH0.out
  simp only [hoodOk,Bool.and_eq_true,decide_eq_true_eq] at hh
  rw [HLH.out] at hh;omega
 have HQ:Hid ((2≤t.states∧t.states≤8)∧1≤nn∧nn≤4096):=⟨⟨by omega,by omega⟩,by omega,by omega⟩
 go_wp2
 clear q1 q2 q3 q4 hm1'
 obtain ⟨⟨q1,q2⟩,q3,q4⟩:=HQ.out
 go_loopg [4] nn (fun gg s4 wr=>∃ kk:Nat,kk≤nn∧nn - kk≤gg∧s4=.int .i64 kk∧Aside (Below w1.heap.size w1 wr)∧Aside (∀ j,j < kk→nodeOk t j=true))
 case atStart=>exact ⟨0,Nat.zero_le _,by omega,rfl,Below.refl _ _,fun j hj=>absurd hj (Nat.not_lt_zero _)⟩
 case round=>
  obtain ⟨kk,hkk,hgg,rfl,BW,AA⟩:=hrel
  have RW:=hiD (rowCells RA.out BW.out)
  obtain ⟨k0,k1,k2,kl⟩:=RW.out.cells3
  have HBr:=hiD (below_on2 HB.out BW.out)
  by_cases hlt:kk < nn
  ·have hltz:(kk:Int) < (nn:Int):=by omega
   obtain ⟨ad,rfl,hb',g0,g1⟩:=(H.out.up HBr.out).node hlt
   have HNX:=(H.out.up HBr.out).next kk (by rw [HL.out];exact hlt)
   generalize hx:t.nodes.getD kk default=x at g0 HNX
   generalize hq:sl.getD kk default=q at g1 HNX
   obtain ⟨qa,ql,qc⟩:=q
   dsimp only at HNX g1
   obtain ⟨hnx,hql⟩:=HNX
   have HNX:=hiD hnx
   have HNL:Hid (x.next.length=ql):=by have:=hnx.1;simp at this;show _=_;omega
   have HX:=hiD hx
   have hfalse:Hid (nodeOk t kk=false→rightT t=false):=fun he=>rightT_node kk (by rw [HL.out];exact hlt) he
   unfold maxLen at hql
   clear hx hq hnx
   by_cases c1:x.level < 1
   ·have HF:Hid (rightT t=false):=hfalse.out (nodeOk_len HX.out (by omega))
    go_wp2
    go_ret
    exact ⟨ret_bool HF.out.symm,below_on2 HBr.out (by go_grown)⟩
   by_cases c2:(hn:Int) < x.level
   ·have HF:Hid (rightT t=false):=hfalse.out (nodeOk_len HX.out (by rw [HLH.out];omega))
    go_wp2
    go_ret
    exact ⟨ret_bool HF.out.symm,below_on2 HBr.out (by go_grown)⟩
   cases c3:((ql:Int) != t.states)
   case true=>
    have HF:Hid (rightT t=false):=hfalse.out (nodeOk_len HX.out (by rw [HNL.out];rw [bne_iff_ne] at c3;omega))
    go_wp2
    go_ret
    exact ⟨ret_bool HF.out.symm,below_on2 HBr.out (by go_grown)⟩
   have HC:Hid (1≤x.level∧x.level≤t.hood.length∧(x.next.length:Int)=t.states):=⟨by omega,by rw [HLH.out];omega,by rw [HNL.out];simpa using c3⟩
   go_wp2
   clear c3 k0 k1 k2 kl g0 g1
   have RX:Hid (Row (World.alloc wr _) wr.heap.size 64 [.int .i64 x.level,.slice qa ql qc]):=Row.new wr 64 [.int .i64 x.level,.slice qa ql qc]
   have HW2:Hid (Below wr.heap.size wr (World.alloc wr (.cells #[.int .i64 x.level,.slice qa ql qc] 64))):=by show Below _ _ _;go_grown
   have RT:=hiD (rowCells RW.out HW2.out)
   revert RX HW2 RT
   generalize World.alloc wr (.cells #[.int .i64 x.level,.slice qa ql qc] 64)=w2
   intro RX HW2 RT
   have HB2:=hiD (below_on2 HBr.out HW2.out)
   have HN2:=hiD (below_on2 BW.out HW2.out)
   have HNX2:Hid (Rd w2 w2.heap.size 1 qa ql (ints x.next)):=HNX.out.up HW2.out
   clear HNX HBr RW BW HW2
   obtain ⟨wo,rfl⟩:∃ wo:World,wo=wr:=⟨_,rfl⟩
   go_loopg [6,7] ql (fun gg s6 _ wr=>∃ k2:Nat,k2≤ql∧ql - k2≤gg∧s6=.int .i64 k2∧Aside (Below w2.heap.size w2 wr)∧Aside (∀ s,s < k2→linkOk t kk x (x.next.getD s 0)=true))
   case atStart=>exact ⟨0,Nat.zero_le _,by omega,rfl,Below.refl _ _,fun j hj=>absurd hj (Nat.not_lt_zero _)⟩
   case round=>
    obtain ⟨n2,hn2,hg2,rfl,BI,AI⟩:=hrel
    have RXi:=hiD (rowCells RX.out BI.out)
    have RTi:=hiD (rowCells RT.out BI.out)
    obtain ⟨k0,k1,k2,kl⟩:=RTi.out.cells3
    obtain ⟨x0,x1,xl⟩:=RXi.out.cells2
    have HBi:=hiD (below_on2 HB2.out BI.out)
    have hqs:Hid ((ql:Int)=t.states):=by have:=HC.out.2.2;rw [HNL.out] at this;exact this
    by_cases hlt2:n2 < ql
    ·have hltz2:(n2:Int) < t.states:=by have:=hqs.out;omega
     have hltz3:(n2:Int) < (ql:Int):=by omega
     obtain ⟨adn,rfl,hbn,hz⟩:=(HNX2.out.up BI.out).int hlt2
     generalize hzz:x.next.getD n2 0=z at hz
     have HZ:=hiD hzz
     have hfl:Hid (linkOk t kk x z=false→rightT t=false):=fun he=>hfalse.out (nodeOk_link HX.out n2 (by rw [HNL.out];exact hlt2) (by rw [HZ.out];exact he))
     clear hzz
     have hsub:IntKind.i64.wrap (x.level - 1)=x.level - 1:=IntWalk.i64_in _ (by omega)
     by_cases a1:z < 0
     ·have HF:Hid (rightT t=false):=hfl.out (decide_eq_false (by omega))
      have d1:decide (z < 0)=true:=by simpa using a1
      go_wp2
      go_ret
      exact ⟨ret_bool HF.out.symm,HBi.out⟩
     have d1:decide (z < 0)=false:=by simpa using a1
     cases d2:(x.level == 1)
     ·have hlev:1 < x.level:=by
       have:x.level≠1:=by simpa using d2
       omega
      have d3:decide (1 < x.level)=true:=by simpa using hlev
      by_cases a2:(kk:Int)≤z
      ·have HF:Hid (rightT t=false):=hfl.out (decide_eq_false (by omega))
       have d4:decide ((kk:Int)≤z)=true:=by simpa using a2
       go_wp2_with fail
       go_quiet (fail)
       go_wp2
       go_ret
       exact ⟨ret_bool HF.out.symm,below_drewN HBi.out _⟩
      obtain ⟨zn,rfl⟩:∃ zn:Nat,z=(zn:Int):=⟨z.toNat,by omega⟩
      have d4:decide ((kk:Int)≤(zn:Int))=false:=by simpa using a2
      have d4':decide (kk≤zn)=false:=by rw [decide_eq_false_iff_not];omega
      obtain ⟨ad3,e3,hb3,n0,n1⟩:=(H.out.up HBi.out).node (k:=zn) (by omega)
      cases e3
      clear n1
      generalize hlv:(t.nodes.getD zn default).level=lv at n0
      have HV:=hiD hlv
      clear hlv
      have hz1:(zn:Int) < (nn:Int):=by omega
      have hz2:(0:Int)≤(zn:Int):=by omega
      cases d5:(lv != x.level - 1)
      ·have HK:Hid (linkOk t kk x (zn:Int)=true):=decide_eq_true ⟨by omega,fun h=>by omega,fun _=>⟨by omega,by rw [Int.toNat_natCast,HV.out];simpa using d5⟩⟩
       go_wp2_with fail
       go_quiet (fail)
       go_wp2
       go_roundg (ql - (n2+1))
       case measure=>omega
       case rel=>
        refine ⟨n2+1,by omega,by omega,by go_num,(show Below _ _ _ from below_drewN BI.out _),(show Aside _ from fun j hj=>?_)⟩
        by_cases e:j=n2
        ·subst e;rw [HZ.out];exact HK.out
        ·exact AI.out j (by omega)
      ·have HF:Hid (rightT t=false):=hfl.out (decide_eq_false (fun h=>by
        have:=(h.2.2 hlev).2
        rw [Int.toNat_natCast,HV.out] at this
        rw [this] at d5;simp at d5))
       go_wp2_with fail
       go_quiet (fail)
       go_wp2
       go_ret
       exact ⟨ret_bool HF.out.symm,below_drewN HBi.out _⟩
     ·have HL1:Hid (x.level=1):=by show _=_;simpa using d2
      have d3:decide (1 < x.level)=false:=by rw [decide_eq_false_iff_not];have:=HL1.out;omega
      by_cases a2:t.states≤z
      ·have HF:Hid (rightT t=false):=hfl.out (decide_eq_false (fun h=>by have:=h.2.1 HL1.out;omega))
       have d4:decide (t.states≤z)=true:=by simpa using a2
       go_wp2
       go_ret
       exact ⟨ret_bool HF.out.symm,HBi.out⟩
      ·have d4:decide (t.states≤z)=false:=by simpa using a2
       have HK:Hid (linkOk t kk x z=true):=decide_eq_true ⟨by omega,fun _=>by omega,fun h=>by have:=HL1.out;omega⟩
       go_wp2_with fail
       go_quiet (fail)
       go_wp2
       go_roundg (ql - (n2+1))
       case measure=>omega
       case rel=>
        refine ⟨n2+1,by omega,by omega,by go_num,(show Below _ _ _ from below_drewN BI.out _),(show Aside _ from fun j hj=>?_)⟩
        by_cases e:j=n2
        ·subst e;rw [HZ.out];exact HK.out
        ·exact AI.out j (by omega)
    ·have hltz2:¬ (n2:Int) < t.states:=by have:=hqs.out;omega
     have HK:Hid (nodeOk t kk=true):=nodeOk_all HX.out HC.out (fun s hs=>AI.out s (by rw [HNL.out] at hs;omega))
     go_wp2
     go_roundg (nn - (kk+1))
     case measure=>omega
     case rel=>
      refine ⟨kk+1,by omega,by omega,by go_num,(show Below _ _ _ from below_on2 HN2.out BI.out),(show Aside _ from fun j hj=>?_)⟩
      by_cases e:j=kk
      ·subst e;exact HK.out
      ·exact AA.out j (by omega)
  ·have hltz:¬ (kk:Int) < (nn:Int):=by omega
   obtain rfl:kk=nn:=by omega
   have hall:Hid (∀ i,i < t.nodes.length→nodeOk t i=true):=fun i hi=>AA.out i (by rw [HL.out] at hi;omega)
   obtain ⟨m,rfl⟩:∃ m,kk=m+1:=⟨kk - 1,by omega⟩
   obtain ⟨ad,rfl,hb,g0,g1⟩:=(H.out.up HBr.out).node (k:=m) (by omega)
   clear g1
   generalize hlv:(t.nodes.getD m default).level=lv at g0
   have HV:=hiD hlv
   clear hlv
   have hj1:(0:Int)≤(m:Int):=by omega
   have hjn:(m:Int) < (m:Int)+1:=by omega
   have hwj:IntKind.i64.wrap (m:Int)=(m:Int):=IntWalk.i64_in _ (by omega)
   go_wp2_with fail
   go_quiet (fail)
   go_wp2
   go_ret
   refine ⟨ret_bool ?_,below_drewN HBr.out _⟩
   have e1:headOk t=decide (lv=(hn:Int)):=by
    unfold headOk
    rw [HL.out,Nat.add_sub_cancel,HV.out,HLH.out]
    rw [decide_eq_decide]
    constructor
    ·intro h;exact h.2.2.2
    ·intro h;exact ⟨⟨q1,q2⟩,by omega,by omega,h⟩
   have e2:nodesOk t=true:=decide_eq_true hall.out
   rw [rightT,HH0.out,e1,e2]
   rw [Bool.eq_iff_iff];simp
end Go.Proofs.Ytiemhbogbaamlaa
/-
 A part.
-/
namespace Go.Proofs.Ytiemhbogbaamlaa
open Go.RowKit
def fewT (t:Tre):Bool:=decide (t.hood.length≤40∧t.nodes.length≤400∧∀ i,i < t.nodes.length→(t.nodes.getD i default).next.length≤20)
theorem fewT_parts {t:Tre} (h:fewT t=true):t.hood.length≤40∧t.nodes.length≤400:=by
 have:=of_decide_eq_true h
 exact ⟨this.1,this.2.1⟩
set_option maxHeartbeats 1000000 in
theorem fewT_any (t:Tre) (HA NA:Option Addr) (hn hc nn nc:Nat) (sl:List Sl) (w:World) (h:TAt w t HA NA hn nn sl):
 Calls Try.prog 8 #[.agg #[.int .i64 t.states,.slice HA hn hc,.slice NA nn nc]] w fun e w'=>e=.returned (.bool (fewT t))∧Below w.heap.size w w':=by
 have H:=hiD h
 have HL:Hid (t.nodes.length=nn):=h.nl
 have HLH:Hid (t.hood.length=hn):=h.hl
 have hm1:=h.h63
 have hm2:=h.n63
 clear h
 unfold maxLen at hm1 hm2
 by_cases q1:40 < hn
 ·have HF:Hid (fewT t=false):=decide_eq_false (by rw [HLH.out];omega)
  go_enter Try.func8,Try.ntmps8
  go_wp2
  go_ret
  exact ⟨ret_bool HF.out.symm,by go_grown⟩
 by_cases q2:400 < nn
 ·have HF:Hid (fewT t=false):=decide_eq_false (by rw [HL.out];omega)
  go_enter Try.func8,Try.ntmps8
  go_wp2
  go_ret
  exact ⟨ret_bool HF.out.symm,by go_grown⟩
 go_enter Try.func8,Try.ntmps8
 go_wp2
 go_loopg [3,17] nn (fun gg _ s17 wr=>∃ kk:Nat,kk≤nn∧nn - kk≤gg∧s17=.int .i64 kk∧wr=w.alloc (.cells #[.int .i64 t.states,.slice HA hn hc,.slice NA nn nc] 25)∧Aside (∀ j,j < kk→(t.nodes.getD j default).next.length≤20))
 case atStart=>exact ⟨0,Nat.zero_le _,by omega,rfl,rfl,fun j hj=>absurd hj (Nat.not_lt_zero _)⟩
 case round=>
  obtain ⟨kk,hkk,hgg,rfl,rfl,AA⟩:=hrel
  by_cases hlt:kk < nn
  ·have hltz:(kk:Int) < (nn:Int):=by omega
   obtain ⟨ad,rfl,hb',g0,g1⟩:=H.out.node hlt
   have HNX:=H.out.next kk (by rw [HL.out];exact hlt)
   have hadz:(ad.add (kk * 2)).block < w.heap.size:=by rw [add_block];exact hb'
   generalize hq:sl.getD kk default=q at g1 HNX
   obtain ⟨qa,ql,qc⟩:=q
   dsimp only at HNX g1
   obtain ⟨hnx,hql⟩:=HNX
   have HNL:Hid ((t.nodes.getD kk default).next.length=ql):=by have:=hnx.1;rw [ints_length,Nat.mul_one] at this;exact this
   unfold maxLen at hql
   clear hq hnx g0
   by_cases q3:20 < ql
   ·have HF:Hid (fewT t=false):=decide_eq_false (fun h=>by
     have:=h.2.2 kk (by rw [HL.out];exact hlt)
     rw [HNL.out] at this;omega)
    go_wp2
    go_ret
    exact ⟨ret_bool HF.out.symm,by go_grown⟩
   ·go_wp2
    go_roundg (nn - (kk+1))
    case measure=>omega
    case rel=>
     refine ⟨kk+1,by omega,by omega,by go_num,rfl,(show Aside _ from fun j hj=>?_)⟩
     by_cases e:j=kk
     ·subst e;rw [HNL.out];omega
     ·exact AA.out j (by omega)
  ·have hltz:¬ (kk:Int) < (nn:Int):=by omega
   obtain rfl:kk=nn:=by omega
   have HF:Hid (fewT t=true):=decide_eq_true ⟨by rw [HLH.out];omega,by rw [HL.out];omega,fun i hi=>AA.out i (by rw [HL.out] at hi;omega)⟩
   go_wp2
   go_ret
   exact ⟨ret_bool HF.out.symm,by go_grown⟩
theorem il_snoc (l:List Int) (k:Nat) (h:k < l.length):l.take (k+1)=l.take k ++ [l.getD k 0]:=by
 rw [List.take_succ_eq_append_getElem h,List.getD_eq_getElem?_getD,List.getElem?_eq_getElem h];rfl
end Go.Proofs.Ytiemhbogbaamlaa
/-
 A part.
-/
namespace Go.Proofs.Ytiemhbogbaamlaa
open Go.RowKit
theorem bit_int (x:Int) (k:Nat) (h0:0≤x) (h1:x≤7):bits BinOp.and IntKind.i64 (x / 2 ^ k) 1=if bitI x k=true then 1 else 0:=by rw [bit_run x k h0 h1,bit_cases]
theorem iint_snoc (l:List Int) (x:Int):ints (l ++ [x])=ints l ++ [.int .i64 x]:=by simp [ints]
set_option maxRecDepth 100000 in
set_option maxHeartbeats 2000000 in
theorem ltest_any (B b N bb i s Bn:Nat) (gs:List Gt) (cs:List Value) (nv:Value) (w:World) (h:LSt w B b N gs cs) (hN:N≤100) (hl:gs.length≤20000) (h6:cs[4]?=some (.int .i64 bb)) (h7:cs[5]?=some nv)
 (hn:w.ownsRow Bn 3 1 nv N (ints (notsW N))) (hb:1≤bb) (hb3:bb≤3) (hi:i * bb+bb≤N) (hs:s≤7):
 Calls Try.prog 52 #[.pointer (some ⟨b,0,none⟩),.int .i64 i,.int .i64 s] w fun e w'=>e=.returned (.int .i64 (testS N bb gs i s).2)∧LSt w' B b N (testS N bb gs i s).1 cs∧LFrm B w w':=by
 have H:=hiD h
 have HN:=hiD hn
 obtain ⟨NA,nc,rfl,_⟩:=Rd.own hn
 have H6:=hiD h6
 have H7:=hiD h7
 clear h hn h6 h7
 have c6:=(H.out.cs 4).trans H6.out
 obtain ⟨hbl,hBb⟩:=H.out.blk
 go_enter Try.func52,Try.ntmps52
 go_wp2
 clear c6 hbl
 go_loopg [7,8,13] bb (fun gg s7 _ s13 wr=>∃ (kk:Nat),kk≤bb∧bb - kk≤gg∧s13=.int .i64 kk∧Aside (Below w.heap.size w wr)∧Aside (wr.ownsRow w.heap.size 3 1 s7 kk (ints ((litsF N bb i s).take kk))))
 case atStart=>exact ⟨0,Nat.zero_le _,by omega,rfl,Below.refl _ _,World.ownsRow_nil _ _ _ _⟩
 case round=>
  obtain ⟨kk,hkk,hgg,rfl,BW,OW⟩:=hrel
  by_cases hlt:kk < bb
  ·have hltz:(kk:Int) < (bb:Int):=by omega
   have hbit:=bit_int (s:Int) kk (by omega) (by omega)
   obtain ⟨q,hq⟩:∃ q:Int,q=if bitI (s:Int) kk=true then 1 else 0:=⟨_,rfl⟩
   rw [← hq] at hbit
   have HQ:=hiD hq
   have HT:Hid ((litsF N bb i s).take (kk+1)=(litsF N bb i s).take kk ++ [litF N (i * bb+kk) (bitI (s:Int) kk)]):=by
    show _=_
    rw [il_snoc _ _ (by rw [litsF_length];exact hlt),litsF_get _ _ _ _ _ hlt]
   obtain ⟨NA',nc',e9,hRN⟩:=Rd.own (own_below HN.out BW.out (Nat.le_refl _))
   cases e9
   have HRN:=hiD hRN
   have LS:=H.out.below BW.out
   have h6:Hid (wr.cell? ⟨b,6,none⟩=some (.int .i64 bb)):=(LS.cs 4).trans H6.out
   have h7:Hid (wr.cell? ⟨b,7,none⟩=some (.slice NA N nc)):=(LS.cs 5).trans H7.out
   have hsz:w.heap.size≤wr.heap.size:=BW.out.size
   generalize (litsF N bb i s).take kk=xs at OW HT
   generalize hlit:litF N (i * bb+kk) (bitI (s:Int) kk)=lv at HT
   have HLV:=hiD hlit
   have hjN:Hid (i * bb+kk < N):=by show _ < _;omega
   clear LS hRN hq hlit
   go_wp2_with (first | (go_at_call 79;refine (llit_any b N bb i kk nc NA (bitI (s:Int) kk) q _ h6.out h7.out HRN.out hjN.out hN HQ.out).mono ?_;rw [HLV.out];rintro e w4 ⟨rfl,rfl⟩) | (at_builtin;refine wpList_app rfl (.tmp 16) (.tmp 25) 35 rfl w.heap.size 3 (.int .i64 0) 1 8 Try.underlying35 int_infoL rfl (by decide) (by decide) u7 (kk) (ints xs) rfl ?own (wr.heap.size+1) (some ⟨wr.heap.size,0,none⟩) 1 1 [.int .i64 lv] rfl ?rd ?one ?hb ?hbase ?_))
   case own=>exact (OW.out).alloc _
   case rd=>exact Rd.lit wr #[.int .i64 lv] 3 (sz:=1) (m:=1) rfl
   case one=>intro u hu;simp at hu;subst hu;rfl
   case hb=>omega
   case hbase=>simp;omega
   intro v' w' hown' hgrow' hat'
   have BB:=BW.out
   have B3:Below w.heap.size w (wr.alloc (.cells #[.int .i64 lv] 3)):=by go_grown
   have HB4:Aside (Below w.heap.size w w'):=B3.grown hgrow' (by simp;omega) (fun k hk=>(OW.out.lt k hk).1)
   have HOWN':Aside (w'.ownsRow w.heap.size 3 1 v' (kk+1) (ints (xs ++ [lv]))):=by
    show w'.ownsRow _ _ _ _ _ _
    rw [iint_snoc]
    exact hown'
   clear B3 BB hown' hgrow' hat' hbit
   go_wp2
   go_roundg (bb - (kk+1))
   case measure=>omega
   case rel=>
    refine ⟨kk+1,by omega,by omega,by go_num,HB4.out,?_⟩
    show World.ownsRow _ _ _ _ _ _ _
    rw [HT.out]
    exact HOWN'.out
  ·have hltz:¬ (kk:Int) < (bb:Int):=by omega
   obtain rfl:kk=bb:=by omega
   have LS:Hid (LSt wr B b N gs cs):=H.out.below BW.out
   have HA:Hid (allS N 3 gs ((litsF N kk i s).take kk)=testS N kk gs i s):=by
    show _=_
    rw [List.take_of_length_le (by rw [litsF_length];exact Nat.le_refl _)];rfl
   have hbB:Hid (B≤w.heap.size):=by show _≤_;have:=H.out.blk;omega
   go_wp2_with fail
   refine (lall_any B b N w.heap.size kk gs cs 3 u7 ((litsF N kk i s).take kk) _ LS.out hN hl OW.out hb (by omega)).mono ?_
   rw [HA.out]
   rintro e w2 ⟨rfl,hl2,hf2⟩
   have LS2:=hiD hl2
   have FF2:Hid (LFrm B w w2):=Frm.trans (Frm.ofBelow BW.out hbB.out) hf2
   clear hl2 hf2
   go_wp2
   go_ret
   exact ⟨rfl,LS2.out,FF2.out⟩
end Go.Proofs.Ytiemhbogbaamlaa
