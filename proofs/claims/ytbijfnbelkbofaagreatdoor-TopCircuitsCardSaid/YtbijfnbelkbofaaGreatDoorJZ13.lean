/-
  Lemmas for the law TopCircuits.
-/
import Derived.Test.YtbijfnbelkbofaaGreatDoorJZ1
import Derived.Test.YtbijfnbelkbofaaGreatDoorJZ7
import Derived.Test.YtbijfnbelkbofaaGreatDoorJZ12
import Derived.Maps.OwnOps
set_option linter.unusedSimpArgs false
set_option linter.unusedVariables false
namespace Go.Proofs.YtbijfnbelkbofaaGreatDoor
open Go.RowKit
theorem gates_keep {H:Type} {P:Program} {k:TypeId} {R:Value→Option (DataW H × List MemPlace)} {b n:Nat} {D:DataW H} {w w':World} (hm:w.ownsMap P k R b n D) (hg:w.grownBy w' (some b)) {g:Nat} {cs:Array Value} {T:TypeId} {fz:Nat × Nat} (h:w.heap[g]?=some (.cells cs T fz)):w'.heap[g]?=some (.cells cs T fz):=by
 rw [hg.block g (heap_lt h) (fun e=>by
  obtain ⟨es,clock,hb,_⟩:=hm
  cases e
  rw [h] at hb
  cases hb)]
 exact h
theorem WkAt.keepC {B b:Nat} {w w':World} {n:Int} {s:Wk} (h:WkAt w B b n s) (hb:∀ (k:Nat) (cs:Array Value) (T:TypeId) (fz:Nat × Nat),w.heap[k]?=some (.cells cs T fz)→w'.heap[k]?=some (.cells cs T fz)):WkAt w' B b n s:=by
 obtain ⟨gv,tv,h1,h2,h3,h4⟩:=h
 exact ⟨gv,tv,hb _ _ _ _ h1,⟨h2.1,h2.2.imp id (fun ⟨g,cap,cur,a,b',c,d⟩=>⟨g,cap,cur,a,b',hb _ _ _ _ c,d⟩)⟩,
  ⟨h3.1,h3.2.imp id (fun ⟨g,cap,cur,a,b',c,d⟩=>⟨g,cap,cur,a,b',hb _ _ _ _ c,d⟩)⟩,h4⟩
theorem WFr.map {H:Type} {P:Program} {k:TypeId} {R:Value→Option (DataW H × List MemPlace)} {B b n:Nat} {D:DataW H} {w w':World} (h:WFr B w w') (hm:w.ownsMap P k R b n D):w'.ownsMap P k R b n D:=by
 obtain ⟨es,clock,hb,hr⟩:=hm;exact ⟨es,clock,h.keep b _ hb (fun _ _ _ e=>by cases e),hr⟩
set_option maxRecDepth 100000 in
set_option maxHeartbeats 8000000 in
theorem share_any (c:Circ) (GA OA:Option Addr) (gn gc on oc:Nat) (w:World) (hc:CAt w c GA OA gn on):
 Calls Tryz.prog 34 #[.agg #[.int .i64 c.inputs,.slice GA gn gc,.slice OA on oc]] w (CiPost (shareC c) w.heap.size w):=by
 have HC0:Hid (CAt w c GA OA gn on):=hc;have HGL:Hid (∀ _:Unit,c.gates.length=gn):=fun _=>hc.gl
 have HOL:Hid (∀ _:Unit,c.outs.length=on):=fun _=>hc.ol
 clear hc;have hmm:=@run_makeMap Tryz.prog;go_enter Tryz.func34,Tryz.ntmps34;go_wp2_with fail;obtain ⟨wa,hW9,RC,RR,hgr9⟩:=laid2 w [.int .i64 c.inputs,.slice GA gn gc,.slice OA on oc] 36 [.int .i64 0,.slice none 0 0,.slice none 0 0] 36;rewrite [hW9];clear hW9;have B_w:=hiD hgr9;clear hgr9;have hwa:w.heap.size+1 < wa.heap.size:=RR.out.lt
 obtain ⟨q,hq⟩:∃ q,rightC c=q:=⟨_,rfl⟩
 have HQ:=hiU hq;have HC:=cright_at c GA OA gn gc on oc wa (HC0.out.up B_w.out);rw [hq] at HC;clear hq;refine HC.mono ?_;clear HC;rintro e w1 ⟨rfl,hb⟩;have hwb:wa.heap.size≤w1.heap.size:=hb.size;have B_w:=hiD (below_on2 B_w.out hb);have B_wa:Hid (Below wa.heap.size wa w1):=hb;clear hb;have RR1:=hiD (rowCells RR.out B_wa.out);have RC1:=hiD (rowCells RC.out B_wa.out);have BW1:Hid (Below w.heap.size w w1):=B_w;clear B_w B_wa RC RR
 cases q
 ·skip
  obtain ⟨z0,z1,z2,zl⟩:=RR1.out.cells3;obtain ⟨zf0,zf1,zf2⟩:=RR1.out.froz3;go_wp2;have Z9:=RR1.out.set3 (.int .i64 0) (.slice none 0 0) (.slice none 0 0);have B9:=bSet3 BW1.out (w.heap.size+1) (by show _≤(w.heap.size+1);omega) (.int .i64 0) (.slice none 0 0) (.slice none 0 0);obtain ⟨d0,d1,d2,-⟩:=Z9.cells3;clear Z9;refine bodyPost_ret (v:=.agg #[.int .i64 0,.slice none 0 0,.slice none 0 0]) (by simp [results,Tryz.results34,go_sem,d0,d1,d2]) rfl ?_;have HV:shareC c=noCirc:=by unfold shareC;rw [if_neg (by rw [HQ.out ()];decide)]
  rw [HV];exact ⟨none,none,0,0,0,0,rfl,noCirc_at _,.none,.none,B9⟩
 ·have HR:Hid (rightC c=true):=HQ.out ();obtain ⟨⟨hn0,hn1,hg0,ho0⟩,_⟩:=rightC_parts HR.out;rw [HGL.out ()] at hg0;rw [HOL.out ()] at ho0;clear HQ;obtain ⟨k0,k1,k2,kl⟩:=RC1.out.cells3;go_wp2_with fail;refine (start_any c GA OA gn gc on oc w1 ⟨hn0,hn1⟩).mono ?_;rintro e w2 ⟨rfl,hwk,hb⟩;have HK:Hid (WkAt w2 w1.heap.size (w1.heap.size+1) c.inputs (shareTo c 0)):=hwk;have RR2:=hiD (rowCells RR1.out hb);have RC2:=hiD (rowCells RC1.out hb);have BW2:=hiD (below_on2 BW1.out hb);have hs2:w1.heap.size+1 < w2.heap.size:=hwk.blk.1;clear hwk hb k0 k1 k2 kl RR1 RC1 BW1;obtain ⟨k0,k1,k2,kl⟩:=RC2.out.cells3;go_upto_region 5 with fail;clear k0 k1 k2 kl;have OM3:Hid (World.ownsMap (World.alloc w2 (.map #[] 0)) Tryz.prog 135 (plainElem Tryz.prog 3) w2.heap.size (0) (seenS c (0))):=World.ownsMap_made w2 Tryz.prog 135 (plainElem Tryz.prog 3);have RC3:Hid (Row (World.alloc w2 (.map #[] 0)) w.heap.size 36 [.int .i64 c.inputs,.slice GA gn gc,.slice OA on oc]):=RC2.out.alloc _;have RR3:Hid (Row (World.alloc w2 (.map #[] 0)) (w.heap.size+1) 36 [.int .i64 0,.slice none 0 0,.slice none 0 0]):=RR2.out.alloc _;have BW3:Hid (Below w.heap.size w (World.alloc w2 (.map #[] 0))):=BW2.out.alloc BW2.out.size _;have HK3:Hid (WkAt (World.alloc w2 (.map #[] 0)) w1.heap.size (w1.heap.size+1) c.inputs (shareTo c 0)):=HK.out.alloc _;have hs3:w2.heap.size < (World.alloc w2 (.map #[] 0)).heap.size:=by simp
  have hmb:Hid (w1.heap.size+1 < w2.heap.size):=hs2;clear RC2 RR2 BW2 HK hs2;revert OM3 RC3 RR3 BW3 HK3 hs3;generalize World.alloc w2 (.map #[] 0)=w3;intro OM3 RC3 RR3 BW3 HK3 hs3;have hs3':w1.heap.size+1 < w3.heap.size:=Nat.lt_trans hmb.out hs3;obtain ⟨k0,k1,k2,kl⟩:=RC3.out.cells3;go_wp2_with fail;clear k0 k1 k2 kl
  go_loopg [6,7,8,19] gn (fun gg _ _ _ s19 wr=>∃ k:Nat,k≤gn∧gn - k≤gg∧s19=.int .i64 k∧w1.heap.size+1 < wr.heap.size∧Aside (Below w.heap.size w wr)∧Aside (Row wr w.heap.size 36 [.int .i64 c.inputs,.slice GA gn gc,.slice OA on oc])∧Aside (Row wr (w.heap.size+1) 36 [.int .i64 0,.slice none 0 0,.slice none 0 0])∧Aside (WkAt wr w1.heap.size (w1.heap.size+1) c.inputs (shareTo c k))∧Aside (World.ownsMap wr Tryz.prog 135 (plainElem Tryz.prog 3) w2.heap.size (k) (seenS c (k))))
  case atStart=>exact ⟨0,Nat.zero_le _,by omega,rfl,hs3',BW3.out,RC3.out,RR3.out,HK3.out,OM3.out⟩
  case round=>
   clear RC3 RR3 BW3 HK3 OM3;obtain ⟨k,hk,hgg,rfl,hsz,BW,RC,RR,HK,OM⟩:=hrel;by_cases hlt:k < gn
   ·have hlz:(k:Int) < (gn:Int):=by omega
    have hkc:k < c.gates.length:=by rw [HGL.out ()];exact hlt
    obtain ⟨ad,rfl,hab,c0,c1,c2⟩:=(HC0.out.up BW.out).gates.gate hlt;obtain ⟨l1,l2⟩:=shareTo_len c k;have hso:=shareTo_ok HR.out k (by omega);have hgo:=gateAt_ok HR.out hkc;have hmo:=moveG_ok hso hgo (by omega) (fun _=>trivial) (fun _=>trivial);obtain ⟨g1,g2⟩:=gate_ok_ops hgo;have HST:Hid (∀ _:Unit,shareTo c (k+1)=addW c.inputs (shareTo c k) (swapG (moveG (shareTo c k).tq (gateAt c k)),knownW c.inputs (shareTo c k).gates (swapG (moveG (shareTo c k).tq (gateAt c k))))):=fun _=>rfl
    have HSN:Hid (∀ _:Unit,seenS c (k+1)=if knownW c.inputs (shareTo c k).gates (swapG (moveG (shareTo c k).tq (gateAt c k))) < 0 then (seenS c k).put (gkey (swapG (moveG (shareTo c k).tq (gateAt c k)))) (.lit (.int .i64 (c.inputs+(k:Int)))) else seenS c k):=fun _=>rfl
    have HSP:Hid (∀ g,gsmall g→Maps.has (seenS c k) (gkey g)=decide (0≤knownW c.inputs (shareTo c k).gates g)∧(0≤knownW c.inputs (shareTo c k).gates g→∀ z,(seenS c k).atKey (gkey g) z=.lit (.int .i64 (knownW c.inputs (shareTo c k).gates g)))):=fun g hg=>seenS_spec HR.out k (Nat.le_of_lt hkc) hg
    have HSM:Hid (gsmall (swapG (moveG (shareTo c k).tq (gateAt c k)))):=gsmall_of (gS_ok HR.out hkc) (by omega);change wr.cell? _=some (.int .i64 (gateAt c k).op) at c0;change wr.cell? _=some (.int .i64 (gateAt c k).a) at c1;change wr.cell? _=some (.int .i64 (gateAt c k).b) at c2;generalize gateAt c k=g at c0 c1 c2 hgo hmo g1 g2 HST HSN HSM;generalize shareTo c k=s at HK l1 l2 hso hmo HST HSN HSP HSM
    obtain ⟨h,hh⟩:∃ h,moveG s.tq g=h:=⟨_,rfl⟩
    rw [hh] at hmo;have HMV:=hiU hh;have HMO:Hid (gateOk (c.inputs+(s.gates.length:Int)) h=true):=hmo
    have HGA:Hid ((1≤operandsO g.op→0≤g.a∧g.a < (s.tq.length:Int))∧(operandsO g.op=2→0≤g.b∧g.b < (s.tq.length:Int))):=⟨fun q=>by have:=g1 q;omega,fun q=>by have:=g2 q;omega⟩
    have htl:s.tq.length≤30000:=by omega
    have hgl:s.gates.length≤20000:=by omega
    have HLG:=hiU l1;clear l1 l2 hso hgo hmo g1 g2 hh hkc;go_wp2_with fail;clear c0 c1 c2 hab;obtain ⟨wx,hW9,RB,hgr9⟩:=laid1 wr [.int .i64 g.op,.int .i64 g.a,.int .i64 g.b] 135;rewrite [hW9];clear hW9;have B_wr:=hiD hgr9;clear hgr9;have HC:=moved_any w1.heap.size (w1.heap.size+1) c.inputs s g wx (HK.out.below B_wr.out) htl HGA.out.1 HGA.out.2;rw [HMV.out ()] at HC;refine HC.mono ?_;clear HC;rintro e w3 ⟨rfl,hb⟩;have hszx:wr.heap.size < wx.heap.size:=RB.out.lt;have B_wr:=hiD (below_on2 B_wr.out hb);have B_wx:Hid (Below wx.heap.size wx w3):=hb;clear hb;have RB3:=hiD (rowCells RB.out B_wx.out);obtain ⟨hop,-,-,-,-⟩:=gateOk_parts HMO.out;have hoz:=operandsO_of hop;obtain ⟨op,x,y⟩:=h;dsimp only at hop hoz;clear hop HMO;obtain ⟨k0,k1,k2,kl⟩:=RB3.out.cells3;obtain ⟨kf0,kf1,kf2⟩:=RB3.out.froz3;go_upto_region 9 with fail;have BL4:=hiD (bSet3 B_wr.out wr.heap.size (Nat.le_refl _) (.int .i64 op) (.int .i64 x) (.int .i64 y));have RB4:=hiD (RB3.out.set3 (.int .i64 op) (.int .i64 x) (.int .i64 y));clear k0 k1 k2 kl kf0 kf1 kf2 RB3 B_wr B_wx RB;revert BL4 RB4;generalize (World.setCell (World.setCell (World.setCell w3 ⟨wr.heap.size,0,none⟩ (.int .i64 op)) ⟨wr.heap.size,1,none⟩ (.int .i64 x)) ⟨wr.heap.size,2,none⟩ (.int .i64 y))=w4;intro BL4 RB4;have RC4:=hiD (rowCells RC.out BL4.out);have RR4:=hiD (rowCells RR.out BL4.out);have BW4:Hid (Below w.heap.size w w4):=BW.out.trans (BL4.out.mono (by omega));have HK4:Hid (WkAt w4 w1.heap.size (w1.heap.size+1) c.inputs s):=HK.out.below BL4.out;have OM4:Hid (World.ownsMap w4 Tryz.prog 135 (plainElem Tryz.prog 3) w2.heap.size (k) (seenS c (k))):=ownsMap_below OM.out BL4.out;have hs4:w1.heap.size+1 < w4.heap.size:=Nat.lt_of_lt_of_le hsz BL4.out.size;have hwr4:wr.heap.size < w4.heap.size:=RB4.out.lt;have hzz:operandsO op=0∨operandsO op=1∨operandsO op=2:=by have:=operandsO_bd op;omega
    clear hoz;rcases hzz with hz | hz | hz
    ·have HOP:=hiU hz;have HGE:Hid (∀ _:Unit,swapG (moveG s.tq g)=⟨op,x,y⟩):=fun _=>by rw [HMV.out ()];unfold swapG;rw [if_neg];show ¬ (operandsO op=2∧_);omega
     clear hz;have HC:=operandsO_any op w4;rw [HOP.out ()] at HC;obtain ⟨k0,k1,k2,kl⟩:=RB4.out.cells3;go_wp2_with fail;refine HC.mono ?_;clear HC;rintro e w5 ⟨rfl,rfl⟩;go_upto_region 11 with fail;have RB5:=RB4;have RC5:=RC4;have RR5:=RR4;have BW5:=BW4;have HK5:=HK4;have OM5:=OM4;have hs5:=hs4;clear RB4 RC4 RR4 BW4 HK4 OM4 hs4 k0 k1 k2 kl;revert RB5 RC5 RR5 BW5 HK5 OM5 hs5;generalize w4=w5;intro RB5 RC5 RR5 BW5 HK5 OM5 hs5
     have HSM2:Hid (gsmall ⟨op,x,y⟩):=(by show gsmall _;rw [← HGE.out ()];exact HSM.out)
     obtain ⟨kw,hkw⟩:∃ kw,knownW c.inputs s.gates ⟨op,x,y⟩=kw:=⟨_,rfl⟩
     have HKW:=hiU hkw;have HHA:=HSP.out ⟨op,x,y⟩ HSM2.out;rw [hkw] at HHA;clear hkw;obtain ⟨k0,k1,k2,kl⟩:=RB5.out.cells3;by_cases hkz:0≤kw
     ·have HSK:Hid (∀ _:Unit,seenS c (k+1)=seenS c k):=fun _=>by rw [HSN.out (),HGE.out (),HKW.out (),if_neg (by omega)]
      have HHAS:Hid (∀ _:Unit,Maps.has (seenS c k) (gkey ⟨op,x,y⟩)=true):=fun _=>by rw [HHA.1,decide_eq_true hkz]
      have HAT:Hid (∀ z,(seenS c k).atKey (gkey ⟨op,x,y⟩) z=.lit (.int .i64 kw)):=HHA.2 hkz;clear HHA
      go_wp2_with (at_lookup;refine wpList_lookup_own_ok_int _ rfl _ _ 145 rfl 135 3 .i64 gate_keyedZ Tryz.underlying145 Tryz.underlying3 (by kernel_rfl) w2.heap.size k (seenS c k) rfl OM5.out (gval ⟨op,x,y⟩) (gkey ⟨op,x,y⟩) rfl (keyOf_gate HSM2.out) ?_;intro cz hat hwc;rw [HHAS.out ()])
      rw [HAT.out] at hat;injection hat with hat;injection hat with _ hat;subst hat;clear hwc;go_wp2_with fail;clear k0 k1 k2 kl;have RC6:=RC5;have RR6:=RR5;have BW6:=BW5;have OM6:Hid (World.ownsMap w5 Tryz.prog 135 (plainElem Tryz.prog 3) w2.heap.size (k) (seenS c (k))):=OM5;have OM6:Hid (World.ownsMap w5 Tryz.prog 135 (plainElem Tryz.prog 3) w2.heap.size (k+1) (seenS c k)):=OM6.out.mono (Nat.le_succ k);refine (add_any w1.heap.size (w1.heap.size+1) c.inputs s ⟨op,x,y⟩ kw w5 HK5.out (by omega) ⟨hn0,hn1⟩ hgl htl).mono ?_;rintro e w7 ⟨rfl,hwk,hfr⟩;clear RC5 RR5 BW5 OM5 HK5 hs5;have RC5:=hiD (hfr.row RC6.out (by decide) (by decide) (by decide));have RR5:=hiD (hfr.row RR6.out (by decide) (by decide) (by decide));have BW5:Hid (Below w.heap.size w w7):=BW6.out.trans (hfr.below.mono (by omega));have hs5:w1.heap.size+1 < w7.heap.size:=hwk.blk.1
      have HK5:Hid (WkAt w7 w1.heap.size (w1.heap.size+1) c.inputs (shareTo c (k+1))):=(by show WkAt _ _ _ _ _;rw [HST.out (),HGE.out (),HKW.out ()];exact hwk)
      have OM7:Hid (World.ownsMap w7 Tryz.prog 135 (plainElem Tryz.prog 3) w2.heap.size (k+1) (seenS c (k+1))):=(by show World.ownsMap _ _ _ _ _ _ _;rw [HSK.out ()];exact hfr.map OM6.out)
      clear hwk hfr;go_wp2_with fail;go_roundg (gn - (k+1))
      case measure=>omega
      case rel=>exact ⟨k+1,by omega,by omega,by go_num,hs5,BW5.out,RC5.out,RR5.out,HK5.out,OM7.out⟩
     ·have HSK:Hid (∀ _:Unit,seenS c (k+1)=(seenS c k).put (gkey ⟨op,x,y⟩) (.lit (.int .i64 (c.inputs+(k:Int))))):=fun _=>by rw [HSN.out (),HGE.out (),HKW.out (),if_pos (by omega)]
      have HHAS:Hid (∀ _:Unit,Maps.has (seenS c k) (gkey ⟨op,x,y⟩)=false):=fun _=>by rw [HHA.1,decide_eq_false hkz]
      have hbk:=knownW_bd c.inputs s.gates ⟨op,x,y⟩ hn0;rw [HKW.out ()] at hbk;have HKW:Hid (∀ _:Unit,knownW c.inputs s.gates ⟨op,x,y⟩=-1):=fun _=>by rw [HKW.out ()];omega
      clear HHA hbk
      go_wp2_with (at_lookup;refine wpList_lookup_own_ok_int _ rfl _ _ 145 rfl 135 3 .i64 gate_keyedZ Tryz.underlying145 Tryz.underlying3 (by kernel_rfl) w2.heap.size k (seenS c k) rfl OM5.out (gval ⟨op,x,y⟩) (gkey ⟨op,x,y⟩) rfl (keyOf_gate HSM2.out) ?_;intro cz hat hwc;rw [HHAS.out ()])
      clear hat hwc;obtain ⟨KA,kc,TA,tc,hrw,-,-,-⟩:=HK5.out.op;have RWd:Hid (Row w5 (w1.heap.size+1) 144 [.int .i64 c.inputs,.slice KA s.gates.length kc,.slice TA s.tq.length tc]):=hrw;clear hrw hkz;go_wp2_with fail;clear k0 k1 k2 kl;refine wp_region_L (fun w'=>Row w' wr.heap.size 135 [.int .i64 op,.int .i64 x,.int .i64 y]∧Row w' (w1.heap.size+1) 144 [.int .i64 c.inputs,.slice KA s.gates.length kc,.slice TA s.tq.length tc]) [12] (by kernel_rfl) (by exact ⟨RB5.out.drew,RWd.out.drew⟩) (fun hHeld=>?_);have RBd:Hid (Row (World.drew w5) wr.heap.size 135 [.int .i64 op,.int .i64 x,.int .i64 y]):=RB5.out.drew;have RCd:Hid (Row (World.drew w5) w.heap.size 36 [.int .i64 c.inputs,.slice (some ad) gn gc,.slice OA on oc]):=RC5.out.drew;have RRd:Hid (Row (World.drew w5) (w.heap.size+1) 36 [.int .i64 0,.slice none 0 0,.slice none 0 0]):=RR5.out.drew;have BWd:Hid (Below w.heap.size w (World.drew w5)):=BW5.out.drew;have HKd:Hid (WkAt (World.drew w5) w1.heap.size (w1.heap.size+1) c.inputs s):=HK5.out;have OMd:Hid (World.ownsMap (World.drew w5) Tryz.prog 135 (plainElem Tryz.prog 3) w2.heap.size (k) (seenS c (k))):=OM5.out.drew;have hsd:w1.heap.size+1 < (World.drew w5).heap.size:=hs5;clear RB5 RC5 RR5 BW5 HK5 OM5 hs5 RWd;revert hHeld RBd RCd RRd BWd HKd OMd hsd;generalize World.drew w5=wQ;intro hHeld RB5 RC5 RR5 BW5 HK5 OM5 hs5;refine lP 0 ?_;go_simp;refine lP 2 ?_;go_simp;refine lP 3 ?_;go_simp;refine lP 4 ?_;go_simp;refine lP 6 ?_;go_simp;refine lP 7 ?_;go_simp;refine lP 8 ?_;go_simp;refine lTakeW 1 ?va8 [[12]] rfl (by rfl) ?ya8 hHeld ?ra8
      case ya8=>
       intro w' hSw;have hSh:=hiD hSw.1;have hSp:=hiD hSw.2;clear hSw;obtain ⟨z0,z1,z2,zl⟩:=hSh.out.cells3;obtain ⟨y0,y1,y2,yl⟩:=hSp.out.cells3;go_simp
       try (with_reducible rfl)
      go_simp;refine lTakeW 5 ?va9 [[12]] rfl (by rfl) ?ya9 hHeld ?ra9
      case ya9=>
       intro w' hSw;have hSh:=hiD hSw.1;have hSp:=hiD hSw.2;clear hSw;obtain ⟨z0,z1,z2,zl⟩:=hSh.out.cells3;obtain ⟨y0,y1,y2,yl⟩:=hSp.out.cells3;go_simp
       try (with_reducible rfl)
      go_simp;refine lTakeW 9 ?va10 [[12]] rfl (by rfl) ?ya10 hHeld ?ra10
      case ya10=>
       intro w' hSw;have hSh:=hiD hSw.1;have hSp:=hiD hSw.2;clear hSw;obtain ⟨z0,z1,z2,zl⟩:=hSh.out.cells3;obtain ⟨y0,y1,y2,yl⟩:=hSp.out.cells3;go_simp
       try (with_reducible rfl)
      go_simp;refine lTakeW 10 ?va11 [[12]] rfl (by rfl) ?ya11 hHeld ?ra11
      case ya11=>
       intro w' hSw;have hSh:=hiD hSw.1;have hSp:=hiD hSw.2;clear hSw;obtain ⟨z0,z1,z2,zl⟩:=hSh.out.cells3;obtain ⟨y0,y1,y2,yl⟩:=hSp.out.cells3;go_simp
       try (with_reducible rfl)
      go_simp;refine lP 11 ?_;go_simp;refine restL_one (i:=12) (by kernel_rfl) rfl (fun K hK=>?_);refine step_mapUpdate rfl (.tmp 54) (.tmp 55) (.tmp 65) 145 rfl 135 3 gate_keyedZ Tryz.underlying145 (plainElem Tryz.prog 3) w2.heap.size k (seenS c k) rfl OM5.out (by unfold maxLen;omega) (gval ⟨op,x,y⟩) (.int .i64 (c.inputs+(k:Int))) (gkey ⟨op,x,y⟩) rfl ?val (keyOf_gate HSM2.out) (.lit (.int .i64 (c.inputs+(k:Int)))) [] (plainElem_int Tryz.underlying3 (gate_lit (by omega))) ?_
      case val=>refine congrArg (Value.int .i64) (?_:_=c.inputs+(k:Int));have hl9:=HLG.out ();exact (IntWalk.i64_in _ (by omega)).trans (by omega)
      intro w6 om6 hgrow6
      have OM6:Hid (World.ownsMap w6 Tryz.prog 135 (plainElem Tryz.prog 3) w2.heap.size (k+1) (seenS c (k+1))):=(by show World.ownsMap _ _ _ _ _ _ _;rw [HSK.out ()];exact om6)
      have RB6:Hid (Row w6 wr.heap.size 135 [.int .i64 op,.int .i64 x,.int .i64 y]):=gates_keep OM5.out hgrow6 RB5.out;have RC6:Hid (Row w6 w.heap.size 36 [.int .i64 c.inputs,.slice (some ad) gn gc,.slice OA on oc]):=gates_keep OM5.out hgrow6 RC5.out;have RR6:Hid (Row w6 (w.heap.size+1) 36 [.int .i64 0,.slice none 0 0,.slice none 0 0]):=gates_keep OM5.out hgrow6 RR5.out;have HK6:Hid (WkAt w6 w1.heap.size (w1.heap.size+1) c.inputs s):=HK5.out.keepC (fun _ _ _ _ h=>gates_keep OM5.out hgrow6 h);have BW6:Hid (Below w.heap.size w w6):=BW5.out.grown hgrow6 BW5.out.size (fun q e=>by cases e;have:=hmb.out;omega);have hs6:w1.heap.size+1 < w6.heap.size:=Nat.lt_of_lt_of_le hs5 hgrow6.size;clear RB5 RC5 RR5 HK5 BW5 OM5 hs5 om6 hgrow6 hHeld;refine hK.out _ _ (fun h=>absurd h (by decide)) (fun _=>?_);clear hK K
      try go_simp
      refine restL_done (by kernel_rfl) ?_ _;obtain ⟨k0,k1,k2,kl⟩:=RB6.out.cells3;go_wp2_with fail;clear k0 k1 k2 kl;refine (add_any w1.heap.size (w1.heap.size+1) c.inputs s ⟨op,x,y⟩ (-1) w6 HK6.out (by omega) ⟨hn0,hn1⟩ hgl htl).mono ?_;rintro e w7 ⟨rfl,hwk,hfr⟩;have HSK:Hid (∀ _:Unit,seenS c (k+1)=seenS c (k+1)):=fun _=>rfl
      clear HK6 hs6;have RC5:=hiD (hfr.row RC6.out (by decide) (by decide) (by decide));have RR5:=hiD (hfr.row RR6.out (by decide) (by decide) (by decide));have BW5:Hid (Below w.heap.size w w7):=BW6.out.trans (hfr.below.mono (by omega));have hs5:w1.heap.size+1 < w7.heap.size:=hwk.blk.1
      have HK5:Hid (WkAt w7 w1.heap.size (w1.heap.size+1) c.inputs (shareTo c (k+1))):=(by show WkAt _ _ _ _ _;rw [HST.out (),HGE.out (),HKW.out ()];exact hwk)
      have OM7:Hid (World.ownsMap w7 Tryz.prog 135 (plainElem Tryz.prog 3) w2.heap.size (k+1) (seenS c (k+1))):=(by show World.ownsMap _ _ _ _ _ _ _;rw [HSK.out ()];exact hfr.map OM6.out)
      clear hwk hfr;go_wp2_with fail;go_roundg (gn - (k+1))
      case measure=>omega
      case rel=>exact ⟨k+1,by omega,by omega,by go_num,hs5,BW5.out,RC5.out,RR5.out,HK5.out,OM7.out⟩
    ·have HOP:=hiU hz;have HGE:Hid (∀ _:Unit,swapG (moveG s.tq g)=⟨op,x,y⟩):=fun _=>by rw [HMV.out ()];unfold swapG;rw [if_neg];show ¬ (operandsO op=2∧_);omega
     clear hz;have HC:=operandsO_any op w4;rw [HOP.out ()] at HC;obtain ⟨k0,k1,k2,kl⟩:=RB4.out.cells3;go_wp2_with fail;refine HC.mono ?_;clear HC;rintro e w5 ⟨rfl,rfl⟩;go_upto_region 11 with fail;have RB5:=RB4;have RC5:=RC4;have RR5:=RR4;have BW5:=BW4;have HK5:=HK4;have OM5:=OM4;have hs5:=hs4;clear RB4 RC4 RR4 BW4 HK4 OM4 hs4 k0 k1 k2 kl;revert RB5 RC5 RR5 BW5 HK5 OM5 hs5;generalize w4=w5;intro RB5 RC5 RR5 BW5 HK5 OM5 hs5
     have HSM2:Hid (gsmall ⟨op,x,y⟩):=(by show gsmall _;rw [← HGE.out ()];exact HSM.out)
     obtain ⟨kw,hkw⟩:∃ kw,knownW c.inputs s.gates ⟨op,x,y⟩=kw:=⟨_,rfl⟩
     have HKW:=hiU hkw;have HHA:=HSP.out ⟨op,x,y⟩ HSM2.out;rw [hkw] at HHA;clear hkw;obtain ⟨k0,k1,k2,kl⟩:=RB5.out.cells3;by_cases hkz:0≤kw
     ·have HSK:Hid (∀ _:Unit,seenS c (k+1)=seenS c k):=fun _=>by rw [HSN.out (),HGE.out (),HKW.out (),if_neg (by omega)]
      have HHAS:Hid (∀ _:Unit,Maps.has (seenS c k) (gkey ⟨op,x,y⟩)=true):=fun _=>by rw [HHA.1,decide_eq_true hkz]
      have HAT:Hid (∀ z,(seenS c k).atKey (gkey ⟨op,x,y⟩) z=.lit (.int .i64 kw)):=HHA.2 hkz;clear HHA
      go_wp2_with (at_lookup;refine wpList_lookup_own_ok_int _ rfl _ _ 145 rfl 135 3 .i64 gate_keyedZ Tryz.underlying145 Tryz.underlying3 (by kernel_rfl) w2.heap.size k (seenS c k) rfl OM5.out (gval ⟨op,x,y⟩) (gkey ⟨op,x,y⟩) rfl (keyOf_gate HSM2.out) ?_;intro cz hat hwc;rw [HHAS.out ()])
      rw [HAT.out] at hat;injection hat with hat;injection hat with _ hat;subst hat;clear hwc;go_wp2_with fail;clear k0 k1 k2 kl;have RC6:=RC5;have RR6:=RR5;have BW6:=BW5;have OM6:Hid (World.ownsMap w5 Tryz.prog 135 (plainElem Tryz.prog 3) w2.heap.size (k) (seenS c (k))):=OM5;have OM6:Hid (World.ownsMap w5 Tryz.prog 135 (plainElem Tryz.prog 3) w2.heap.size (k+1) (seenS c k)):=OM6.out.mono (Nat.le_succ k);refine (add_any w1.heap.size (w1.heap.size+1) c.inputs s ⟨op,x,y⟩ kw w5 HK5.out (by omega) ⟨hn0,hn1⟩ hgl htl).mono ?_;rintro e w7 ⟨rfl,hwk,hfr⟩;clear RC5 RR5 BW5 OM5 HK5 hs5;have RC5:=hiD (hfr.row RC6.out (by decide) (by decide) (by decide));have RR5:=hiD (hfr.row RR6.out (by decide) (by decide) (by decide));have BW5:Hid (Below w.heap.size w w7):=BW6.out.trans (hfr.below.mono (by omega));have hs5:w1.heap.size+1 < w7.heap.size:=hwk.blk.1
      have HK5:Hid (WkAt w7 w1.heap.size (w1.heap.size+1) c.inputs (shareTo c (k+1))):=(by show WkAt _ _ _ _ _;rw [HST.out (),HGE.out (),HKW.out ()];exact hwk)
      have OM7:Hid (World.ownsMap w7 Tryz.prog 135 (plainElem Tryz.prog 3) w2.heap.size (k+1) (seenS c (k+1))):=(by show World.ownsMap _ _ _ _ _ _ _;rw [HSK.out ()];exact hfr.map OM6.out)
      clear hwk hfr;go_wp2_with fail;go_roundg (gn - (k+1))
      case measure=>omega
      case rel=>exact ⟨k+1,by omega,by omega,by go_num,hs5,BW5.out,RC5.out,RR5.out,HK5.out,OM7.out⟩
     ·have HSK:Hid (∀ _:Unit,seenS c (k+1)=(seenS c k).put (gkey ⟨op,x,y⟩) (.lit (.int .i64 (c.inputs+(k:Int))))):=fun _=>by rw [HSN.out (),HGE.out (),HKW.out (),if_pos (by omega)]
      have HHAS:Hid (∀ _:Unit,Maps.has (seenS c k) (gkey ⟨op,x,y⟩)=false):=fun _=>by rw [HHA.1,decide_eq_false hkz]
      have hbk:=knownW_bd c.inputs s.gates ⟨op,x,y⟩ hn0;rw [HKW.out ()] at hbk;have HKW:Hid (∀ _:Unit,knownW c.inputs s.gates ⟨op,x,y⟩=-1):=fun _=>by rw [HKW.out ()];omega
      clear HHA hbk
      go_wp2_with (at_lookup;refine wpList_lookup_own_ok_int _ rfl _ _ 145 rfl 135 3 .i64 gate_keyedZ Tryz.underlying145 Tryz.underlying3 (by kernel_rfl) w2.heap.size k (seenS c k) rfl OM5.out (gval ⟨op,x,y⟩) (gkey ⟨op,x,y⟩) rfl (keyOf_gate HSM2.out) ?_;intro cz hat hwc;rw [HHAS.out ()])
      clear hat hwc;obtain ⟨KA,kc,TA,tc,hrw,-,-,-⟩:=HK5.out.op;have RWd:Hid (Row w5 (w1.heap.size+1) 144 [.int .i64 c.inputs,.slice KA s.gates.length kc,.slice TA s.tq.length tc]):=hrw;clear hrw hkz;go_wp2_with fail;clear k0 k1 k2 kl;refine wp_region_L (fun w'=>Row w' wr.heap.size 135 [.int .i64 op,.int .i64 x,.int .i64 y]∧Row w' (w1.heap.size+1) 144 [.int .i64 c.inputs,.slice KA s.gates.length kc,.slice TA s.tq.length tc]) [12] (by kernel_rfl) (by exact ⟨RB5.out.drew,RWd.out.drew⟩) (fun hHeld=>?_);have RBd:Hid (Row (World.drew w5) wr.heap.size 135 [.int .i64 op,.int .i64 x,.int .i64 y]):=RB5.out.drew;have RCd:Hid (Row (World.drew w5) w.heap.size 36 [.int .i64 c.inputs,.slice (some ad) gn gc,.slice OA on oc]):=RC5.out.drew;have RRd:Hid (Row (World.drew w5) (w.heap.size+1) 36 [.int .i64 0,.slice none 0 0,.slice none 0 0]):=RR5.out.drew;have BWd:Hid (Below w.heap.size w (World.drew w5)):=BW5.out.drew;have HKd:Hid (WkAt (World.drew w5) w1.heap.size (w1.heap.size+1) c.inputs s):=HK5.out;have OMd:Hid (World.ownsMap (World.drew w5) Tryz.prog 135 (plainElem Tryz.prog 3) w2.heap.size (k) (seenS c (k))):=OM5.out.drew;have hsd:w1.heap.size+1 < (World.drew w5).heap.size:=hs5;clear RB5 RC5 RR5 BW5 HK5 OM5 hs5 RWd;revert hHeld RBd RCd RRd BWd HKd OMd hsd;generalize World.drew w5=wQ;intro hHeld RB5 RC5 RR5 BW5 HK5 OM5 hs5;refine lP 0 ?_;go_simp;refine lP 2 ?_;go_simp;refine lP 3 ?_;go_simp;refine lP 4 ?_;go_simp;refine lP 6 ?_;go_simp;refine lP 7 ?_;go_simp;refine lP 8 ?_;go_simp;refine lTakeW 1 ?vb8 [[12]] rfl (by rfl) ?yb8 hHeld ?rb8
      case yb8=>
       intro w' hSw;have hSh:=hiD hSw.1;have hSp:=hiD hSw.2;clear hSw;obtain ⟨z0,z1,z2,zl⟩:=hSh.out.cells3;obtain ⟨y0,y1,y2,yl⟩:=hSp.out.cells3;go_simp
       try (with_reducible rfl)
      go_simp;refine lTakeW 5 ?vb9 [[12]] rfl (by rfl) ?yb9 hHeld ?rb9
      case yb9=>
       intro w' hSw;have hSh:=hiD hSw.1;have hSp:=hiD hSw.2;clear hSw;obtain ⟨z0,z1,z2,zl⟩:=hSh.out.cells3;obtain ⟨y0,y1,y2,yl⟩:=hSp.out.cells3;go_simp
       try (with_reducible rfl)
      go_simp;refine lTakeW 9 ?vb10 [[12]] rfl (by rfl) ?yb10 hHeld ?rb10
      case yb10=>
       intro w' hSw;have hSh:=hiD hSw.1;have hSp:=hiD hSw.2;clear hSw;obtain ⟨z0,z1,z2,zl⟩:=hSh.out.cells3;obtain ⟨y0,y1,y2,yl⟩:=hSp.out.cells3;go_simp
       try (with_reducible rfl)
      go_simp;refine lTakeW 10 ?vb11 [[12]] rfl (by rfl) ?yb11 hHeld ?rb11
      case yb11=>
       intro w' hSw;have hSh:=hiD hSw.1;have hSp:=hiD hSw.2;clear hSw;obtain ⟨z0,z1,z2,zl⟩:=hSh.out.cells3;obtain ⟨y0,y1,y2,yl⟩:=hSp.out.cells3;go_simp
       try (with_reducible rfl)
      go_simp;refine lP 11 ?_;go_simp;refine restL_one (i:=12) (by kernel_rfl) rfl (fun K hK=>?_);refine step_mapUpdate rfl (.tmp 54) (.tmp 55) (.tmp 65) 145 rfl 135 3 gate_keyedZ Tryz.underlying145 (plainElem Tryz.prog 3) w2.heap.size k (seenS c k) rfl OM5.out (by unfold maxLen;omega) (gval ⟨op,x,y⟩) (.int .i64 (c.inputs+(k:Int))) (gkey ⟨op,x,y⟩) rfl ?val (keyOf_gate HSM2.out) (.lit (.int .i64 (c.inputs+(k:Int)))) [] (plainElem_int Tryz.underlying3 (gate_lit (by omega))) ?_
      case val=>refine congrArg (Value.int .i64) (?_:_=c.inputs+(k:Int));have hl9:=HLG.out ();exact (IntWalk.i64_in _ (by omega)).trans (by omega)
      intro w6 om6 hgrow6
      have OM6:Hid (World.ownsMap w6 Tryz.prog 135 (plainElem Tryz.prog 3) w2.heap.size (k+1) (seenS c (k+1))):=(by show World.ownsMap _ _ _ _ _ _ _;rw [HSK.out ()];exact om6)
      have RB6:Hid (Row w6 wr.heap.size 135 [.int .i64 op,.int .i64 x,.int .i64 y]):=gates_keep OM5.out hgrow6 RB5.out;have RC6:Hid (Row w6 w.heap.size 36 [.int .i64 c.inputs,.slice (some ad) gn gc,.slice OA on oc]):=gates_keep OM5.out hgrow6 RC5.out;have RR6:Hid (Row w6 (w.heap.size+1) 36 [.int .i64 0,.slice none 0 0,.slice none 0 0]):=gates_keep OM5.out hgrow6 RR5.out;have HK6:Hid (WkAt w6 w1.heap.size (w1.heap.size+1) c.inputs s):=HK5.out.keepC (fun _ _ _ _ h=>gates_keep OM5.out hgrow6 h);have BW6:Hid (Below w.heap.size w w6):=BW5.out.grown hgrow6 BW5.out.size (fun q e=>by cases e;have:=hmb.out;omega);have hs6:w1.heap.size+1 < w6.heap.size:=Nat.lt_of_lt_of_le hs5 hgrow6.size;clear RB5 RC5 RR5 HK5 BW5 OM5 hs5 om6 hgrow6 hHeld;refine hK.out _ _ (fun h=>absurd h (by decide)) (fun _=>?_);clear hK K
      try go_simp
      refine restL_done (by kernel_rfl) ?_ _;obtain ⟨k0,k1,k2,kl⟩:=RB6.out.cells3;go_wp2_with fail;clear k0 k1 k2 kl;refine (add_any w1.heap.size (w1.heap.size+1) c.inputs s ⟨op,x,y⟩ (-1) w6 HK6.out (by omega) ⟨hn0,hn1⟩ hgl htl).mono ?_;rintro e w7 ⟨rfl,hwk,hfr⟩;have HSK:Hid (∀ _:Unit,seenS c (k+1)=seenS c (k+1)):=fun _=>rfl
      clear HK6 hs6;have RC5:=hiD (hfr.row RC6.out (by decide) (by decide) (by decide));have RR5:=hiD (hfr.row RR6.out (by decide) (by decide) (by decide));have BW5:Hid (Below w.heap.size w w7):=BW6.out.trans (hfr.below.mono (by omega));have hs5:w1.heap.size+1 < w7.heap.size:=hwk.blk.1
      have HK5:Hid (WkAt w7 w1.heap.size (w1.heap.size+1) c.inputs (shareTo c (k+1))):=(by show WkAt _ _ _ _ _;rw [HST.out (),HGE.out (),HKW.out ()];exact hwk)
      have OM7:Hid (World.ownsMap w7 Tryz.prog 135 (plainElem Tryz.prog 3) w2.heap.size (k+1) (seenS c (k+1))):=(by show World.ownsMap _ _ _ _ _ _ _;rw [HSK.out ()];exact hfr.map OM6.out)
      clear hwk hfr;go_wp2_with fail;go_roundg (gn - (k+1))
      case measure=>omega
      case rel=>exact ⟨k+1,by omega,by omega,by go_num,hs5,BW5.out,RC5.out,RR5.out,HK5.out,OM7.out⟩
    ·have HOP:=hiU hz;by_cases hyx:y < x
     ·have HGE:Hid (∀ _:Unit,swapG (moveG s.tq g)=⟨op,y,x⟩):=fun _=>by rw [HMV.out ()];unfold swapG;rw [if_pos ⟨hz,hyx⟩]
      clear hz;have HC:=operandsO_any op w4;rw [HOP.out ()] at HC;obtain ⟨k0,k1,k2,kl⟩:=RB4.out.cells3;go_wp2_with fail;refine HC.mono ?_;clear HC;rintro e w5 ⟨rfl,rfl⟩;obtain ⟨kf0,kf1,kf2⟩:=RB4.out.froz3;go_upto_region 11 with fail;have BL:Hid (Below wr.heap.size w4 (World.setCell (World.setCell w4 ⟨wr.heap.size,1,none⟩ (.int .i64 y)) ⟨wr.heap.size,2,none⟩ (.int .i64 x))):=((Below.refl _ _).setCell (p:=⟨wr.heap.size,1,none⟩) (Nat.le_refl _) _).setCell (p:=⟨wr.heap.size,2,none⟩) (Nat.le_refl _) _;have RB5:Hid (Row (World.setCell (World.setCell w4 ⟨wr.heap.size,1,none⟩ (.int .i64 y)) ⟨wr.heap.size,2,none⟩ (.int .i64 x)) wr.heap.size 135 [.int .i64 op,.int .i64 y,.int .i64 x]):=(RB4.out.set 1 _).set 2 _
      have RC5:Hid (Row (World.setCell (World.setCell w4 ⟨wr.heap.size,1,none⟩ (.int .i64 y)) ⟨wr.heap.size,2,none⟩ (.int .i64 x)) w.heap.size 36 [.int .i64 c.inputs,.slice (some ad) gn gc,.slice OA on oc]):=((RC4.out.far (p:=⟨wr.heap.size,1,none⟩) (by show w.heap.size≠wr.heap.size;omega) _).far (p:=⟨wr.heap.size,2,none⟩) (by show w.heap.size≠wr.heap.size;omega) _)
      have RR5:Hid (Row (World.setCell (World.setCell w4 ⟨wr.heap.size,1,none⟩ (.int .i64 y)) ⟨wr.heap.size,2,none⟩ (.int .i64 x)) (w.heap.size+1) 36 [.int .i64 0,.slice none 0 0,.slice none 0 0]):=((RR4.out.far (p:=⟨wr.heap.size,1,none⟩) (by show w.heap.size+1≠wr.heap.size;omega) _).far (p:=⟨wr.heap.size,2,none⟩) (by show w.heap.size+1≠wr.heap.size;omega) _)
      have BW5:Hid (Below w.heap.size w (World.setCell (World.setCell w4 ⟨wr.heap.size,1,none⟩ (.int .i64 y)) ⟨wr.heap.size,2,none⟩ (.int .i64 x))):=((BW4.out.setCell (p:=⟨wr.heap.size,1,none⟩) (by show w.heap.size≤wr.heap.size;omega) _).setCell (p:=⟨wr.heap.size,2,none⟩) (by show w.heap.size≤wr.heap.size;omega) _)
      have HK5:Hid (WkAt (World.setCell (World.setCell w4 ⟨wr.heap.size,1,none⟩ (.int .i64 y)) ⟨wr.heap.size,2,none⟩ (.int .i64 x)) w1.heap.size (w1.heap.size+1) c.inputs s):=HK.out.below (BL4.out.trans BL.out);have OM5:Hid (World.ownsMap (World.setCell (World.setCell w4 ⟨wr.heap.size,1,none⟩ (.int .i64 y)) ⟨wr.heap.size,2,none⟩ (.int .i64 x)) Tryz.prog 135 (plainElem Tryz.prog 3) w2.heap.size (k) (seenS c (k))):=ownsMap_below OM.out (BL4.out.trans BL.out);have hs5:w1.heap.size+1 < ((World.setCell (World.setCell w4 ⟨wr.heap.size,1,none⟩ (.int .i64 y)) ⟨wr.heap.size,2,none⟩ (.int .i64 x))).heap.size:=by simp only [World.size_setCell];exact hs4
      clear RB4 RC4 RR4 BW4 HK4 OM4 hs4 BL k0 k1 k2 kl kf0 kf1 kf2;revert RB5 RC5 RR5 BW5 HK5 OM5 hs5;generalize (World.setCell (World.setCell w4 ⟨wr.heap.size,1,none⟩ (.int .i64 y)) ⟨wr.heap.size,2,none⟩ (.int .i64 x))=w5;intro RB5 RC5 RR5 BW5 HK5 OM5 hs5
      have HSM2:Hid (gsmall ⟨op,y,x⟩):=(by show gsmall _;rw [← HGE.out ()];exact HSM.out)
      obtain ⟨kw,hkw⟩:∃ kw,knownW c.inputs s.gates ⟨op,y,x⟩=kw:=⟨_,rfl⟩
      have HKW:=hiU hkw;have HHA:=HSP.out ⟨op,y,x⟩ HSM2.out;rw [hkw] at HHA;clear hkw;obtain ⟨k0,k1,k2,kl⟩:=RB5.out.cells3;by_cases hkz:0≤kw
      ·have HSK:Hid (∀ _:Unit,seenS c (k+1)=seenS c k):=fun _=>by rw [HSN.out (),HGE.out (),HKW.out (),if_neg (by omega)]
       have HHAS:Hid (∀ _:Unit,Maps.has (seenS c k) (gkey ⟨op,y,x⟩)=true):=fun _=>by rw [HHA.1,decide_eq_true hkz]
       have HAT:Hid (∀ z,(seenS c k).atKey (gkey ⟨op,y,x⟩) z=.lit (.int .i64 kw)):=HHA.2 hkz;clear HHA
       go_wp2_with (at_lookup;refine wpList_lookup_own_ok_int _ rfl _ _ 145 rfl 135 3 .i64 gate_keyedZ Tryz.underlying145 Tryz.underlying3 (by kernel_rfl) w2.heap.size k (seenS c k) rfl OM5.out (gval ⟨op,y,x⟩) (gkey ⟨op,y,x⟩) rfl (keyOf_gate HSM2.out) ?_;intro cz hat hwc;rw [HHAS.out ()])
       rw [HAT.out] at hat;injection hat with hat;injection hat with _ hat;subst hat;clear hwc;go_wp2_with fail;clear k0 k1 k2 kl;have RC6:=RC5;have RR6:=RR5;have BW6:=BW5;have OM6:Hid (World.ownsMap w5 Tryz.prog 135 (plainElem Tryz.prog 3) w2.heap.size (k) (seenS c (k))):=OM5;have OM6:Hid (World.ownsMap w5 Tryz.prog 135 (plainElem Tryz.prog 3) w2.heap.size (k+1) (seenS c k)):=OM6.out.mono (Nat.le_succ k);refine (add_any w1.heap.size (w1.heap.size+1) c.inputs s ⟨op,y,x⟩ kw w5 HK5.out (by omega) ⟨hn0,hn1⟩ hgl htl).mono ?_;rintro e w7 ⟨rfl,hwk,hfr⟩;clear RC5 RR5 BW5 OM5 HK5 hs5;have RC5:=hiD (hfr.row RC6.out (by decide) (by decide) (by decide));have RR5:=hiD (hfr.row RR6.out (by decide) (by decide) (by decide));have BW5:Hid (Below w.heap.size w w7):=BW6.out.trans (hfr.below.mono (by omega));have hs5:w1.heap.size+1 < w7.heap.size:=hwk.blk.1
       have HK5:Hid (WkAt w7 w1.heap.size (w1.heap.size+1) c.inputs (shareTo c (k+1))):=(by show WkAt _ _ _ _ _;rw [HST.out (),HGE.out (),HKW.out ()];exact hwk)
       have OM7:Hid (World.ownsMap w7 Tryz.prog 135 (plainElem Tryz.prog 3) w2.heap.size (k+1) (seenS c (k+1))):=(by show World.ownsMap _ _ _ _ _ _ _;rw [HSK.out ()];exact hfr.map OM6.out)
       clear hwk hfr;go_wp2_with fail;go_roundg (gn - (k+1))
       case measure=>omega
       case rel=>exact ⟨k+1,by omega,by omega,by go_num,hs5,BW5.out,RC5.out,RR5.out,HK5.out,OM7.out⟩
      ·have HSK:Hid (∀ _:Unit,seenS c (k+1)=(seenS c k).put (gkey ⟨op,y,x⟩) (.lit (.int .i64 (c.inputs+(k:Int))))):=fun _=>by rw [HSN.out (),HGE.out (),HKW.out (),if_pos (by omega)]
       have HHAS:Hid (∀ _:Unit,Maps.has (seenS c k) (gkey ⟨op,y,x⟩)=false):=fun _=>by rw [HHA.1,decide_eq_false hkz]
       have hbk:=knownW_bd c.inputs s.gates ⟨op,y,x⟩ hn0;rw [HKW.out ()] at hbk;have HKW:Hid (∀ _:Unit,knownW c.inputs s.gates ⟨op,y,x⟩=-1):=fun _=>by rw [HKW.out ()];omega
       clear HHA hbk
       go_wp2_with (at_lookup;refine wpList_lookup_own_ok_int _ rfl _ _ 145 rfl 135 3 .i64 gate_keyedZ Tryz.underlying145 Tryz.underlying3 (by kernel_rfl) w2.heap.size k (seenS c k) rfl OM5.out (gval ⟨op,y,x⟩) (gkey ⟨op,y,x⟩) rfl (keyOf_gate HSM2.out) ?_;intro cz hat hwc;rw [HHAS.out ()])
       clear hat hwc;obtain ⟨KA,kc,TA,tc,hrw,-,-,-⟩:=HK5.out.op;have RWd:Hid (Row w5 (w1.heap.size+1) 144 [.int .i64 c.inputs,.slice KA s.gates.length kc,.slice TA s.tq.length tc]):=hrw;clear hrw hkz;go_wp2_with fail;clear k0 k1 k2 kl;refine wp_region_L (fun w'=>Row w' wr.heap.size 135 [.int .i64 op,.int .i64 y,.int .i64 x]∧Row w' (w1.heap.size+1) 144 [.int .i64 c.inputs,.slice KA s.gates.length kc,.slice TA s.tq.length tc]) [12] (by kernel_rfl) (by exact ⟨RB5.out.drew,RWd.out.drew⟩) (fun hHeld=>?_);have RBd:Hid (Row (World.drew w5) wr.heap.size 135 [.int .i64 op,.int .i64 y,.int .i64 x]):=RB5.out.drew;have RCd:Hid (Row (World.drew w5) w.heap.size 36 [.int .i64 c.inputs,.slice (some ad) gn gc,.slice OA on oc]):=RC5.out.drew;have RRd:Hid (Row (World.drew w5) (w.heap.size+1) 36 [.int .i64 0,.slice none 0 0,.slice none 0 0]):=RR5.out.drew;have BWd:Hid (Below w.heap.size w (World.drew w5)):=BW5.out.drew;have HKd:Hid (WkAt (World.drew w5) w1.heap.size (w1.heap.size+1) c.inputs s):=HK5.out;have OMd:Hid (World.ownsMap (World.drew w5) Tryz.prog 135 (plainElem Tryz.prog 3) w2.heap.size (k) (seenS c (k))):=OM5.out.drew;have hsd:w1.heap.size+1 < (World.drew w5).heap.size:=hs5;clear RB5 RC5 RR5 BW5 HK5 OM5 hs5 RWd;revert hHeld RBd RCd RRd BWd HKd OMd hsd;generalize World.drew w5=wQ;intro hHeld RB5 RC5 RR5 BW5 HK5 OM5 hs5;refine lP 0 ?_;go_simp;refine lP 2 ?_;go_simp;refine lP 3 ?_;go_simp;refine lP 4 ?_;go_simp;refine lP 6 ?_;go_simp;refine lP 7 ?_;go_simp;refine lP 8 ?_;go_simp;refine lTakeW 1 ?vc8 [[12]] rfl (by rfl) ?yc8 hHeld ?rc8
       case yc8=>
        intro w' hSw;have hSh:=hiD hSw.1;have hSp:=hiD hSw.2;clear hSw;obtain ⟨z0,z1,z2,zl⟩:=hSh.out.cells3;obtain ⟨y0,y1,y2,yl⟩:=hSp.out.cells3;go_simp
        try (with_reducible rfl)
       go_simp;refine lTakeW 5 ?vc9 [[12]] rfl (by rfl) ?yc9 hHeld ?rc9
       case yc9=>
        intro w' hSw;have hSh:=hiD hSw.1;have hSp:=hiD hSw.2;clear hSw;obtain ⟨z0,z1,z2,zl⟩:=hSh.out.cells3;obtain ⟨y0,y1,y2,yl⟩:=hSp.out.cells3;go_simp
        try (with_reducible rfl)
       go_simp;refine lTakeW 9 ?vc10 [[12]] rfl (by rfl) ?yc10 hHeld ?rc10
       case yc10=>
        intro w' hSw;have hSh:=hiD hSw.1;have hSp:=hiD hSw.2;clear hSw;obtain ⟨z0,z1,z2,zl⟩:=hSh.out.cells3;obtain ⟨y0,y1,y2,yl⟩:=hSp.out.cells3;go_simp
        try (with_reducible rfl)
       go_simp;refine lTakeW 10 ?vc11 [[12]] rfl (by rfl) ?yc11 hHeld ?rc11
       case yc11=>
        intro w' hSw;have hSh:=hiD hSw.1;have hSp:=hiD hSw.2;clear hSw;obtain ⟨z0,z1,z2,zl⟩:=hSh.out.cells3;obtain ⟨y0,y1,y2,yl⟩:=hSp.out.cells3;go_simp
        try (with_reducible rfl)
       go_simp;refine lP 11 ?_;go_simp;refine restL_one (i:=12) (by kernel_rfl) rfl (fun K hK=>?_);refine step_mapUpdate rfl (.tmp 54) (.tmp 55) (.tmp 65) 145 rfl 135 3 gate_keyedZ Tryz.underlying145 (plainElem Tryz.prog 3) w2.heap.size k (seenS c k) rfl OM5.out (by unfold maxLen;omega) (gval ⟨op,y,x⟩) (.int .i64 (c.inputs+(k:Int))) (gkey ⟨op,y,x⟩) rfl ?val (keyOf_gate HSM2.out) (.lit (.int .i64 (c.inputs+(k:Int)))) [] (plainElem_int Tryz.underlying3 (gate_lit (by omega))) ?_
       case val=>refine congrArg (Value.int .i64) (?_:_=c.inputs+(k:Int));have hl9:=HLG.out ();exact (IntWalk.i64_in _ (by omega)).trans (by omega)
       intro w6 om6 hgrow6
       have OM6:Hid (World.ownsMap w6 Tryz.prog 135 (plainElem Tryz.prog 3) w2.heap.size (k+1) (seenS c (k+1))):=(by show World.ownsMap _ _ _ _ _ _ _;rw [HSK.out ()];exact om6)
       have RB6:Hid (Row w6 wr.heap.size 135 [.int .i64 op,.int .i64 y,.int .i64 x]):=gates_keep OM5.out hgrow6 RB5.out;have RC6:Hid (Row w6 w.heap.size 36 [.int .i64 c.inputs,.slice (some ad) gn gc,.slice OA on oc]):=gates_keep OM5.out hgrow6 RC5.out;have RR6:Hid (Row w6 (w.heap.size+1) 36 [.int .i64 0,.slice none 0 0,.slice none 0 0]):=gates_keep OM5.out hgrow6 RR5.out;have HK6:Hid (WkAt w6 w1.heap.size (w1.heap.size+1) c.inputs s):=HK5.out.keepC (fun _ _ _ _ h=>gates_keep OM5.out hgrow6 h);have BW6:Hid (Below w.heap.size w w6):=BW5.out.grown hgrow6 BW5.out.size (fun q e=>by cases e;have:=hmb.out;omega);have hs6:w1.heap.size+1 < w6.heap.size:=Nat.lt_of_lt_of_le hs5 hgrow6.size;clear RB5 RC5 RR5 HK5 BW5 OM5 hs5 om6 hgrow6 hHeld;refine hK.out _ _ (fun h=>absurd h (by decide)) (fun _=>?_);clear hK K
       try go_simp
       refine restL_done (by kernel_rfl) ?_ _;obtain ⟨k0,k1,k2,kl⟩:=RB6.out.cells3;go_wp2_with fail;clear k0 k1 k2 kl;refine (add_any w1.heap.size (w1.heap.size+1) c.inputs s ⟨op,y,x⟩ (-1) w6 HK6.out (by omega) ⟨hn0,hn1⟩ hgl htl).mono ?_;rintro e w7 ⟨rfl,hwk,hfr⟩;have HSK:Hid (∀ _:Unit,seenS c (k+1)=seenS c (k+1)):=fun _=>rfl
       clear HK6 hs6;have RC5:=hiD (hfr.row RC6.out (by decide) (by decide) (by decide));have RR5:=hiD (hfr.row RR6.out (by decide) (by decide) (by decide));have BW5:Hid (Below w.heap.size w w7):=BW6.out.trans (hfr.below.mono (by omega));have hs5:w1.heap.size+1 < w7.heap.size:=hwk.blk.1
       have HK5:Hid (WkAt w7 w1.heap.size (w1.heap.size+1) c.inputs (shareTo c (k+1))):=(by show WkAt _ _ _ _ _;rw [HST.out (),HGE.out (),HKW.out ()];exact hwk)
       have OM7:Hid (World.ownsMap w7 Tryz.prog 135 (plainElem Tryz.prog 3) w2.heap.size (k+1) (seenS c (k+1))):=(by show World.ownsMap _ _ _ _ _ _ _;rw [HSK.out ()];exact hfr.map OM6.out)
       clear hwk hfr;go_wp2_with fail;go_roundg (gn - (k+1))
       case measure=>omega
       case rel=>exact ⟨k+1,by omega,by omega,by go_num,hs5,BW5.out,RC5.out,RR5.out,HK5.out,OM7.out⟩
     ·have HGE:Hid (∀ _:Unit,swapG (moveG s.tq g)=⟨op,x,y⟩):=fun _=>by rw [HMV.out ()];unfold swapG;rw [if_neg (fun q=>hyx q.2)]
      clear hz;have HC:=operandsO_any op w4;rw [HOP.out ()] at HC;obtain ⟨k0,k1,k2,kl⟩:=RB4.out.cells3;go_wp2_with fail;refine HC.mono ?_;clear HC;rintro e w5 ⟨rfl,rfl⟩;go_upto_region 11 with fail;have RB5:=RB4;have RC5:=RC4;have RR5:=RR4;have BW5:=BW4;have HK5:=HK4;have OM5:=OM4;have hs5:=hs4;clear RB4 RC4 RR4 BW4 HK4 OM4 hs4 k0 k1 k2 kl;revert RB5 RC5 RR5 BW5 HK5 OM5 hs5;generalize w4=w5;intro RB5 RC5 RR5 BW5 HK5 OM5 hs5
      have HSM2:Hid (gsmall ⟨op,x,y⟩):=(by show gsmall _;rw [← HGE.out ()];exact HSM.out)
      obtain ⟨kw,hkw⟩:∃ kw,knownW c.inputs s.gates ⟨op,x,y⟩=kw:=⟨_,rfl⟩
      have HKW:=hiU hkw;have HHA:=HSP.out ⟨op,x,y⟩ HSM2.out;rw [hkw] at HHA;clear hkw;obtain ⟨k0,k1,k2,kl⟩:=RB5.out.cells3;by_cases hkz:0≤kw
      ·have HSK:Hid (∀ _:Unit,seenS c (k+1)=seenS c k):=fun _=>by rw [HSN.out (),HGE.out (),HKW.out (),if_neg (by omega)]
       have HHAS:Hid (∀ _:Unit,Maps.has (seenS c k) (gkey ⟨op,x,y⟩)=true):=fun _=>by rw [HHA.1,decide_eq_true hkz]
       have HAT:Hid (∀ z,(seenS c k).atKey (gkey ⟨op,x,y⟩) z=.lit (.int .i64 kw)):=HHA.2 hkz;clear HHA
       go_wp2_with (at_lookup;refine wpList_lookup_own_ok_int _ rfl _ _ 145 rfl 135 3 .i64 gate_keyedZ Tryz.underlying145 Tryz.underlying3 (by kernel_rfl) w2.heap.size k (seenS c k) rfl OM5.out (gval ⟨op,x,y⟩) (gkey ⟨op,x,y⟩) rfl (keyOf_gate HSM2.out) ?_;intro cz hat hwc;rw [HHAS.out ()])
       rw [HAT.out] at hat;injection hat with hat;injection hat with _ hat;subst hat;clear hwc;go_wp2_with fail;clear k0 k1 k2 kl;have RC6:=RC5;have RR6:=RR5;have BW6:=BW5;have OM6:Hid (World.ownsMap w5 Tryz.prog 135 (plainElem Tryz.prog 3) w2.heap.size (k) (seenS c (k))):=OM5;have OM6:Hid (World.ownsMap w5 Tryz.prog 135 (plainElem Tryz.prog 3) w2.heap.size (k+1) (seenS c k)):=OM6.out.mono (Nat.le_succ k);refine (add_any w1.heap.size (w1.heap.size+1) c.inputs s ⟨op,x,y⟩ kw w5 HK5.out (by omega) ⟨hn0,hn1⟩ hgl htl).mono ?_;rintro e w7 ⟨rfl,hwk,hfr⟩;clear RC5 RR5 BW5 OM5 HK5 hs5;have RC5:=hiD (hfr.row RC6.out (by decide) (by decide) (by decide));have RR5:=hiD (hfr.row RR6.out (by decide) (by decide) (by decide));have BW5:Hid (Below w.heap.size w w7):=BW6.out.trans (hfr.below.mono (by omega));have hs5:w1.heap.size+1 < w7.heap.size:=hwk.blk.1
       have HK5:Hid (WkAt w7 w1.heap.size (w1.heap.size+1) c.inputs (shareTo c (k+1))):=(by show WkAt _ _ _ _ _;rw [HST.out (),HGE.out (),HKW.out ()];exact hwk)
       have OM7:Hid (World.ownsMap w7 Tryz.prog 135 (plainElem Tryz.prog 3) w2.heap.size (k+1) (seenS c (k+1))):=(by show World.ownsMap _ _ _ _ _ _ _;rw [HSK.out ()];exact hfr.map OM6.out)
       clear hwk hfr;go_wp2_with fail;go_roundg (gn - (k+1))
       case measure=>omega
       case rel=>exact ⟨k+1,by omega,by omega,by go_num,hs5,BW5.out,RC5.out,RR5.out,HK5.out,OM7.out⟩
      ·have HSK:Hid (∀ _:Unit,seenS c (k+1)=(seenS c k).put (gkey ⟨op,x,y⟩) (.lit (.int .i64 (c.inputs+(k:Int))))):=fun _=>by rw [HSN.out (),HGE.out (),HKW.out (),if_pos (by omega)]
       have HHAS:Hid (∀ _:Unit,Maps.has (seenS c k) (gkey ⟨op,x,y⟩)=false):=fun _=>by rw [HHA.1,decide_eq_false hkz]
       have hbk:=knownW_bd c.inputs s.gates ⟨op,x,y⟩ hn0;rw [HKW.out ()] at hbk;have HKW:Hid (∀ _:Unit,knownW c.inputs s.gates ⟨op,x,y⟩=-1):=fun _=>by rw [HKW.out ()];omega
       clear HHA hbk
       go_wp2_with (at_lookup;refine wpList_lookup_own_ok_int _ rfl _ _ 145 rfl 135 3 .i64 gate_keyedZ Tryz.underlying145 Tryz.underlying3 (by kernel_rfl) w2.heap.size k (seenS c k) rfl OM5.out (gval ⟨op,x,y⟩) (gkey ⟨op,x,y⟩) rfl (keyOf_gate HSM2.out) ?_;intro cz hat hwc;rw [HHAS.out ()])
       clear hat hwc;obtain ⟨KA,kc,TA,tc,hrw,-,-,-⟩:=HK5.out.op;have RWd:Hid (Row w5 (w1.heap.size+1) 144 [.int .i64 c.inputs,.slice KA s.gates.length kc,.slice TA s.tq.length tc]):=hrw;clear hrw hkz;go_wp2_with fail;clear k0 k1 k2 kl;refine wp_region_L (fun w'=>Row w' wr.heap.size 135 [.int .i64 op,.int .i64 x,.int .i64 y]∧Row w' (w1.heap.size+1) 144 [.int .i64 c.inputs,.slice KA s.gates.length kc,.slice TA s.tq.length tc]) [12] (by kernel_rfl) (by exact ⟨RB5.out.drew,RWd.out.drew⟩) (fun hHeld=>?_);have RBd:Hid (Row (World.drew w5) wr.heap.size 135 [.int .i64 op,.int .i64 x,.int .i64 y]):=RB5.out.drew;have RCd:Hid (Row (World.drew w5) w.heap.size 36 [.int .i64 c.inputs,.slice (some ad) gn gc,.slice OA on oc]):=RC5.out.drew;have RRd:Hid (Row (World.drew w5) (w.heap.size+1) 36 [.int .i64 0,.slice none 0 0,.slice none 0 0]):=RR5.out.drew;have BWd:Hid (Below w.heap.size w (World.drew w5)):=BW5.out.drew;have HKd:Hid (WkAt (World.drew w5) w1.heap.size (w1.heap.size+1) c.inputs s):=HK5.out;have OMd:Hid (World.ownsMap (World.drew w5) Tryz.prog 135 (plainElem Tryz.prog 3) w2.heap.size (k) (seenS c (k))):=OM5.out.drew;have hsd:w1.heap.size+1 < (World.drew w5).heap.size:=hs5;clear RB5 RC5 RR5 BW5 HK5 OM5 hs5 RWd;revert hHeld RBd RCd RRd BWd HKd OMd hsd;generalize World.drew w5=wQ;intro hHeld RB5 RC5 RR5 BW5 HK5 OM5 hs5;refine lP 0 ?_;go_simp;refine lP 2 ?_;go_simp;refine lP 3 ?_;go_simp;refine lP 4 ?_;go_simp;refine lP 6 ?_;go_simp;refine lP 7 ?_;go_simp;refine lP 8 ?_;go_simp;refine lTakeW 1 ?vd8 [[12]] rfl (by rfl) ?yd8 hHeld ?rd8
       case yd8=>
        intro w' hSw;have hSh:=hiD hSw.1;have hSp:=hiD hSw.2;clear hSw;obtain ⟨z0,z1,z2,zl⟩:=hSh.out.cells3;obtain ⟨y0,y1,y2,yl⟩:=hSp.out.cells3;go_simp
        try (with_reducible rfl)
       go_simp;refine lTakeW 5 ?vd9 [[12]] rfl (by rfl) ?yd9 hHeld ?rd9
       case yd9=>
        intro w' hSw;have hSh:=hiD hSw.1;have hSp:=hiD hSw.2;clear hSw;obtain ⟨z0,z1,z2,zl⟩:=hSh.out.cells3;obtain ⟨y0,y1,y2,yl⟩:=hSp.out.cells3;go_simp
        try (with_reducible rfl)
       go_simp;refine lTakeW 9 ?vd10 [[12]] rfl (by rfl) ?yd10 hHeld ?rd10
       case yd10=>
        intro w' hSw;have hSh:=hiD hSw.1;have hSp:=hiD hSw.2;clear hSw;obtain ⟨z0,z1,z2,zl⟩:=hSh.out.cells3;obtain ⟨y0,y1,y2,yl⟩:=hSp.out.cells3;go_simp
        try (with_reducible rfl)
       go_simp;refine lTakeW 10 ?vd11 [[12]] rfl (by rfl) ?yd11 hHeld ?rd11
       case yd11=>
        intro w' hSw;have hSh:=hiD hSw.1;have hSp:=hiD hSw.2;clear hSw;obtain ⟨z0,z1,z2,zl⟩:=hSh.out.cells3;obtain ⟨y0,y1,y2,yl⟩:=hSp.out.cells3;go_simp
        try (with_reducible rfl)
       go_simp;refine lP 11 ?_;go_simp;refine restL_one (i:=12) (by kernel_rfl) rfl (fun K hK=>?_);refine step_mapUpdate rfl (.tmp 54) (.tmp 55) (.tmp 65) 145 rfl 135 3 gate_keyedZ Tryz.underlying145 (plainElem Tryz.prog 3) w2.heap.size k (seenS c k) rfl OM5.out (by unfold maxLen;omega) (gval ⟨op,x,y⟩) (.int .i64 (c.inputs+(k:Int))) (gkey ⟨op,x,y⟩) rfl ?val (keyOf_gate HSM2.out) (.lit (.int .i64 (c.inputs+(k:Int)))) [] (plainElem_int Tryz.underlying3 (gate_lit (by omega))) ?_
       case val=>refine congrArg (Value.int .i64) (?_:_=c.inputs+(k:Int));have hl9:=HLG.out ();exact (IntWalk.i64_in _ (by omega)).trans (by omega)
       intro w6 om6 hgrow6
       have OM6:Hid (World.ownsMap w6 Tryz.prog 135 (plainElem Tryz.prog 3) w2.heap.size (k+1) (seenS c (k+1))):=(by show World.ownsMap _ _ _ _ _ _ _;rw [HSK.out ()];exact om6)
       have RB6:Hid (Row w6 wr.heap.size 135 [.int .i64 op,.int .i64 x,.int .i64 y]):=gates_keep OM5.out hgrow6 RB5.out;have RC6:Hid (Row w6 w.heap.size 36 [.int .i64 c.inputs,.slice (some ad) gn gc,.slice OA on oc]):=gates_keep OM5.out hgrow6 RC5.out;have RR6:Hid (Row w6 (w.heap.size+1) 36 [.int .i64 0,.slice none 0 0,.slice none 0 0]):=gates_keep OM5.out hgrow6 RR5.out;have HK6:Hid (WkAt w6 w1.heap.size (w1.heap.size+1) c.inputs s):=HK5.out.keepC (fun _ _ _ _ h=>gates_keep OM5.out hgrow6 h);have BW6:Hid (Below w.heap.size w w6):=BW5.out.grown hgrow6 BW5.out.size (fun q e=>by cases e;have:=hmb.out;omega);have hs6:w1.heap.size+1 < w6.heap.size:=Nat.lt_of_lt_of_le hs5 hgrow6.size;clear RB5 RC5 RR5 HK5 BW5 OM5 hs5 om6 hgrow6 hHeld;refine hK.out _ _ (fun h=>absurd h (by decide)) (fun _=>?_);clear hK K
       try go_simp
       refine restL_done (by kernel_rfl) ?_ _;obtain ⟨k0,k1,k2,kl⟩:=RB6.out.cells3;go_wp2_with fail;clear k0 k1 k2 kl;refine (add_any w1.heap.size (w1.heap.size+1) c.inputs s ⟨op,x,y⟩ (-1) w6 HK6.out (by omega) ⟨hn0,hn1⟩ hgl htl).mono ?_;rintro e w7 ⟨rfl,hwk,hfr⟩;have HSK:Hid (∀ _:Unit,seenS c (k+1)=seenS c (k+1)):=fun _=>rfl
       clear HK6 hs6;have RC5:=hiD (hfr.row RC6.out (by decide) (by decide) (by decide));have RR5:=hiD (hfr.row RR6.out (by decide) (by decide) (by decide));have BW5:Hid (Below w.heap.size w w7):=BW6.out.trans (hfr.below.mono (by omega));have hs5:w1.heap.size+1 < w7.heap.size:=hwk.blk.1
       have HK5:Hid (WkAt w7 w1.heap.size (w1.heap.size+1) c.inputs (shareTo c (k+1))):=(by show WkAt _ _ _ _ _;rw [HST.out (),HGE.out (),HKW.out ()];exact hwk)
       have OM7:Hid (World.ownsMap w7 Tryz.prog 135 (plainElem Tryz.prog 3) w2.heap.size (k+1) (seenS c (k+1))):=(by show World.ownsMap _ _ _ _ _ _ _;rw [HSK.out ()];exact hfr.map OM6.out)
       clear hwk hfr;go_wp2_with fail;go_roundg (gn - (k+1))
       case measure=>omega
       case rel=>exact ⟨k+1,by omega,by omega,by go_num,hs5,BW5.out,RC5.out,RR5.out,HK5.out,OM7.out⟩
   ·have hlz:¬ (k:Int) < (gn:Int):=by omega
    obtain rfl:gn=k:=by omega
    obtain ⟨l1,l2⟩:=shareTo_len c gn;have HV:Hid (∀ _:Unit,shareC c=doneW c (shareTo c gn)):=fun _=>by unfold shareC;rw [if_pos HR.out,HGL.out ()]
    have HOB:Hid (∀ i,i < c.outs.length→0≤c.outs.getD i 0∧c.outs.getD i 0 < ((shareTo c gn).tq.length:Int)):=fun i hi=>by
     have:=outOk_at (rightC_parts HR.out).2.2 hi;rw [HGL.out ()] at this;omega
    have hone:0 < (shareTo c gn).tq.length∨on=0:=by
     rcases Nat.eq_zero_or_pos on with h0 | h0
     ·exact .inr h0
     ·have:=HOB.out 0 (by rw [HOL.out ()];exact h0);exact .inl (by omega)
    obtain ⟨k0,k1,k2,kl⟩:=RC.out.cells3;go_wp2_with fail;refine (done_any w1.heap.size (w1.heap.size+1) c.inputs (shareTo c gn) c GA OA gn gc on oc wr HK.out (by omega) (HC0.out.up BW.out) hone (by omega) (by omega) (by omega) HOB.out).mono ?_;rintro e w3 ⟨GB,OB,hn,hc,pn,pc,he,hca,hf1,hf2,hb⟩;have he2:e=.returned (.agg #[.int .i64 c.inputs,.slice GB hn hc,.slice OB pn pc]):=he;subst he2;clear he
    have HCA:Hid (CAt w3 (shareC c) GB OB hn pn):=(by show CAt _ _ _ _ _ _;rw [HV.out ()];exact hca)
    have HF1:Hid (CFrom GB hn w1.heap.size):=hf1;have HF2:Hid (CFrom OB pn w1.heap.size):=hf2;have RR3:=hiD (rowCells RR.out hb);have BW3:=hiD (below_on2 BW.out hb);clear hca hf1 hf2 hb k0 k1 k2 kl HOB hone RC RR BW HK OM;obtain ⟨z0,z1,z2,zl⟩:=RR3.out.cells3;obtain ⟨zf0,zf1,zf2⟩:=RR3.out.froz3;go_wp2;have Z9:=RR3.out.set3 (.int .i64 c.inputs) (.slice GB hn hc) (.slice OB pn pc);have B9:=bSet3 BW3.out (w.heap.size+1) (by show _≤(w.heap.size+1);omega) (.int .i64 c.inputs) (.slice GB hn hc) (.slice OB pn pc);obtain ⟨d0,d1,d2,-⟩:=Z9.cells3;clear Z9;refine bodyPost_ret (v:=.agg #[.int .i64 c.inputs,.slice GB hn hc,.slice OB pn pc]) (by simp [results,Tryz.results34,go_sem,d0,d1,d2]) rfl ?_;have HIN:(shareC c).inputs=c.inputs:=by rw [HV.out ()];rfl
    exact ⟨GB,OB,hn,hc,pn,pc,by rw [HIN],(CAt.farSet (CAt.farSet (CAt.farSet HCA.out (p:=⟨(w.heap.size+1),0,none⟩) (HF1.out.ne (by show (w.heap.size+1) < _;omega)) (HF2.out.ne (by show (w.heap.size+1) < _;omega)) (.int .i64 c.inputs)) (p:=⟨(w.heap.size+1),1,none⟩) (HF1.out.ne (by show (w.heap.size+1) < _;omega)) (HF2.out.ne (by show (w.heap.size+1) < _;omega)) (.slice GB hn hc)) (p:=⟨(w.heap.size+1),2,none⟩) (HF1.out.ne (by show (w.heap.size+1) < _;omega)) (HF2.out.ne (by show (w.heap.size+1) < _;omega)) (.slice OB pn pc)),HF1.out.mono (by omega),HF2.out.mono (by omega),B9⟩
end Go.Proofs.YtbijfnbelkbofaaGreatDoor
