/-
 A part.
-/
import Derived.Test.YtiemhbogbaamlaaYF9
import Derived.Test.YtiemhbogbaamlaaYF10
import Derived.Test.YtiemhbogbaamlaaYF11
import Derived.Test.YtiemhbogbaamlaaYF4
set_option linter.unusedSimpArgs false
set_option linter.unusedVariables false
namespace Go.Proofs.Ytiemhbogbaamlaa
open Go.RowKit
theorem cright_at (c:Circ) (GA OA:Option Addr) (gn gc on oc:Nat) (w:World) (h:CAt w c GA OA gn on):
 Calls Try.prog 54 #[.agg #[.int .i64 c.inputs,.slice GA gn gc,.slice OA on oc]] w fun e w'=>e=.returned (.bool (rightC c))∧Below w.heap.size w w':=
 right_any c.inputs GA OA gn gc on oc c.gates c.outs w h.gates h.outs h.g63 h.o63
theorem gate_ok_ops {lim:Int} {g:Gt} (h:gateOk lim g=true):(1≤operandsO g.op→0≤g.a∧g.a < lim)∧(operandsO g.op=2→0≤g.b∧g.b < lim):=by
 obtain ⟨ho,ha,hb,_,_⟩:=gateOk_parts h
 have hop:=operandsO_of ho
 constructor
 ·intro h1
  rw [hop] at h1
  exact ha (by split at h1 <;> omega)
 ·intro h1
  rw [hop] at h1
  exact hb (by split at h1 <;> (try split at h1) <;> omega)
set_option maxRecDepth 100000 in
set_option maxHeartbeats 8000000 in
theorem fold_any (c:Circ) (GA OA:Option Addr) (gn gc on oc:Nat) (w:World) (hc:CAt w c GA OA gn on):
 Calls Try.prog 57 #[.agg #[.int .i64 c.inputs,.slice GA gn gc,.slice OA on oc]] w (CiPost (foldC c) w.heap.size w):=by
 have HC0:Hid (CAt w c GA OA gn on):=hc
 have HGL:Hid (∀ _:Unit,c.gates.length=gn):=fun _=>hc.gl
 have HOL:Hid (∀ _:Unit,c.outs.length=on):=fun _=>hc.ol
 clear hc
 go_enter Try.func57,Try.ntmps57
 go_wp2_with fail
 obtain ⟨wa,hW9,RC,RR,hgr9⟩:=laid2 w [.int .i64 c.inputs,.slice GA gn gc,.slice OA on oc] 37 [.int .i64 0,.slice none 0 0,.slice none 0 0] 37
 rewrite [hW9]
 clear hW9
 have B_w:=hiD hgr9
 clear hgr9
 have hwa:w.heap.size+1 < wa.heap.size:=RR.out.lt
 obtain ⟨q,hq⟩:∃ q,rightC c=q:=⟨_,rfl⟩
 have HQ:=hiU hq
 have HC:=cright_at c GA OA gn gc on oc wa (HC0.out.up B_w.out)
 rw [hq] at HC
 clear hq
 refine HC.mono ?_
 clear HC
 rintro e w1 ⟨rfl,hb⟩
 have hwb:wa.heap.size≤w1.heap.size:=hb.size
 have B_w:=hiD (below_on2 B_w.out hb)
 have B_wa:Hid (Below wa.heap.size wa w1):=hb
 clear hb
 have RR1:=hiD (rowCells RR.out B_wa.out)
 have RC1:=hiD (rowCells RC.out B_wa.out)
 have BW1:Hid (Below w.heap.size w w1):=B_w
 clear B_w B_wa RC RR
 cases q
 ·skip
  obtain ⟨z0,z1,z2,zl⟩:=RR1.out.cells3
  obtain ⟨zf0,zf1,zf2⟩:=RR1.out.froz3
  go_wp2
  have Z9:=RR1.out.set3 (.int .i64 0) (.slice none 0 0) (.slice none 0 0)
  have B9:=bSet3 BW1.out (w.heap.size+1) (by show _≤(w.heap.size+1);omega) (.int .i64 0) (.slice none 0 0) (.slice none 0 0)
  obtain ⟨d0,d1,d2,-⟩:=Z9.cells3
  clear Z9
  refine bodyPost_ret (v:=.agg #[.int .i64 0,.slice none 0 0,.slice none 0 0]) (by simp [results,Try.results57,go_sem,d0,d1,d2]) rfl ?_
  have HV:foldC c=noCirc:=by unfold foldC;rw [if_neg (by rw [HQ.out ()];decide)]
  rw [HV]
  exact ⟨none,none,0,0,0,0,rfl,noCirc_at _,.none,.none,B9⟩
 ·have HR:Hid (rightC c=true):=HQ.out ()
  obtain ⟨⟨hn0,hn1,hg0,ho0⟩,_⟩:=rightC_parts HR.out
  rw [HGL.out ()] at hg0
  rw [HOL.out ()] at ho0
  clear HQ
  obtain ⟨k0,k1,k2,kl⟩:=RC1.out.cells3
  go_wp2_with fail
  refine (start_any c GA OA gn gc on oc w1 ⟨hn0,hn1⟩).mono ?_
  rintro e w2 ⟨rfl,hwk,hb⟩
  have HK:Hid (WkAt w2 w1.heap.size (w1.heap.size+1) c.inputs (foldTo c 0)):=hwk
  have RR2:=hiD (rowCells RR1.out hb)
  have RC2:=hiD (rowCells RC1.out hb)
  have BW2:=hiD (below_on2 BW1.out hb)
  have hs2:w1.heap.size+1 < w2.heap.size:=hwk.blk.1
  clear hwk hb k0 k1 k2 kl RR1 RC1 BW1
  obtain ⟨k0,k1,k2,kl⟩:=RC2.out.cells3
  go_wp2_with fail
  clear k0 k1 k2 kl
  go_loopg [5,15] gn (fun gg _ s15 wr=>∃ k:Nat,k≤gn∧gn - k≤gg∧s15=.int .i64 k∧w1.heap.size+1 < wr.heap.size∧Aside (Below w.heap.size w wr)∧Aside (Row wr w.heap.size 37 [.int .i64 c.inputs,.slice GA gn gc,.slice OA on oc])∧Aside (Row wr (w.heap.size+1) 37 [.int .i64 0,.slice none 0 0,.slice none 0 0])∧Aside (WkAt wr w1.heap.size (w1.heap.size+1) c.inputs (foldTo c k)))
  case atStart=>exact ⟨0,Nat.zero_le _,by omega,rfl,hs2,BW2.out,RC2.out,RR2.out,HK.out⟩
  case round=>
   clear RC2 RR2 BW2 HK
   obtain ⟨k,hk,hgg,rfl,hsz,BW,RC,RR,HK⟩:=hrel
   by_cases hlt:k < gn
   ·have hlz:(k:Int) < (gn:Int):=by omega
    have hkc:k < c.gates.length:=by rw [HGL.out ()];exact hlt
    obtain ⟨ad,rfl,hab,c0,c1,c2⟩:=(HC0.out.up BW.out).gates.gate hlt
    obtain ⟨l1,l2⟩:=foldTo_len c k
    have hso:=foldTo_ok HR.out k (by omega)
    have hgo:=gateAt_ok HR.out hkc
    have hmo:=moveG_ok hso hgo (by omega) (fun _=>trivial) (fun _=>trivial)
    obtain ⟨g1,g2⟩:=gate_ok_ops hgo
    have HST:Hid (∀ _:Unit,foldTo c (k+1)=addW c.inputs (foldTo c k) (foldG c.inputs (foldTo c k).gates (moveG (foldTo c k).to (gateAt c k)))):=fun _=>rfl
    change wr.cell? _=some (.int .i64 (gateAt c k).op) at c0
    change wr.cell? _=some (.int .i64 (gateAt c k).a) at c1
    change wr.cell? _=some (.int .i64 (gateAt c k).b) at c2
    generalize gateAt c k=g at c0 c1 c2 hgo hmo g1 g2 HST
    generalize foldTo c k=s at HK l1 l2 hso hmo HST
    obtain ⟨h,hh⟩:∃ h,moveG s.to g=h:=⟨_,rfl⟩
    rw [hh] at hmo
    have HMV:=hiU hh
    have HMO:Hid (gateOk (c.inputs+(s.gates.length:Int)) h=true):=hmo
    have HGA:Hid ((1≤operandsO g.op→0≤g.a∧g.a < (s.to.length:Int))∧(operandsO g.op=2→0≤g.b∧g.b < (s.to.length:Int))):=⟨fun q=>by have:=g1 q;omega,fun q=>by have:=g2 q;omega⟩
    have htl:s.to.length≤30000:=by omega
    have hgl:s.gates.length≤20000:=by omega
    have HLG:=hiU l1
    clear l1 l2 hso hgo hmo g1 g2 hh hkc
    go_wp2_with fail
    clear c0 c1 c2 hab
    obtain ⟨wx,hW9,RB,hgr9⟩:=laid1 wr [.int .i64 g.op,.int .i64 g.a,.int .i64 g.b] 77
    rewrite [hW9]
    clear hW9
    have B_wr:=hiD hgr9
    clear hgr9
    have HC:=moved_any w1.heap.size (w1.heap.size+1) c.inputs s g wx (HK.out.below B_wr.out) htl HGA.out.1 HGA.out.2
    rw [HMV.out ()] at HC
    refine HC.mono ?_
    clear HC
    rintro e w3 ⟨rfl,hb⟩
    have hszx:wr.heap.size < wx.heap.size:=RB.out.lt
    have B_wr:=hiD (below_on2 B_wr.out hb)
    have B_wx:Hid (Below wx.heap.size wx w3):=hb
    clear hb
    have RB3:=hiD (rowCells RB.out B_wx.out)
    obtain ⟨hop,hha,hhb,-,-⟩:=gateOk_parts HMO.out
    obtain ⟨op,x,y⟩:=h
    dsimp only at hop hha hhb
    have HHA:=hiU hha
    have HHB:=hiU hhb
    clear hha hhb HMO
    rcases hop with rfl | rfl | rfl | rfl | rfl | rfl
    ·skip
     have HFG:Hid (∀ _:Unit,foldG c.inputs s.gates ⟨0,x,y⟩=(⟨0,x,y⟩,-1)):=fun _=>rfl
     obtain ⟨k0,k1,k2,kl⟩:=RB3.out.cells3
     obtain ⟨kf0,kf1,kf2⟩:=RB3.out.froz3
     go_wp2_with fail
     have BL:=hiD (bSet3 B_wr.out wr.heap.size (Nat.le_refl _) (.int .i64 0) (.int .i64 x) (.int .i64 y))
     clear k0 k1 k2 kl kf0 kf1 kf2 RB3 B_wr B_wx RB
     revert BL
     generalize (World.setCell (World.setCell (World.setCell w3 ⟨wr.heap.size,0,none⟩ (.int .i64 0)) ⟨wr.heap.size,1,none⟩ (.int .i64 x)) ⟨wr.heap.size,2,none⟩ (.int .i64 y))=w4
     intro BL
     have HK4:Hid (WkAt w4 w1.heap.size (w1.heap.size+1) c.inputs s):=HK.out.below BL.out
     have hs4:wr.heap.size≤w4.heap.size:=BL.out.size
     refine (add_any w1.heap.size (w1.heap.size+1) c.inputs s ⟨0,x,y⟩ (-1) w4 HK4.out (by omega) ⟨hn0,hn1⟩ hgl htl).mono ?_
     rintro e w5 ⟨rfl,hwk,hfr⟩
     have HK5:Hid (WkAt w5 w1.heap.size (w1.heap.size+1) c.inputs (foldTo c (k+1))):=(by show WkAt _ _ _ _ _;rw [HST.out (),HMV.out (),HFG.out ()];exact hwk)
     have RC5:Hid (Row w5 w.heap.size 37 [.int .i64 c.inputs,.slice (some ad) gn gc,.slice OA on oc]):=hfr.row (rowCells RC.out BL.out) (by decide) (by decide) (by decide)
     have RR5:Hid (Row w5 (w.heap.size+1) 37 [.int .i64 0,.slice none 0 0,.slice none 0 0]):=hfr.row (rowCells RR.out BL.out) (by decide) (by decide) (by decide)
     have BW5:Hid (Below w.heap.size w w5):=BW.out.trans ((BL.out.mono (by omega)).trans (hfr.below.mono (by omega)))
     have hs5:w1.heap.size+1 < w5.heap.size:=hwk.blk.1
     clear hwk hfr BL HK4
     go_wp2_with fail
     go_roundg (gn - (k+1))
     case measure=>omega
     case rel=>exact ⟨k+1,by omega,by omega,by go_num,hs5,BW5.out,RC5.out,RR5.out,HK5.out⟩
    ·skip
     have HFG:Hid (∀ _:Unit,foldG c.inputs s.gates ⟨1,x,y⟩=(⟨1,x,y⟩,-1)):=fun _=>rfl
     obtain ⟨k0,k1,k2,kl⟩:=RB3.out.cells3
     obtain ⟨kf0,kf1,kf2⟩:=RB3.out.froz3
     go_wp2_with fail
     have BL:=hiD (bSet3 B_wr.out wr.heap.size (Nat.le_refl _) (.int .i64 1) (.int .i64 x) (.int .i64 y))
     clear k0 k1 k2 kl kf0 kf1 kf2 RB3 B_wr B_wx RB
     revert BL
     generalize (World.setCell (World.setCell (World.setCell w3 ⟨wr.heap.size,0,none⟩ (.int .i64 1)) ⟨wr.heap.size,1,none⟩ (.int .i64 x)) ⟨wr.heap.size,2,none⟩ (.int .i64 y))=w4
     intro BL
     have HK4:Hid (WkAt w4 w1.heap.size (w1.heap.size+1) c.inputs s):=HK.out.below BL.out
     have hs4:wr.heap.size≤w4.heap.size:=BL.out.size
     refine (add_any w1.heap.size (w1.heap.size+1) c.inputs s ⟨1,x,y⟩ (-1) w4 HK4.out (by omega) ⟨hn0,hn1⟩ hgl htl).mono ?_
     rintro e w5 ⟨rfl,hwk,hfr⟩
     have HK5:Hid (WkAt w5 w1.heap.size (w1.heap.size+1) c.inputs (foldTo c (k+1))):=(by show WkAt _ _ _ _ _;rw [HST.out (),HMV.out (),HFG.out ()];exact hwk)
     have RC5:Hid (Row w5 w.heap.size 37 [.int .i64 c.inputs,.slice (some ad) gn gc,.slice OA on oc]):=hfr.row (rowCells RC.out BL.out) (by decide) (by decide) (by decide)
     have RR5:Hid (Row w5 (w.heap.size+1) 37 [.int .i64 0,.slice none 0 0,.slice none 0 0]):=hfr.row (rowCells RR.out BL.out) (by decide) (by decide) (by decide)
     have BW5:Hid (Below w.heap.size w w5):=BW.out.trans ((BL.out.mono (by omega)).trans (hfr.below.mono (by omega)))
     have hs5:w1.heap.size+1 < w5.heap.size:=hwk.blk.1
     clear hwk hfr BL HK4
     go_wp2_with fail
     go_roundg (gn - (k+1))
     case measure=>omega
     case rel=>exact ⟨k+1,by omega,by omega,by go_num,hs5,BW5.out,RC5.out,RR5.out,HK5.out⟩
    ·skip
     have HFG:Hid (∀ _:Unit,foldG c.inputs s.gates ⟨2,x,y⟩=notF c.inputs s.gates x):=fun _=>rfl
     obtain ⟨k0,k1,k2,kl⟩:=RB3.out.cells3
     obtain ⟨kf0,kf1,kf2⟩:=RB3.out.froz3
     go_wp2_with fail
     have BL:=hiD (bSet3 B_wr.out wr.heap.size (Nat.le_refl _) (.int .i64 2) (.int .i64 x) (.int .i64 y))
     clear k0 k1 k2 kl kf0 kf1 kf2 RB3 B_wr B_wx RB
     revert BL
     generalize (World.setCell (World.setCell (World.setCell w3 ⟨wr.heap.size,0,none⟩ (.int .i64 2)) ⟨wr.heap.size,1,none⟩ (.int .i64 x)) ⟨wr.heap.size,2,none⟩ (.int .i64 y))=w4
     intro BL
     have HK4:Hid (WkAt w4 w1.heap.size (w1.heap.size+1) c.inputs s):=HK.out.below BL.out
     have hs4:wr.heap.size≤w4.heap.size:=BL.out.size
     refine (notO_any w1.heap.size (w1.heap.size+1) c.inputs s x w4 HK4.out (by omega) ⟨hn0,hn1⟩ hgl htl (HHA.out () (by omega))).mono ?_
     rintro e w5 ⟨rfl,hwk,hfr⟩
     have HK5:Hid (WkAt w5 w1.heap.size (w1.heap.size+1) c.inputs (foldTo c (k+1))):=(by show WkAt _ _ _ _ _;rw [HST.out (),HMV.out (),HFG.out ()];exact hwk)
     have RC5:Hid (Row w5 w.heap.size 37 [.int .i64 c.inputs,.slice (some ad) gn gc,.slice OA on oc]):=hfr.row (rowCells RC.out BL.out) (by decide) (by decide) (by decide)
     have RR5:Hid (Row w5 (w.heap.size+1) 37 [.int .i64 0,.slice none 0 0,.slice none 0 0]):=hfr.row (rowCells RR.out BL.out) (by decide) (by decide) (by decide)
     have BW5:Hid (Below w.heap.size w w5):=BW.out.trans ((BL.out.mono (by omega)).trans (hfr.below.mono (by omega)))
     have hs5:w1.heap.size+1 < w5.heap.size:=hwk.blk.1
     clear hwk hfr BL HK4
     go_wp2_with fail
     go_roundg (gn - (k+1))
     case measure=>omega
     case rel=>exact ⟨k+1,by omega,by omega,by go_num,hs5,BW5.out,RC5.out,RR5.out,HK5.out⟩
    ·skip
     have HFG:Hid (∀ _:Unit,foldG c.inputs s.gates ⟨3,x,y⟩=eitherF c.inputs s.gates ⟨3,x,y⟩ 0 1):=fun _=>rfl
     obtain ⟨k0,k1,k2,kl⟩:=RB3.out.cells3
     obtain ⟨kf0,kf1,kf2⟩:=RB3.out.froz3
     go_wp2_with fail
     have BL:=hiD (bSet3 B_wr.out wr.heap.size (Nat.le_refl _) (.int .i64 3) (.int .i64 x) (.int .i64 y))
     clear k0 k1 k2 kl kf0 kf1 kf2 RB3 B_wr B_wx RB
     revert BL
     generalize (World.setCell (World.setCell (World.setCell w3 ⟨wr.heap.size,0,none⟩ (.int .i64 3)) ⟨wr.heap.size,1,none⟩ (.int .i64 x)) ⟨wr.heap.size,2,none⟩ (.int .i64 y))=w4
     intro BL
     have HK4:Hid (WkAt w4 w1.heap.size (w1.heap.size+1) c.inputs s):=HK.out.below BL.out
     have hs4:wr.heap.size≤w4.heap.size:=BL.out.size
     refine (either_any w1.heap.size (w1.heap.size+1) c.inputs s ⟨3,x,y⟩ 0 1 w4 HK4.out (by omega) ⟨hn0,hn1⟩ hgl htl (HHA.out () (by omega)) (HHB.out () (by omega))).mono ?_
     rintro e w5 ⟨rfl,hwk,hfr⟩
     have HK5:Hid (WkAt w5 w1.heap.size (w1.heap.size+1) c.inputs (foldTo c (k+1))):=(by show WkAt _ _ _ _ _;rw [HST.out (),HMV.out (),HFG.out ()];exact hwk)
     have RC5:Hid (Row w5 w.heap.size 37 [.int .i64 c.inputs,.slice (some ad) gn gc,.slice OA on oc]):=hfr.row (rowCells RC.out BL.out) (by decide) (by decide) (by decide)
     have RR5:Hid (Row w5 (w.heap.size+1) 37 [.int .i64 0,.slice none 0 0,.slice none 0 0]):=hfr.row (rowCells RR.out BL.out) (by decide) (by decide) (by decide)
     have BW5:Hid (Below w.heap.size w w5):=BW.out.trans ((BL.out.mono (by omega)).trans (hfr.below.mono (by omega)))
     have hs5:w1.heap.size+1 < w5.heap.size:=hwk.blk.1
     clear hwk hfr BL HK4
     go_wp2_with fail
     go_roundg (gn - (k+1))
     case measure=>omega
     case rel=>exact ⟨k+1,by omega,by omega,by go_num,hs5,BW5.out,RC5.out,RR5.out,HK5.out⟩
    ·skip
     have HFG:Hid (∀ _:Unit,foldG c.inputs s.gates ⟨4,x,y⟩=eitherF c.inputs s.gates ⟨4,x,y⟩ 1 0):=fun _=>rfl
     obtain ⟨k0,k1,k2,kl⟩:=RB3.out.cells3
     obtain ⟨kf0,kf1,kf2⟩:=RB3.out.froz3
     go_wp2_with fail
     have BL:=hiD (bSet3 B_wr.out wr.heap.size (Nat.le_refl _) (.int .i64 4) (.int .i64 x) (.int .i64 y))
     clear k0 k1 k2 kl kf0 kf1 kf2 RB3 B_wr B_wx RB
     revert BL
     generalize (World.setCell (World.setCell (World.setCell w3 ⟨wr.heap.size,0,none⟩ (.int .i64 4)) ⟨wr.heap.size,1,none⟩ (.int .i64 x)) ⟨wr.heap.size,2,none⟩ (.int .i64 y))=w4
     intro BL
     have HK4:Hid (WkAt w4 w1.heap.size (w1.heap.size+1) c.inputs s):=HK.out.below BL.out
     have hs4:wr.heap.size≤w4.heap.size:=BL.out.size
     refine (either_any w1.heap.size (w1.heap.size+1) c.inputs s ⟨4,x,y⟩ 1 0 w4 HK4.out (by omega) ⟨hn0,hn1⟩ hgl htl (HHA.out () (by omega)) (HHB.out () (by omega))).mono ?_
     rintro e w5 ⟨rfl,hwk,hfr⟩
     have HK5:Hid (WkAt w5 w1.heap.size (w1.heap.size+1) c.inputs (foldTo c (k+1))):=(by show WkAt _ _ _ _ _;rw [HST.out (),HMV.out (),HFG.out ()];exact hwk)
     have RC5:Hid (Row w5 w.heap.size 37 [.int .i64 c.inputs,.slice (some ad) gn gc,.slice OA on oc]):=hfr.row (rowCells RC.out BL.out) (by decide) (by decide) (by decide)
     have RR5:Hid (Row w5 (w.heap.size+1) 37 [.int .i64 0,.slice none 0 0,.slice none 0 0]):=hfr.row (rowCells RR.out BL.out) (by decide) (by decide) (by decide)
     have BW5:Hid (Below w.heap.size w w5):=BW.out.trans ((BL.out.mono (by omega)).trans (hfr.below.mono (by omega)))
     have hs5:w1.heap.size+1 < w5.heap.size:=hwk.blk.1
     clear hwk hfr BL HK4
     go_wp2_with fail
     go_roundg (gn - (k+1))
     case measure=>omega
     case rel=>exact ⟨k+1,by omega,by omega,by go_num,hs5,BW5.out,RC5.out,RR5.out,HK5.out⟩
    ·skip
     have HFG:Hid (∀ _:Unit,foldG c.inputs s.gates ⟨5,x,y⟩=xorF c.inputs s.gates ⟨5,x,y⟩):=fun _=>rfl
     obtain ⟨k0,k1,k2,kl⟩:=RB3.out.cells3
     obtain ⟨kf0,kf1,kf2⟩:=RB3.out.froz3
     go_wp2_with fail
     have BL:=hiD (bSet3 B_wr.out wr.heap.size (Nat.le_refl _) (.int .i64 5) (.int .i64 x) (.int .i64 y))
     clear k0 k1 k2 kl kf0 kf1 kf2 RB3 B_wr B_wx RB
     revert BL
     generalize (World.setCell (World.setCell (World.setCell w3 ⟨wr.heap.size,0,none⟩ (.int .i64 5)) ⟨wr.heap.size,1,none⟩ (.int .i64 x)) ⟨wr.heap.size,2,none⟩ (.int .i64 y))=w4
     intro BL
     have HK4:Hid (WkAt w4 w1.heap.size (w1.heap.size+1) c.inputs s):=HK.out.below BL.out
     have hs4:wr.heap.size≤w4.heap.size:=BL.out.size
     refine (xor_any w1.heap.size (w1.heap.size+1) c.inputs s ⟨5,x,y⟩ w4 HK4.out (by omega) ⟨hn0,hn1⟩ hgl htl (HHA.out () (by omega)) (HHB.out () (by omega))).mono ?_
     rintro e w5 ⟨rfl,hwk,hfr⟩
     have HK5:Hid (WkAt w5 w1.heap.size (w1.heap.size+1) c.inputs (foldTo c (k+1))):=(by show WkAt _ _ _ _ _;rw [HST.out (),HMV.out (),HFG.out ()];exact hwk)
     have RC5:Hid (Row w5 w.heap.size 37 [.int .i64 c.inputs,.slice (some ad) gn gc,.slice OA on oc]):=hfr.row (rowCells RC.out BL.out) (by decide) (by decide) (by decide)
     have RR5:Hid (Row w5 (w.heap.size+1) 37 [.int .i64 0,.slice none 0 0,.slice none 0 0]):=hfr.row (rowCells RR.out BL.out) (by decide) (by decide) (by decide)
     have BW5:Hid (Below w.heap.size w w5):=BW.out.trans ((BL.out.mono (by omega)).trans (hfr.below.mono (by omega)))
     have hs5:w1.heap.size+1 < w5.heap.size:=hwk.blk.1
     clear hwk hfr BL HK4
     go_wp2_with fail
     go_roundg (gn - (k+1))
     case measure=>omega
     case rel=>exact ⟨k+1,by omega,by omega,by go_num,hs5,BW5.out,RC5.out,RR5.out,HK5.out⟩
   ·have hlz:¬ (k:Int) < (gn:Int):=by omega
    obtain rfl:gn=k:=by omega
    obtain ⟨l1,l2⟩:=foldTo_len c gn
    have HV:Hid (∀ _:Unit,foldC c=doneW c (foldTo c gn)):=fun _=>by unfold foldC;rw [if_pos HR.out,HGL.out ()]
    have HOB:Hid (∀ i,i < c.outs.length→0≤c.outs.getD i 0∧c.outs.getD i 0 < ((foldTo c gn).to.length:Int)):=fun i hi=>by
     have:=outOk_at (rightC_parts HR.out).2.2 hi
     rw [HGL.out ()] at this
     omega
    have hone:0 < (foldTo c gn).to.length∨on=0:=by
     rcases Nat.eq_zero_or_pos on with h0 | h0
     ·exact .inr h0
     ·have:=HOB.out 0 (by rw [HOL.out ()];exact h0)
      exact .inl (by omega)
    obtain ⟨k0,k1,k2,kl⟩:=RC.out.cells3
    go_wp2_with fail
    refine (done_any w1.heap.size (w1.heap.size+1) c.inputs (foldTo c gn) c GA OA gn gc on oc wr HK.out (by omega) (HC0.out.up BW.out) hone (by omega) (by omega) (by omega) HOB.out).mono ?_
    rintro e w3 ⟨GB,OB,hn,hc,pn,pc,he,hca,hf1,hf2,hb⟩
    have he2:e=.returned (.agg #[.int .i64 c.inputs,.slice GB hn hc,.slice OB pn pc]):=he
    subst he2
    clear he
    have HCA:Hid (CAt w3 (foldC c) GB OB hn pn):=(by show CAt _ _ _ _ _ _;rw [HV.out ()];exact hca)
    have HF1:Hid (CFrom GB hn w1.heap.size):=hf1
    have HF2:Hid (CFrom OB pn w1.heap.size):=hf2
    have RR3:=hiD (rowCells RR.out hb)
    have BW3:=hiD (below_on2 BW.out hb)
    clear hca hf1 hf2 hb k0 k1 k2 kl HOB hone RC RR BW HK
    obtain ⟨z0,z1,z2,zl⟩:=RR3.out.cells3
    obtain ⟨zf0,zf1,zf2⟩:=RR3.out.froz3
    go_wp2
    have Z9:=RR3.out.set3 (.int .i64 c.inputs) (.slice GB hn hc) (.slice OB pn pc)
    have B9:=bSet3 BW3.out (w.heap.size+1) (by show _≤(w.heap.size+1);omega) (.int .i64 c.inputs) (.slice GB hn hc) (.slice OB pn pc)
    obtain ⟨d0,d1,d2,-⟩:=Z9.cells3
    clear Z9
    refine bodyPost_ret (v:=.agg #[.int .i64 c.inputs,.slice GB hn hc,.slice OB pn pc]) (by simp [results,Try.results57,go_sem,d0,d1,d2]) rfl ?_
    have HIN:(foldC c).inputs=c.inputs:=by rw [HV.out ()];rfl
    exact ⟨GB,OB,hn,hc,pn,pc,by rw [HIN],(CAt.farSet (CAt.farSet (CAt.farSet HCA.out (p:=⟨(w.heap.size+1),0,none⟩) (HF1.out.ne (by show (w.heap.size+1) < _;omega)) (HF2.out.ne (by show (w.heap.size+1) < _;omega)) (.int .i64 c.inputs)) (p:=⟨(w.heap.size+1),1,none⟩) (HF1.out.ne (by show (w.heap.size+1) < _;omega)) (HF2.out.ne (by show (w.heap.size+1) < _;omega)) (.slice GB hn hc)) (p:=⟨(w.heap.size+1),2,none⟩) (HF1.out.ne (by show (w.heap.size+1) < _;omega)) (HF2.out.ne (by show (w.heap.size+1) < _;omega)) (.slice OB pn pc)),HF1.out.mono (by omega),HF2.out.mono (by omega),B9⟩
end Go.Proofs.Ytiemhbogbaamlaa
