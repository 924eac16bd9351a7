/-
 A part.
-/
import Derived.Test.YtiemhbogbaamlaaYF15
import Derived.Test.YtiemhbogbaamlaaYF37
import Derived.Test.YtiemhbogbaamlaaYF39
import Derived.Test.YtiemhbogbaamlaaYF21
set_option linter.unusedSimpArgs false
set_option linter.unusedVariables false
namespace Go.Proofs.Ytiemhbogbaamlaa
open Go.RowKit
theorem rSameZ_at (c d:Circ) (GA OA GB OB:Option Addr) (gn gc on oc hn hc pn pc:Nat) (w:World) (h:CAt w c GA OA gn on) (k:CAt w d GB OB hn pn):
 Calls Try.prog 12 #[.agg #[.int .i64 c.inputs,.slice GA gn gc,.slice OA on oc],.agg #[.int .i64 d.inputs,.slice GB hn hc,.slice OB pn pc]] w fun e w'=>e=.returned (.bool (sameC c d))∧Below w.heap.size w w':=
 rSame_any c.inputs d.inputs GA OA GB OB gn gc on oc hn hc pn pc c.gates d.gates c.outs d.outs w h.gates h.outs h.g63 h.o63 k.gates k.outs k.g63 k.o63
end Go.Proofs.Ytiemhbogbaamlaa
/-
 A part.
-/
namespace Go.Proofs.Ytiemhbogbaamlaa
open Go.RowKit
set_option maxRecDepth 100000 in
set_option maxHeartbeats 8000000 in
theorem rAll_from (c:Circ) (GA OA:Option Addr) (gn gc on oc lo:Nat) (w:World) (hc:CAt w c GA OA gn on) (hlo:lo≤w.heap.size) (hfG:CFrom GA gn lo) (hfO:CFrom OA on lo):
 Calls Try.prog 34 #[.agg #[.int .i64 c.inputs,.slice GA gn gc,.slice OA on oc]] w (CiPost (allC c) lo w):=by
 have HC0:=hiD hc
 have HFG:=hiD hfG
 have HFO:=hiD hfO
 have HLO:=hiD hlo
 clear hc hfG hfO hlo
 go_enter Try.func34,Try.ntmps34
 go_wp2_with fail
 obtain ⟨wa,hW9,RC,RR,hgr9⟩:=laid2 w [.int .i64 c.inputs,.slice GA gn gc,.slice OA on oc] 37 [.int .i64 0,.slice none 0 0,.slice none 0 0] 37
 rewrite [hW9]
 clear hW9
 have B_w:=hiD hgr9
 clear hgr9
 have hwa:w.heap.size+1 < wa.heap.size:=RR.out.lt
 obtain ⟨q,hq⟩:∃ q,rightC c=q:=⟨_,rfl⟩
 have HQ:=hiU hq
 have HC:=rRightZ_at c GA OA gn gc on oc wa (HC0.out.up B_w.out)
 rw [hq] at HC
 clear hq
 refine HC.mono ?_
 clear HC
 rintro e w1 ⟨rfl,hb⟩
 have B_w:=hiD (below_on2 B_w.out hb)
 have B_wa:=hiD hb
 clear hb
 have RR1:=hiD (rowCells RR.out B_wa.out)
 have RC1:=hiD (rowCells RC.out B_wa.out)
 have BW1:=hiD B_w
 clear B_w B_wa RC RR
 cases q
 ·skip
  obtain ⟨z0,z1,z2,zl⟩:=RR1.out.cells3
  obtain ⟨zf0,zf1,zf2⟩:=RR1.out.froz3
  go_wp2
  have Z9:=RR1.out.set3 (.int .i64 0) (.slice none 0 0) (.slice none 0 0)
  have B9:=bSet3 BW1.out (w.heap.size+1) (by show _≤(w.heap.size+1);omega) (.int .i64 0) (.slice none 0 0) (.slice none 0 0)
  obtain ⟨d0,d1,d2,-⟩:=Z9.cells3
  clear Z9
  refine bodyPost_ret (v:=.agg #[.int .i64 0,.slice none 0 0,.slice none 0 0]) (by simp [results,Try.results34,go_sem,d0,d1,d2]) rfl ?_
  have HV:allC c=noCirc:=by unfold allC;rw [if_neg (by rw [HQ.out ()];decide)]
  rw [HV]
  exact ⟨none,none,0,0,0,0,rfl,noCirc_at _,.none,.none,B9⟩
 ·have HR:Hid (rightC c=true):=HQ.out ()
  have HV:Hid (∀ _:Unit,allC c=iterC (measC c) c):=fun _=>by rw [allC,if_pos HR.out]
  clear HQ
  go_wp2_with fail
  go_loopg [3] (measC c) (fun gg _ wr=>∃ (m:Nat) (d:Circ) (DA EA:Option Addr) (dn dc en ec:Nat),m≤gg∧w.heap.size+1 < wr.heap.size∧Aside (rightC d=true∧measC d≤m)∧Aside (∀ _:Unit,allC c=iterC m d)∧Aside (CAt wr d DA EA dn en)∧Aside (NotIn DA dn (w.heap.size+1))∧Aside (NotIn EA en (w.heap.size+1))∧Aside (Below w.heap.size w wr)∧Aside (Row wr w.heap.size 37 [.int .i64 d.inputs,.slice DA dn dc,.slice EA en ec])∧Aside (Row wr (w.heap.size+1) 37 [.int .i64 0,.slice none 0 0,.slice none 0 0])∧Aside (CFrom DA dn lo)∧Aside (CFrom EA en lo))
  case atStart=>
   have h1:=HC0.out
   exact ⟨measC c,c,GA,OA,gn,gc,on,oc,Nat.le_refl _,RR1.out.lt,⟨HR.out,Nat.le_refl _⟩,HV.out,HC0.out.up BW1.out,h1.gates.low (Nat.le_succ _),h1.outs.low (Nat.le_succ _),BW1.out,RC1.out,RR1.out,HFG.out,HFO.out⟩
  case round=>
   clear RC1 RR1 BW1
   obtain ⟨m,d,DA,EA,dn,dc,en,ec,hgg,hsz,HD,HIT,HCD,HN1,HN2,BW,RC,RR,CF1,CF2⟩:=hrel
   obtain ⟨k0,k1,k2,kl⟩:=RC.out.cells3
   go_wp2_with fail
   clear k0 k1 k2 kl
   refine (rFold_any d DA EA dn dc en ec wr HCD.out).mono ?_
   rintro e w2 ⟨FA,FB,FAn,FAc,FBn,FBc,he,hca,hf1,hf2,hb⟩
   have he2:e=.returned (.agg #[.int .i64 (foldC d).inputs,.slice FA FAn FAc,.slice FB FBn FBc]):=he
   subst he2
   clear he
   have HFA:=hiD hca
   have FFA:=hiD hf1
   have FFB:=hiD hf2
   have hsz_w2:wr.heap.size≤w2.heap.size:=hb.size
   clear hca hf1 hf2
   have B_wr:=hiD hb
   clear hb
   go_wp2_with fail
   refine (rShare_any (foldC d) FA FB FAn FAc FBn FBc w2 HFA.out).mono ?_
   rintro e w3 ⟨SA,SB,SAn,SAc,SBn,SBc,he,hca,hf1,hf2,hb⟩
   have he2:e=.returned (.agg #[.int .i64 (shareC (foldC d)).inputs,.slice SA SAn SAc,.slice SB SBn SBc]):=he
   subst he2
   clear he
   have HSA:=hiD hca
   have FSA:=hiD hf1
   have FSB:=hiD hf2
   have hsz_w3:w2.heap.size≤w3.heap.size:=hb.size
   clear hca hf1 hf2
   have B_wr:=hiD (below_on2 B_wr.out hb)
   have B_w2:=hiD hb
   clear hb
   go_wp2_with fail
   refine (rTrim_any (shareC (foldC d)) SA SB SAn SAc SBn SBc w3 HSA.out).mono ?_
   rintro e w4 ⟨TA,TB,TAn,TAc,TBn,TBc,he,hca,hf1,hf2,hb⟩
   have he2:e=.returned (.agg #[.int .i64 (trimC (shareC (foldC d))).inputs,.slice TA TAn TAc,.slice TB TBn TBc]):=he
   subst he2
   clear he
   have HTA:=hiD hca
   have FTA:=hiD hf1
   have FTB:=hiD hf2
   have hsz_w4:w3.heap.size≤w4.heap.size:=hb.size
   clear hca hf1 hf2
   have B_wr:=hiD (below_on2 B_wr.out hb)
   have B_w3:=hiD hb
   clear hb
   have HTA:=hiD HTA
   have HIN:Hid (∀ _:Unit,(trimC (shareC (foldC d))).inputs=(oneC d).inputs):=fun _=>rfl
   rw [HIN.out ()]
   have BW4:=hiD (below_on2 BW.out B_wr.out)
   have RC4:=hiD (rowCells RC.out B_wr.out)
   have RR4:=hiD (rowCells RR.out B_wr.out)
   have HCD4:Hid (CAt w4 d DA EA dn en):=HCD.out.up B_wr.out
   have hs4:w.heap.size+1 < w4.heap.size:=RR4.out.lt
   have hwr3:wr.heap.size≤w3.heap.size:=by omega
   clear B_wr B_w2 B_w3 RC RR BW HCD HFA FFA FFB HSA FSA FSB HIN
   obtain ⟨q,HQ⟩:=naM (sameC (oneC d) d)
   have HI2:Hid (∀ _:Unit,(oneC d).inputs=(oneC d).inputs):=fun _=>rfl
   go_upto_region 4 with fail
   have RT5:Hid (Row (World.alloc w4 (.cells #[.int .i64 (oneC d).inputs,.slice TA TAn TAc,.slice TB TBn TBc] 37)) w4.heap.size 37 [.int .i64 (oneC d).inputs,.slice TA TAn TAc,.slice TB TBn TBc]):=Row.new w4 37 [.int .i64 (oneC d).inputs,.slice TA TAn TAc,.slice TB TBn TBc]
   have HCD5:Hid (CAt (World.alloc w4 (.cells #[.int .i64 (oneC d).inputs,.slice TA TAn TAc,.slice TB TBn TBc] 37)) d DA EA dn en):=HCD4.out.up ((Below.refl _ _).alloc (Nat.le_refl _) _)
   have HT5:Hid (CAt (World.alloc w4 (.cells #[.int .i64 (oneC d).inputs,.slice TA TAn TAc,.slice TB TBn TBc] 37)) (oneC d) TA TB TAn TBn):=HTA.out.up ((Below.refl _ _).alloc (Nat.le_refl _) _)
   have RC5:Hid (Row (World.alloc w4 (.cells #[.int .i64 (oneC d).inputs,.slice TA TAn TAc,.slice TB TBn TBc] 37)) w.heap.size 37 [.int .i64 d.inputs,.slice DA dn dc,.slice EA en ec]):=RC4.out.alloc _
   have RR5:Hid (Row (World.alloc w4 (.cells #[.int .i64 (oneC d).inputs,.slice TA TAn TAc,.slice TB TBn TBc] 37)) (w.heap.size+1) 37 [.int .i64 0,.slice none 0 0,.slice none 0 0]):=RR4.out.alloc _
   have BW5:Hid (Below w.heap.size w (World.alloc w4 (.cells #[.int .i64 (oneC d).inputs,.slice TA TAn TAc,.slice TB TBn TBc] 37))):=BW4.out.alloc BW4.out.size _
   clear RC4 RR4 BW4 HCD4 HTA
   revert RT5 HCD5 HT5 RC5 RR5 BW5
   generalize (World.alloc w4 (.cells #[.int .i64 (oneC d).inputs,.slice TA TAn TAc,.slice TB TBn TBc] 37))=w5
   intro RT5 HCD5 HT5 RC5 RR5 BW5
   obtain ⟨t0,t1,t2,tl⟩:=RT5.out.cells3
   obtain ⟨k0,k1,k2,kl⟩:=RC5.out.cells3
   go_wp2_with fail
   clear t0 t1 t2 tl k0 k1 k2 kl
   have HC:=rSameZ_at (oneC d) d TA TB DA EA TAn TAc TBn TBc dn dc en ec w5 HT5.out HCD5.out
   rw [HQ.out ()] at HC
   refine HC.mono ?_
   clear HC
   rintro e w6 ⟨rfl,hb⟩
   have RT6:=hiD (rowCells RT5.out hb)
   have HCD6:Hid (CAt w6 d DA EA dn en):=HCD5.out.up hb
   have HT6:Hid (CAt w6 (oneC d) TA TB TAn TBn):=HT5.out.up hb
   have RC6:=hiD (rowCells RC5.out hb)
   have RR6:=hiD (rowCells RR5.out hb)
   have BW6:=hiD (below_on2 BW5.out hb)
   have hs6:w.heap.size+1 < w6.heap.size:=RR6.out.lt
   clear hb RT5 HCD5 HT5 RC5 RR5 BW5
   cases q
   ·obtain ⟨hrd,hmd⟩:=HD.out
    obtain ⟨m',hm1,hm2,hm3⟩:=iter_go hrd hmd (HQ.out ())
    have HIT2:Hid (∀ _:Unit,allC c=iterC m' (oneC d)):=fun _=>by rw [HIT.out (),hm3]
    have HD2:Hid (rightC (oneC d)=true∧measC (oneC d)≤m'):=⟨one_right hrd,hm2⟩
    clear hrd hmd hm2 hm3
    obtain ⟨t0,t1,t2,tl⟩:=RT6.out.cells3
    obtain ⟨k0,k1,k2,kl⟩:=RC6.out.cells3
    obtain ⟨kf0,kf1,kf2⟩:=RC6.out.froz3
    go_wp2_with fail
    go_roundg m'
    case measure=>omega
    case rel=>exact ⟨m',oneC d,TA,TB,TAn,TAc,TBn,TBc,Nat.le_refl _,by simp only [World.size_setCell];exact hs6,HD2.out,HIT2.out,(CAt.farSet (CAt.farSet (CAt.farSet HT6.out (p:=⟨w.heap.size,0,none⟩) (FTA.out.ne (by show w.heap.size < _;omega)) (FTB.out.ne (by show w.heap.size < _;omega)) (.int .i64 (oneC d).inputs)) (p:=⟨w.heap.size,1,none⟩) (FTA.out.ne (by show w.heap.size < _;omega)) (FTB.out.ne (by show w.heap.size < _;omega)) (.slice TA TAn TAc)) (p:=⟨w.heap.size,2,none⟩) (FTA.out.ne (by show w.heap.size < _;omega)) (FTB.out.ne (by show w.heap.size < _;omega)) (.slice TB TBn TBc)),FTA.out.ne (by show w.heap.size+1 < _;omega),FTB.out.ne (by show w.heap.size+1 < _;omega),(Below.setCell (Below.setCell (Below.setCell BW6.out (p:=⟨w.heap.size,0,none⟩) (Nat.le_refl _) (.int .i64 (oneC d).inputs)) (p:=⟨w.heap.size,1,none⟩) (Nat.le_refl _) (.slice TA TAn TAc)) (p:=⟨w.heap.size,2,none⟩) (Nat.le_refl _) (.slice TB TBn TBc)),(Row.set (Row.set (Row.set RC6.out 0 (.int .i64 (oneC d).inputs)) 1 (.slice TA TAn TAc)) 2 (.slice TB TBn TBc)),(Row.far (Row.far (Row.far RR6.out (p:=⟨w.heap.size,0,none⟩) (by show (w.heap.size+1)≠w.heap.size;omega) (.int .i64 (oneC d).inputs)) (p:=⟨w.heap.size,1,none⟩) (by show (w.heap.size+1)≠w.heap.size;omega) (.slice TA TAn TAc)) (p:=⟨w.heap.size,2,none⟩) (by show (w.heap.size+1)≠w.heap.size;omega) (.slice TB TBn TBc)),FTA.out.mono (by have:=HLO.out;omega),FTB.out.mono (by have:=HLO.out;omega)⟩
   ·have HV2:Hid (∀ _:Unit,allC c=d):=fun _=>by rw [HIT.out (),iter_stop (HQ.out ())]
    clear HIT HD HV
    obtain ⟨k0,k1,k2,kl⟩:=RC6.out.cells3
    obtain ⟨z0,z1,z2,zl⟩:=RR6.out.cells3
    obtain ⟨zf0,zf1,zf2⟩:=RR6.out.froz3
    go_wp2
    have Z9:=RR6.out.set3 (.int .i64 d.inputs) (.slice DA dn dc) (.slice EA en ec)
    have B9:=bSet3 BW6.out (w.heap.size+1) (by show _≤(w.heap.size+1);omega) (.int .i64 d.inputs) (.slice DA dn dc) (.slice EA en ec)
    obtain ⟨d0,d1,d2,-⟩:=Z9.cells3
    clear Z9
    refine bodyPost_ret (v:=.agg #[.int .i64 d.inputs,.slice DA dn dc,.slice EA en ec]) (by simp [results,Try.results34,go_sem,d0,d1,d2]) rfl ?_
    have HE:allC c=d:=HV2.out ()
    rw [HE]
    exact ⟨DA,EA,dn,dc,en,ec,rfl,(CAt.farSet (CAt.farSet (CAt.farSet HCD6.out (p:=⟨(w.heap.size+1),0,none⟩) HN1.out HN2.out (.int .i64 d.inputs)) (p:=⟨(w.heap.size+1),1,none⟩) HN1.out HN2.out (.slice DA dn dc)) (p:=⟨(w.heap.size+1),2,none⟩) HN1.out HN2.out (.slice EA en ec)),CF1.out,CF2.out,B9⟩
end Go.Proofs.Ytiemhbogbaamlaa
/-
 A part.
-/
namespace Go.Proofs.Ytiemhbogbaamlaa
open Go.RowKit
set_option maxHeartbeats 400000 in
theorem rlit_any (N j gn gc on oc:Nat) (GA OA:Option Addr) (one:Bool) (w:World) (hN:N≤100) (hj:j≤100):
 Calls Try.prog 59 #[.agg #[.int .i64 N,.slice GA gn gc,.slice OA on oc],.int .i64 j,.bool one] w fun e w'=>e=.returned (.int .i64 (litF N j one))∧Below w.heap.size w w':=by
 cases one
 ·go_enter Try.func59,Try.ntmps59
  go_wp2
  go_ret
  exact ⟨ret_i64 rfl,by go_grown⟩
 ·go_enter Try.func59,Try.ntmps59
  go_wp2
  go_ret
  exact ⟨ret_i64 rfl,by go_grown⟩
set_option maxHeartbeats 400000 in
theorem rlast_any (N gn gc on oc:Nat) (GA OA:Option Addr) (w:World) (hN:N≤100) (hg:gn≤30000):
 Calls Try.prog 61 #[.agg #[.int .i64 N,.slice GA gn gc,.slice OA on oc]] w fun e w'=>e=.returned (.int .i64 ((N:Int)+gn - 1))∧Below w.heap.size w w':=by
 have h1:IntKind.i64.wrap ((N:Int)+gn)=(N:Int)+gn:=IntWalk.i64_in _ (by omega)
 have h2:IntKind.i64.wrap ((N:Int)+gn - 1)=(N:Int)+gn - 1:=IntWalk.i64_in _ (by omega)
 go_enter Try.func61,Try.ntmps61
 go_wp2_with fail
 try go_quiet (fail)
 go_wp2
 go_ret
 exact ⟨ret_i64 rfl,by go_grown⟩
theorem rBit0_any (x:Int) (w:World) (h0:0≤x) (h1:x≤7):Calls Try.prog 60 #[.int .i64 x,.int .i64 0] w fun e w'=>e=.returned (.bool (bitI x 0))∧w=w':=rBit_any x 0 w h0 h1 (by omega)
def RSt (w:World) (B b N:Nat) (gs:List Gt) (ov:Value):Prop:=
 ∃ gv:Value,Row w b 37 [.int .i64 N,gv,ov]∧w.ownsRow B 77 3 gv gs.length (gatesCells gs)∧B≤b
abbrev RFrm (B:Nat) (w w':World):Prop:=Frm B 37 77 w w'
section
variable {w w':World} {B b N:Nat} {gs:List Gt} {ov:Value}
theorem RSt.blk (h:RSt w B b N gs ov):b < w.heap.size∧B≤b:=by
 obtain ⟨gv,h1,_,h3⟩:=h
 exact ⟨h1.lt,h3⟩
theorem RSt.op (h:RSt w B b N gs ov):∃ GA gc,Row w b 37 [.int .i64 N,.slice GA gs.length gc,ov]∧w.ownsRow B 77 3 (.slice GA gs.length gc) gs.length (gatesCells gs):=by
 obtain ⟨gv,h1,h2,h3⟩:=h
 obtain ⟨GA,gc,rfl,_⟩:=Rd.own h2
 exact ⟨GA,gc,h1,h2⟩
theorem RSt.keep (h:RSt w B b N gs ov) (hb:∀ k,k < w.heap.size→w'.heap[k]?=w.heap[k]?):RSt w' B b N gs ov:=by
 obtain ⟨gv,h1,h2,h3⟩:=h
 refine ⟨gv,(hb b h1.lt).trans h1,⟨h2.1,h2.2.imp id (fun ⟨g,cap,cur,a,b',c,d⟩=>⟨g,cap,cur,a,b',(hb g (heap_lt c)).trans c,d⟩)⟩,h3⟩
theorem RSt.below (h:RSt w B b N gs ov) (hb:Below w.heap.size w w'):RSt w' B b N gs ov:=h.keep hb.block
theorem RSt.alloc (h:RSt w B b N gs ov) (o:Obj):RSt (w.alloc o) B b N gs ov:=h.keep (fun k hk=>Below.heap_alloc w o k hk)
theorem RSt.grownT {base sz n:Nat} {e:TypeId} {v:Value} {xs:List Value} (h:RSt w B b N gs ov) (ho:w.ownsRow base e sz v n xs) (hg:w.grownBy w' v.ownBlock) (h1:e≠37) (h2:e≠77):RSt w' B b N gs ov:=by
 obtain ⟨gv,r1,r2,r3⟩:=h
 have key:∀ k cs' T,T≠e→w.heap[k]?=some (Obj.cells cs' T (0,0))→w'.heap[k]?=some (Obj.cells cs' T (0,0)):=fun k cs' T ht hh=>by
  rw [hg.block k (heap_lt hh) (fun he=>by
   obtain ⟨cur,hc,_⟩:=own_block_type ho he.symm
   rw [hc] at hh
   injection hh with hh
   injection hh with _ h4
   exact ht h4.symm)]
  exact hh
 exact ⟨gv,key b _ _ h1.symm r1,⟨r2.1,r2.2.imp id (fun ⟨g,cap,cur,a,b',c,d⟩=>⟨g,cap,cur,a,b',key g cur _ h2.symm c,d⟩)⟩,r3⟩
theorem RSt.setOuts (h:RSt w B b N gs ov) (u:Value):RSt (w.setCell ⟨b,2,none⟩ u) B b N gs u:=by
 obtain ⟨gv,h1,h2,h3⟩:=h
 exact ⟨gv,h1.set 2 u,own_set (p:=⟨b,2,none⟩) h2 h1 (by decide) u,h3⟩
theorem RSt.push {gv v':Value} {n:Nat} {g:Gt} {w0:World} (hr:Row w b 37 [.int .i64 N,gv,ov]) (ho:w.ownsRow B 77 3 gv n (gatesCells gs)) (hB:B≤b) (hn:gs.length=n) (hg:w.grownBy w' gv.ownBlock)
 (ho':w'.ownsRow B 77 3 v' (n+1) (gatesCells gs ++ [.int .i64 g.op,.int .i64 g.a,.int .i64 g.b])) (hF:RFrm B w0 w):
 Row w' b 37 [.int .i64 N,gv,ov]∧RSt (w'.setCell ⟨b,1,none⟩ v') B b N (gs ++ [g]) ov∧RFrm B w0 (w'.setCell ⟨b,1,none⟩ v')∧RFrm B w0 w':=by
 have hbl:=hr.lt
 have r1:Row w' b 37 [.int .i64 N,gv,ov]:=hr.grown hg (fun e=>(own_ne_row ho hr (by decide)) e.symm)
 have f1:RFrm B w0 w':=Frm.grown2 hF ho (Nat.le_refl _) (by omega) hg
 refine ⟨r1,⟨v',r1.set 1 v',?_,hB⟩,Frm.set (p:=⟨b,1,none⟩) f1 r1 hB _,f1⟩
 have h1:=own_set (p:=⟨b,1,none⟩) ho' r1 (by decide) v'
 rw [gatesCells_append,gatesCells_one,List.length_append,List.length_singleton,hn]
 exact h1
end
theorem flat_get (S:Nat) (rows:List (List Int)) (hS:∀ r ∈ rows,r.length=S) (i s:Nat) (hi:i < rows.length) (hs:s < S):rows.flatten.getD (i * S+s) 0=(rows.getD i []).getD s 0∧i * S+s < rows.flatten.length:=by
 induction rows generalizing i with
 | nil=>simp at hi
 | cons r rows ih=>
  have hr:=hS r (by simp)
  simp only [List.flatten_cons,List.length_append]
  cases i with
  | zero=>
   rw [Nat.zero_mul,Nat.zero_add,List.getD_eq_getElem?_getD,List.getElem?_append_left (by omega),List.getD_cons_zero,List.getD_eq_getElem?_getD]
   exact ⟨rfl,by omega⟩
  | succ i=>
   have h:=ih (fun x hx=>hS x (by simp [hx])) i (by simpa using hi)
   rw [Nat.add_mul,Nat.one_mul]
   rw [List.getD_eq_getElem?_getD,List.getElem?_append_right (by omega),show i * S+S+s - r.length=i * S+s by omega,← List.getD_eq_getElem?_getD,h.1,List.getD_cons_succ]
   exact ⟨rfl,by omega⟩
theorem flat_len' (S:Nat) (rows:List (List Int)) (hS:∀ r ∈ rows,r.length=S):rows.flatten.length=rows.length * S:=by
 induction rows with
 | nil=>simp
 | cons r rows ih=>
  simp only [List.flatten_cons,List.length_append,List.length_cons]
  rw [ih (fun x hx=>hS x (by simp [hx])),hS r (by simp),Nat.add_mul];omega
theorem own_int {w:World} {base n:Nat} {A:Option Addr} {c:Nat} {l:List Int} (h:w.ownsRow base 3 1 (.slice A n c) n (ints l)) (k:Nat) (hk:k < n):∃ g,A=some ⟨g,0,none⟩∧w.cell? ⟨g,k,none⟩=some (.int .i64 (l.getD k 0))∧g < w.heap.size:=by
 obtain ⟨g,cap,hv,_,hlt⟩:=h.form (by omega)
 injection hv with hA
 subst hA
 have hl:l.length=n:=by have:=h.1;rw [ints_length,Nat.mul_one] at this;exact this
 refine ⟨g,rfl,?_,hlt⟩
 rw [h.cellAt k (by omega)]
 exact ints_get l k (by omega)
end Go.Proofs.Ytiemhbogbaamlaa
