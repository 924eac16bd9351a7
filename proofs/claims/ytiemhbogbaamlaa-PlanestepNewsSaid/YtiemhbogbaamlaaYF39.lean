/-
 A part.
-/
import Derived.Test.YtiemhbogbaamlaaYF35
import Derived.Test.YtiemhbogbaamlaaYF38
import Derived.BigQuiet
set_option linter.unusedSimpArgs false
set_option linter.unusedVariables false
namespace Go.Proofs.Ytiemhbogbaamlaa
open Go.RowKit
theorem gate_eqlZ (x y:Gt) (W:World):(binOp .eql 77 (.agg #[.int .i64 x.op,.int .i64 x.a,.int .i64 x.b]) (.agg #[.int .i64 y.op,.int .i64 y.a,.int .i64 y.b])).run Try.prog W=.ok (.bool (gtEq x y)) W:=by
 unfold gtEq
 cases h1:(x.op == y.op) <;> cases h2:(x.a == y.a) <;> cases h3:(x.b == y.b) <;> (simp only [beq_eq_false_iff_ne,beq_iff_eq] at h1 h2 h3;go_simp)
set_option maxRecDepth 100000 in
set_option maxHeartbeats 8000000 in
theorem rShare_any (c:Circ) (GA OA:Option Addr) (gn gc on oc:Nat) (w:World) (hc:CAt w c GA OA gn on):
 Calls Try.prog 64 #[.agg #[.int .i64 c.inputs,.slice GA gn gc,.slice OA on oc]] w (CiPost (shareC c) w.heap.size w):=by
 have HC0:Hid (CAt w c GA OA gn on):=hc
 have HGL:Hid (∀ _:Unit,c.gates.length=gn):=fun _=>hc.gl
 have HOL:Hid (∀ _:Unit,c.outs.length=on):=fun _=>hc.ol
 clear hc
 go_enter Try.func64,Try.ntmps64
 go_wp2_with fail
 obtain ⟨wa,hW9,RC,RR,hgr9⟩:=laid2 w [.int .i64 c.inputs,.slice GA gn gc,.slice OA on oc] 37 [.int .i64 0,.slice none 0 0,.slice none 0 0] 37
 rewrite [hW9]
 clear hW9
 have B_w:=hiD hgr9
 clear hgr9
 have hwa:w.heap.size+1 < wa.heap.size:=RR.out.lt
 obtain ⟨q,hq⟩:∃ q,rightC c=q:=⟨_,rfl⟩
 have HQ:=hiU hq
 have HC:=rRightZ_at c GA OA gn gc on oc wa (HC0.out.up B_w.out)
 rw [hq] at HC
 clear hq
 refine HC.mono ?_
 clear HC
 rintro e w1 ⟨rfl,hb⟩
 have B_w:=hiD (below_on2 B_w.out hb)
 have B_wa:Hid (Below wa.heap.size wa w1):=hb
 clear hb
 have RR1:=hiD (rowCells RR.out B_wa.out)
 have RC1:=hiD (rowCells RC.out B_wa.out)
 have BW1:Hid (Below w.heap.size w w1):=B_w
 have hs1:w.heap.size+1 < w1.heap.size:=RR1.out.lt
 clear B_w B_wa RC RR hwa
 cases q
 ·skip
  obtain ⟨z0,z1,z2,zl⟩:=RR1.out.cells3
  obtain ⟨zf0,zf1,zf2⟩:=RR1.out.froz3
  go_wp2
  have Z9:=RR1.out.set3 (.int .i64 0) (.slice none 0 0) (.slice none 0 0)
  have B9:=bSet3 BW1.out (w.heap.size+1) (by show _≤(w.heap.size+1);omega) (.int .i64 0) (.slice none 0 0) (.slice none 0 0)
  obtain ⟨d0,d1,d2,-⟩:=Z9.cells3
  clear Z9
  refine bodyPost_ret (v:=.agg #[.int .i64 0,.slice none 0 0,.slice none 0 0]) (by simp [results,Try.results64,go_sem,d0,d1,d2]) rfl ?_
  have HV:shareC c=noCirc:=by unfold shareC;rw [if_neg (by rw [HQ.out ()];decide)]
  rw [HV]
  exact ⟨none,none,0,0,0,0,rfl,noCirc_at _,.none,.none,B9⟩
 have HR:Hid (rightC c=true):=HQ.out ()
 obtain ⟨⟨hn0,hn1,hg0,ho0⟩,_⟩:=rightC_parts HR.out
 rw [HGL.out ()] at hg0
 rw [HOL.out ()] at ho0
 clear HQ
 obtain ⟨k0,k1,k2,kl⟩:=RC1.out.cells3
 go_wp2_with fail
 clear k0 k1 k2 kl
 refine (rCop_any c.inputs GA OA gn gc on oc w1 ⟨hn0,hn1⟩ hg0 (c.inputs.toNat+gn) (by omega)).mono ?_
 rintro e w2 ⟨TA,tc,rfl,hown,hb⟩
 have HA2:Hid (ASt w2 w1.heap.size TA tc (c.inputs.toNat+gn) (idW (c.inputs.toNat+gn))):=hown
 have HB2:Hid (Below w1.heap.size w1 w2):=hb
 clear hown hb
 go_upto_region 4 with fail
 have OS0:Hid (OSt (World.alloc w2 (.cells #[.int .i64 c.inputs,.slice none 0 0,.slice none 0 0] 37)) w1.heap.size w2.heap.size c.inputs [] (.slice none 0 0)):=⟨.slice none 0 0,Row.new w2 37 [.int .i64 c.inputs,.slice none 0 0,.slice none 0 0],World.ownsRow_nil _ _ _ _,HB2.out.size⟩
 have AS0:Hid (ASt (World.alloc w2 (.cells #[.int .i64 c.inputs,.slice none 0 0,.slice none 0 0] 37)) w1.heap.size TA tc (c.inputs.toNat+gn) (idW (c.inputs.toNat+gn))):=HA2.out.below ((Below.refl _ _).alloc (Nat.le_refl _) _)
 have BX3:Hid (Below w1.heap.size w1 (World.alloc w2 (.cells #[.int .i64 c.inputs,.slice none 0 0,.slice none 0 0] 37))):=HB2.out.alloc HB2.out.size _
 have hob:w1.heap.size≤w2.heap.size:=HB2.out.size
 clear HA2 HB2
 revert OS0 AS0 BX3 hob
 generalize (World.alloc w2 (.cells #[.int .i64 c.inputs,.slice none 0 0,.slice none 0 0] 37))=w3
 generalize w2.heap.size=ob
 intro OS0 AS0 BX3 hob
 go_wp2_with fail
 go_loopg [5,6,7,8,9] gn (fun gg s5 _ _ _ _ wr=>∃ k:Nat,k≤gn∧gn - k≤gg∧s5=.int .i64 k∧ob < wr.heap.size∧Aside (Below w1.heap.size w1 wr)∧Aside (OSt wr w1.heap.size ob c.inputs (shareTo c k).gates (.slice none 0 0))∧Aside (ASt wr w1.heap.size TA tc (c.inputs.toNat+gn) (aliasL (shareTo c k) c.inputs k (gn - k))))
 case atStart=>
  refine ⟨0,Nat.zero_le _,by omega,rfl,OS0.out.blk.1,BX3.out,OS0.out,?_⟩
  show ASt _ _ _ _ _ (aliasL (startW c.inputs) c.inputs 0 gn)
  rw [alias_start _ hn0];exact AS0.out
 case round=>
  clear OS0 AS0 BX3
  obtain ⟨k,hk,hgg,rfl,hsz,BX,OS,AS⟩:=hrel
  have BW:=hiD (below_on2 BW1.out BX.out)
  have RCn:=hiD (rowCells RC1.out BX.out)
  have hszr:=BX.out.size
  by_cases hlt:k < gn
  ·have hlz:(k:Int) < (gn:Int):=by omega
   have hkc:k < c.gates.length:=by rw [HGL.out ()];exact hlt
   obtain ⟨ad,rfl,hab,c0,c1,c2⟩:=(HC0.out.up BW.out).gates.gate hlt
   obtain ⟨l1,l2⟩:=shareTo_len c k
   have hso:=shareTo_ok HR.out k (by omega)
   have hgo:=gateAt_ok HR.out hkc
   have hmo:=moveG_ok hso hgo (by omega) (fun _=>trivial) (fun _=>trivial)
   have hmv2:=alias_move (m:=gn - k) hn0 l2 hgo
   obtain ⟨g1,g2⟩:=gate_ok_ops hgo
   have hst:(shareTo c (k+1)).gates=(shareTo c k).gates ++ [swapG (moveG (shareTo c k).to (gateAt c k))]:=rfl
   have hal:=alias_share HR.out hkc (gn - (k+1))
   have hgk:gn - (k+1)+1=gn - k:=by omega
   rw [hgk] at hal
   change wr.cell? _=some (.int .i64 (gateAt c k).op) at c0
   change wr.cell? _=some (.int .i64 (gateAt c k).a) at c1
   change wr.cell? _=some (.int .i64 (gateAt c k).b) at c2
   generalize gateAt c k=g at c0 c1 c2 hgo hmo g1 g2 hst hmv2 hal
   generalize shareTo c k=s at OS AS l1 l2 hso hmo hst hmv2 hal
   obtain ⟨h,hh⟩:∃ h,moveG s.to g=h:=⟨_,rfl⟩
   rw [hh] at hmo hst hmv2 hal
   obtain ⟨op,x,y⟩:=h
   have HMV:=hiU hmv2
   have HGT:=hiU hst
   have HAN:=hiU hal
   have HLS:Hid (s.to.length=c.inputs.toNat+k):=l2
   have HLG:=hiU l1
   have HGA:Hid ((1≤operandsO g.op→0≤g.a∧g.a < ((c.inputs.toNat+gn:Nat):Int))∧(operandsO g.op=2→0≤g.b∧g.b < ((c.inputs.toNat+gn:Nat):Int))):=⟨fun q=>by have:=g1 q;omega,fun q=>by have:=g2 q;omega⟩
   have hgl:s.gates.length≤20000:=by omega
   clear l1 l2 hso hgo hmo g1 g2 hh hkc hst hal hmv2 hgk
   obtain ⟨k0,k1,k2,kl⟩:=RCn.out.cells3
   go_wp2_with fail
   have HC:=rRepl_any g (aliasL s c.inputs k (gn - k)) TA (c.inputs.toNat+gn) tc wr AS.out.rd (by omega) HGA.out.1 HGA.out.2
   rw [HMV.out ()] at HC
   refine HC.mono ?_
   clear HC
   rintro e w3b ⟨rfl,hb⟩
   have OS3:Hid (OSt w3b w1.heap.size ob c.inputs s.gates (.slice none 0 0)):=OS.out.below hb
   have AS3:Hid (ASt w3b w1.heap.size TA tc (c.inputs.toNat+gn) (aliasL s c.inputs k (gn - k))):=AS.out.below hb
   have BX3:=hiD (below_on2 BX.out hb)
   clear hb OS AS BX RCn BW k0 k1 k2 kl c0 c1 c2 hab
   go_upto_region 8 with fail
   obtain ⟨KA,kc,hro,hog⟩:=OS3.out.op
   have RB4:Hid (Row (World.alloc w3b (.cells #[.int .i64 op,.int .i64 x,.int .i64 y] 77)) w3b.heap.size 77 [.int .i64 op,.int .i64 x,.int .i64 y]):=Row.new w3b 77 _
   have RO4:Hid (Row (World.alloc w3b (.cells #[.int .i64 op,.int .i64 x,.int .i64 y] 77)) ob 37 [.int .i64 c.inputs,.slice KA s.gates.length kc,.slice none 0 0]):=hro.alloc _
   have OG4:Hid (World.ownsRow (World.alloc w3b (.cells #[.int .i64 op,.int .i64 x,.int .i64 y] 77)) w1.heap.size 77 3 (.slice KA s.gates.length kc) s.gates.length (gatesCells s.gates)):=hog.alloc _
   have AS4:Hid (ASt (World.alloc w3b (.cells #[.int .i64 op,.int .i64 x,.int .i64 y] 77)) w1.heap.size TA tc (c.inputs.toNat+gn) (aliasL s c.inputs k (gn - k))):=AS3.out.below ((Below.refl _ _).alloc (Nat.le_refl _) _)
   have BX4:Hid (Below w1.heap.size w1 (World.alloc w3b (.cells #[.int .i64 op,.int .i64 x,.int .i64 y] 77))):=BX3.out.alloc BX3.out.size _
   have hb6:Hid (ob < w3b.heap.size∧w1.heap.size≤w3b.heap.size):=⟨OS3.out.blk.1,BX3.out.size⟩
   have HNB:Hid ((Value.slice KA s.gates.length kc).ownBlock≠some w3b.heap.size):=fun e=>by have:=(hog.lt _ e).2;omega
   clear OS3 AS3 BX3 hro hog
   revert RB4 RO4 OG4 AS4 BX4 hb6 HNB
   generalize (World.alloc w3b (.cells #[.int .i64 op,.int .i64 x,.int .i64 y] 77))=w4
   generalize w3b.heap.size=b6
   intro RB4 RO4 OG4 AS4 BX4 hb6 HNB
   have OS4:Hid (OSt w4 w1.heap.size ob c.inputs s.gates (.slice none 0 0)):=⟨_,RO4.out,OG4.out,hob⟩
   have hzz:operandsO op=2∨operandsO op=0∨operandsO op=1:=by have:=operandsO_bd op;omega
   by_cases hz:operandsO op=2
   ·have HOP:=hiU hz
    by_cases hyx:y < x
    ·have HGE:Hid (∀ _:Unit,swapG ⟨op,x,y⟩=⟨op,y,x⟩):=fun _=>by unfold swapG;rw [if_pos ⟨hz,hyx⟩]
     clear hz hzz
     have HC:=rOps_any op w4
     rw [HOP.out ()] at HC
     obtain ⟨k0,k1,k2,kl⟩:=RB4.out.cells3
     go_wp2_with fail
     refine HC.mono ?_
     clear HC
     rintro e w5 ⟨rfl,rfl⟩
     go_upto_region 9 with fail
     go_quiet (fail)
     have RBq:Hid (Row (w4.drewN nq) b6 77 [.int .i64 op,.int .i64 x,.int .i64 y]):=RB4.out
     have ROq:Hid (Row (w4.drewN nq) ob 37 [.int .i64 c.inputs,.slice KA s.gates.length kc,.slice none 0 0]):=RO4.out
     have OGq:Hid (World.ownsRow (w4.drewN nq) w1.heap.size 77 3 (.slice KA s.gates.length kc) s.gates.length (gatesCells s.gates)):=OG4.out
     have ASq:Hid (ASt (w4.drewN nq) w1.heap.size TA tc (c.inputs.toNat+gn) (aliasL s c.inputs k (gn - k))):=AS4.out
     have BXq:Hid (Below w1.heap.size w1 (w4.drewN nq)):=below_drewN BX4.out _
     clear RB4 OS4 AS4 BX4 RO4 OG4 k0 k1 k2 kl
     revert RBq ROq OGq ASq BXq
     generalize w4.drewN nq=w4q
     intro RBq ROq OGq ASq BXq
     obtain ⟨k0,k1,k2,kl⟩:=RBq.out.cells3
     obtain ⟨kf0,kf1,kf2⟩:=RBq.out.froz3
     go_upto_region 11 with fail
     have RB5:=hiD (RBq.out.set3 (.int .i64 op) (.int .i64 y) (.int .i64 x))
     have OS5:Hid (OSt (World.setCell (World.setCell (World.setCell w4q ⟨b6,0,none⟩ (.int .i64 op)) ⟨b6,1,none⟩ (.int .i64 y)) ⟨b6,2,none⟩ (.int .i64 x)) w1.heap.size ob c.inputs s.gates (.slice none 0 0)):=⟨.slice KA s.gates.length kc,((((((ROq.out).far (p:=⟨b6,0,none⟩) (by show ob≠b6;have:=hb6.out;omega) (.int .i64 op))).far (p:=⟨b6,1,none⟩) (by show ob≠b6;have:=hb6.out;omega) (.int .i64 y))).far (p:=⟨b6,2,none⟩) (by show ob≠b6;have:=hb6.out;omega) (.int .i64 x)),(own_far (p:=⟨b6,2,none⟩) (own_far (p:=⟨b6,1,none⟩) (own_far (p:=⟨b6,0,none⟩) OGq.out HNB.out (.int .i64 op)) HNB.out (.int .i64 y)) HNB.out (.int .i64 x)),hob⟩
     have AS5:Hid (ASt (World.setCell (World.setCell (World.setCell w4q ⟨b6,0,none⟩ (.int .i64 op)) ⟨b6,1,none⟩ (.int .i64 y)) ⟨b6,2,none⟩ (.int .i64 x)) w1.heap.size TA tc (c.inputs.toNat+gn) (aliasL s c.inputs k (gn - k))):=(own_set (p:=⟨b6,2,none⟩) (own_set (p:=⟨b6,1,none⟩) (own_set (p:=⟨b6,0,none⟩) ASq.out RBq.out (by decide) (.int .i64 op)) (Row.set RBq.out 0 (.int .i64 op)) (by decide) (.int .i64 y)) (Row.set (Row.set RBq.out 0 (.int .i64 op)) 1 (.int .i64 y)) (by decide) (.int .i64 x))
     have BX5:Hid (Below w1.heap.size w1 (World.setCell (World.setCell (World.setCell w4q ⟨b6,0,none⟩ (.int .i64 op)) ⟨b6,1,none⟩ (.int .i64 y)) ⟨b6,2,none⟩ (.int .i64 x))):=((((((BXq.out).setCell (p:=⟨b6,0,none⟩) (by show w1.heap.size≤b6;exact hb6.out.2) (.int .i64 op))).setCell (p:=⟨b6,1,none⟩) (by show w1.heap.size≤b6;exact hb6.out.2) (.int .i64 y))).setCell (p:=⟨b6,2,none⟩) (by show w1.heap.size≤b6;exact hb6.out.2) (.int .i64 x))
     clear ROq OGq RBq ASq BXq k0 k1 k2 kl kf0 kf1 kf2
     revert RB5 OS5 AS5 BX5
     generalize (World.setCell (World.setCell (World.setCell w4q ⟨b6,0,none⟩ (.int .i64 op)) ⟨b6,1,none⟩ (.int .i64 y)) ⟨b6,2,none⟩ (.int .i64 x))=w5
     intro RB5 OS5 AS5 BX5
     obtain ⟨k0,k1,k2,kl⟩:=RB5.out.cells3
     have HKD:Hid (∀ _:Unit,aliasL (shareTo c (k+1)) c.inputs (k+1) (gn - (k+1))=(aliasL s c.inputs k (gn - k)).set (c.inputs.toNat+k) (kd c.inputs s ⟨op,y,x⟩ k (k))):=fun _=>by rw [HAN.out (),HGE.out ()]
     have HGT2:Hid (∀ _:Unit,(shareTo c (k+1)).gates=s.gates ++ [⟨op,y,x⟩]):=fun _=>by rw [HGT.out (),HGE.out ()]
     have hob6:=hb6.out
     go_wp2_with fail
     clear k0 k1 k2 kl
     go_loopg [9] k (fun gg s9 wr=>∃ (j:Nat) (z:Int),j≤k∧k - j≤gg∧s9=.int .i64 z∧z=(k:Int) - 1 - (j:Int)∧Aside (Below w1.heap.size w1 wr)∧Aside (OSt wr w1.heap.size ob c.inputs s.gates (.slice none 0 0))∧Aside (ASt wr w1.heap.size TA tc (c.inputs.toNat+gn) ((aliasL s c.inputs k (gn - k)).set (c.inputs.toNat+k) (kd c.inputs s ⟨op,y,x⟩ k (j))))∧Aside (Row wr b6 77 [.int .i64 op,.int .i64 y,.int .i64 x]))
     case atStart=>
      refine ⟨0,_,Nat.zero_le _,by omega,rfl,by omega,BX5.out,OS5.out,?_,RB5.out⟩
      show ASt _ _ _ _ _ ((aliasL s c.inputs k (gn - k)).set (c.inputs.toNat+k) (c.inputs+(k:Int)))
      rw [alias_self HLS.out (by omega)];exact AS5.out
     case round=>
      clear BX5 OS5 AS5 RB5
      obtain ⟨j,z,hj,hgg2,rfl,hz,BX,OS,AS,RB⟩:=hrel
      have hszr:=BX.out.size
      have hoz:=OS.out.blk.1
      have hbz:=RB.out.lt
      have RCn:=hiD (rowCells RC1.out BX.out)
      by_cases hjt:j < k
      ·obtain ⟨t,rfl⟩:∃ t:Nat,z=(t:Int):=⟨z.toNat,by omega⟩
       have htj:t+j+1=k:=by omega
       clear hz
       have hge:(0:Int)≤(t:Int):=by omega
       have htk:t < s.gates.length:=by have:=HLG.out ();omega
       have htz:(t:Int) < (s.gates.length:Int):=by omega
       obtain ⟨KA,kc,hro,hog⟩:=OS.out.op
       have ROr:Hid (Row wr ob 37 [.int .i64 c.inputs,.slice KA s.gates.length kc,.slice none 0 0]):=hro
       have HG9:Hid (World.ownsRow wr w1.heap.size 77 3 (.slice KA s.gates.length kc) s.gates.length (gatesCells s.gates)):=hog
       obtain ⟨kad,rfl,hkb,e0,e1,e2⟩:=(Rd.of_own hog).gate htk
       obtain ⟨ga,rfl,hga,hgb,hc1,hf1,hput⟩:=AS.out.put (i:=c.inputs.toNat+t) (by omega)
       rw [alias_set_lt HLS.out (by omega)] at hc1
       have HKN:Hid (∀ _:Unit,kd c.inputs s ⟨op,y,x⟩ k (j+1)=if s.to.getD (c.inputs.toNat+t) 0=c.inputs+(t:Int)∧s.gates.getD t default=⟨op,y,x⟩ then c.inputs+(t:Int) else kd c.inputs s ⟨op,y,x⟩ k j):=fun _=>by rw [kd,show k - 1 - j=t by omega]
       obtain ⟨ni,hni⟩:∃ ni:Nat,c.inputs.toNat+t=ni:=⟨_,rfl⟩
       rw [hni] at hc1 HKN
       have hni2:c.inputs+(t:Int)=(ni:Int):=by omega
       have HNI:=hiU hni2
       have hw1:IntKind.i64.wrap (c.inputs+(t:Int))=(ni:Int):=by rw [hni2];exact IntWalk.i64_in _ (by omega)
       have hni1:(ni:Int) < ((c.inputs.toNat+gn:Nat):Int):=by omega
       generalize s.to.getD ni 0=tv at hc1 HKN
       generalize s.gates.getD t default=gt at e0 e1 e2 HKN
       clear hro hog hput hf1 hni hni2
       obtain ⟨k0,k1,k2,kl⟩:=RCn.out.cells3
       obtain ⟨o0,o1,o2,ol⟩:=ROr.out.cells3
       obtain ⟨r0,r1,r2,rl⟩:=RB.out.cells3
       by_cases hq:tv=(ni:Int)
       ·have hq1:(tv == (ni:Int))=true:=by simpa using hq
        have hq2:decide (tv=(ni:Int))=true:=decide_eq_true hq
        have hE:=gate_eqlZ gt ⟨op,y,x⟩
        obtain ⟨qe,hqe⟩:∃ q,gtEq gt ⟨op,y,x⟩=q:=⟨_,rfl⟩
        have HQE:=hiU hqe
        rw [hqe] at hE
        clear hqe
        dsimp only at hE
        cases qe
        ·have HKN2:Hid (∀ _:Unit,kd c.inputs s ⟨op,y,x⟩ k (j+1)=kd c.inputs s ⟨op,y,x⟩ k j):=fun _=>by rw [HKN.out (),if_neg (fun h=>by have:=(gtEq_iff _ _).2 h.2;rw [HQE.out ()] at this;cases this)]
         go_wp2_with fail
         go_quiet (fail)
         go_wp2_with fail
         go_roundg (k - (j+1))
         case measure=>omega
         case rel=>exact ⟨j+1,_,by omega,by omega,rfl,by omega,below_drewN BX.out _,OS.out,by rw [HKN2.out ()];exact AS.out,RB.out⟩
        ·have HKN2:Hid (∀ _:Unit,kd c.inputs s ⟨op,y,x⟩ k (j+1)=(ni:Int)):=fun _=>by rw [HKN.out (),HNI.out (),if_pos ⟨hq,(gtEq_iff _ _).1 (HQE.out ())⟩]
         go_wp2_with fail
         go_quiet (fail)
         clear k0 k1 k2 kl o0 o1 o2 ol r0 r1 r2 rl hc1 e0 e1 e2 hE
         have BXq:Hid (Below w1.heap.size w1 (wr.drewN nq)):=below_drewN BX.out _
         have OSq:Hid (OSt (wr.drewN nq) w1.heap.size ob c.inputs s.gates (.slice none 0 0)):=OS.out
         have ASq:Hid (ASt (wr.drewN nq) w1.heap.size (some ⟨ga,0,none⟩) tc (c.inputs.toNat+gn) ((aliasL s c.inputs k (gn - k)).set (c.inputs.toNat+k) (kd c.inputs s ⟨op,y,x⟩ k (j)))):=AS.out
         have RBq:Hid (Row (wr.drewN nq) b6 77 [.int .i64 op,.int .i64 y,.int .i64 x]):=RB.out
         clear BX OS AS RB ROr HG9 RCn hoz hbz hszr hga
         revert BXq OSq ASq RBq
         generalize wr.drewN nq=wq
         intro BXq OSq ASq RBq
         have RCq:=hiD (rowCells RC1.out BXq.out)
         obtain ⟨ga2,hga2,hga,hgb2,hc1,hf1,hput⟩:=ASq.out.put (i:=c.inputs.toNat+k) (by omega)
         cases hga2
         obtain ⟨as7,os7,rw7,bx7⟩:=hput (ni:Int)
         have AS7:=(show Hid (ASt _ _ _ _ _ _) from as7)
         have OS7:=(show Hid (OSt _ _ _ _ _ _) from os7 _ _ _ _ OSq.out)
         have BX7:=(show Hid (Below _ _ _) from bx7 _ BXq.out)
         have RB7:=(show Hid (Row _ _ _ _) from rw7 _ _ _ (by decide) RBq.out)
         clear as7 os7 bx7 rw7 hput
         obtain ⟨nk,hnk⟩:∃ nk:Nat,c.inputs.toNat+k=nk:=⟨_,rfl⟩
         have hw2:IntKind.i64.wrap (c.inputs+(k:Int))=(nk:Int):=(IntWalk.i64_in _ (by omega)).trans (by omega)
         have hnk1:(nk:Int) < ((c.inputs.toNat+gn:Nat):Int):=by omega
         have hw3:c.inputs+(t:Int)=(ni:Int):=HNI.out ()
         have hw4:c.inputs+(k:Int)=(nk:Int):=by omega
         have HNK:=hiU hnk
         rw [hnk] at hc1 hf1 AS7 OS7 BX7 RB7
         clear hnk
         obtain ⟨k0,k1,k2,kl⟩:=RCq.out.cells3
         go_wp2_with fail
         go_roundg (k - (j+1))
         case measure=>omega
         case rel=>
          refine ⟨j+1,_,by omega,by omega,rfl,by omega,BX7.out,OS7.out,?_,RB7.out⟩
          rw [HKN2.out (),HNK.out ()]
          have:=AS7.out
          rw [List.set_set] at this
          exact this
       ·have hq1:(tv == (ni:Int))=false:=by simpa using hq
        have hq2:decide (tv=(ni:Int))=false:=decide_eq_false hq
        have HKN2:Hid (∀ _:Unit,kd c.inputs s ⟨op,y,x⟩ k (j+1)=kd c.inputs s ⟨op,y,x⟩ k j):=fun _=>by rw [HKN.out (),HNI.out (),if_neg (fun h=>hq h.1)]
        go_wp2_with fail
        go_quiet (fail)
        go_wp2_with fail
        go_roundg (k - (j+1))
        case measure=>omega
        case rel=>exact ⟨j+1,_,by omega,by omega,rfl,by omega,below_drewN BX.out _,OS.out,by rw [HKN2.out ()];exact AS.out,RB.out⟩
      ·have hlz2:¬ (0:Int)≤z:=by omega
       have hd0:decide ((0:Int)≤z)=false:=decide_eq_false hlz2
       obtain rfl:j=k:=by omega
       clear hz
       have BXw9:Hid (Below w1.heap.size w1 wr):=BX.out
       obtain ⟨KA,kc,hro,hog⟩:=OS.out.op
       have RO9:Hid (Row wr ob 37 [.int .i64 c.inputs,.slice KA s.gates.length kc,.slice none 0 0]):=hro
       have HG9:Hid (World.ownsRow wr w1.heap.size 77 3 (.slice KA s.gates.length kc) s.gates.length (gatesCells s.gates)):=hog
       have ASw9:Hid (ASt wr w1.heap.size TA tc (c.inputs.toNat+gn) (aliasL (shareTo c (j+1)) c.inputs (j+1) (gn - (j+1)))):=(by show ASt _ _ _ _ _ _;rw [HKD.out ()];exact AS.out)
       have RBw9:Hid (Row wr b6 77 [.int .i64 op,.int .i64 y,.int .i64 x]):=RB.out
       clear hro hog AS BX OS RB RCn HKD
       revert BXw9 RO9 HG9 ASw9 RBw9 hszr hoz hbz
       generalize wr=w9
       intro hsz9 hoz hbz BXw9 RO9 HG9 ASw9 RBw9
       obtain ⟨k0,k1,k2,kl⟩:=RBw9.out.cells3
       obtain ⟨o0,o1,o2,ol⟩:=RO9.out.cells3
       go_wp2_with (at_builtin;refine wpList_app rfl (.tmp 91) (.tmp 93) 34 rfl w1.heap.size 77 (.agg #[.int .i64 0,.int .i64 0,.int .i64 0]) 3 24 Try.underlying34 gate_infoZ rfl (by decide) (by decide) (.slice KA s.gates.length kc) s.gates.length (gatesCells s.gates) rfl ?own (w9.heap.size+1) (some ⟨w9.heap.size,0,none⟩) 1 1 [.int .i64 op,.int .i64 y,.int .i64 x] rfl ?rd ?one ?hb ?hbase ?_)
       case own=>exact HG9.out.alloc _
       case rd=>exact Rd.lit w9 #[.int .i64 op,.int .i64 y,.int .i64 x] 77 (sz:=3) (m:=1) rfl
       case one=>first | exact gate_oneZ _ _ _ | exact ⟨rfl,rfl,rfl⟩
       case hb=>omega
       case hbase=>first | (simp;omega) | omega
       intro v' w5 hown' hgrow' hat'
       obtain ⟨VA,vc,rfl,_⟩:=Rd.own hown'
       obtain ⟨r1,os6,as6,bx6⟩:=OSt.push (g:=⟨op,y,x⟩) (RO9.out.alloc _) (HG9.out.alloc _) (World.ownsRow.alloc ASw9.out _) hob rfl (by simp;omega) hgrow' hown' (BXw9.out.alloc hsz9 _)
       have q1:=r1.cell 1
       have qf:=r1.frozen 1
       have ql:=r1.lt
       simp only [List.getElem?_cons_zero,List.getElem?_cons_succ] at q1
       have OS6:Hid (OSt (w5.setCell ⟨ob,1,none⟩ (.slice VA (s.gates.length+1) vc)) w1.heap.size ob c.inputs (shareTo c (j+1)).gates (.slice none 0 0)):=(by show OSt _ _ _ _ _ _;rw [HGT2.out ()];exact os6)
       have AS6:=(show Hid (ASt _ _ _ _ _ _) from as6)
       have BX6:Hid (Below w1.heap.size w1 (w5.setCell ⟨ob,1,none⟩ (.slice VA (s.gates.length+1) vc))):=bx6
       clear hown' hgrow' hat' os6 as6 bx6 r1 k0 k1 k2 kl o0 o1 o2 ol ASw9 BXw9 RBw9 RO9 HG9
       go_wp2_with fail
       go_roundg (gn - (j+1))
       case measure=>omega
       case rel=>exact ⟨j+1,by omega,by omega,by go_num,OS6.out.blk.1,BX6.out,OS6.out,AS6.out⟩
    ·have HGE:Hid (∀ _:Unit,swapG ⟨op,x,y⟩=⟨op,x,y⟩):=fun _=>by unfold swapG;rw [if_neg (fun q=>hyx q.2)]
     clear hz hzz RO4 OG4 HNB
     have HC:=rOps_any op w4
     rw [HOP.out ()] at HC
     obtain ⟨k0,k1,k2,kl⟩:=RB4.out.cells3
     go_wp2_with fail
     refine HC.mono ?_
     clear HC
     rintro e w5 ⟨rfl,rfl⟩
     go_upto_region 11 with fail
     have RB5:=RB4
     have OS5:=OS4
     have AS5:=AS4
     have BX5:=BX4
     clear RB4 OS4 AS4 BX4 k0 k1 k2 kl
     revert RB5 OS5 AS5 BX5
     generalize w4=w5
     intro RB5 OS5 AS5 BX5
     obtain ⟨k0,k1,k2,kl⟩:=RB5.out.cells3
     have HKD:Hid (∀ _:Unit,aliasL (shareTo c (k+1)) c.inputs (k+1) (gn - (k+1))=(aliasL s c.inputs k (gn - k)).set (c.inputs.toNat+k) (kd c.inputs s ⟨op,x,y⟩ k (k))):=fun _=>by rw [HAN.out (),HGE.out ()]
     have HGT2:Hid (∀ _:Unit,(shareTo c (k+1)).gates=s.gates ++ [⟨op,x,y⟩]):=fun _=>by rw [HGT.out (),HGE.out ()]
     have hob6:=hb6.out
     go_wp2_with fail
     clear k0 k1 k2 kl
     go_loopg [9] k (fun gg s9 wr=>∃ (j:Nat) (z:Int),j≤k∧k - j≤gg∧s9=.int .i64 z∧z=(k:Int) - 1 - (j:Int)∧Aside (Below w1.heap.size w1 wr)∧Aside (OSt wr w1.heap.size ob c.inputs s.gates (.slice none 0 0))∧Aside (ASt wr w1.heap.size TA tc (c.inputs.toNat+gn) ((aliasL s c.inputs k (gn - k)).set (c.inputs.toNat+k) (kd c.inputs s ⟨op,x,y⟩ k (j))))∧Aside (Row wr b6 77 [.int .i64 op,.int .i64 x,.int .i64 y]))
     case atStart=>
      refine ⟨0,_,Nat.zero_le _,by omega,rfl,by omega,BX5.out,OS5.out,?_,RB5.out⟩
      show ASt _ _ _ _ _ ((aliasL s c.inputs k (gn - k)).set (c.inputs.toNat+k) (c.inputs+(k:Int)))
      rw [alias_self HLS.out (by omega)];exact AS5.out
     case round=>
      clear BX5 OS5 AS5 RB5
      obtain ⟨j,z,hj,hgg2,rfl,hz,BX,OS,AS,RB⟩:=hrel
      have hszr:=BX.out.size
      have hoz:=OS.out.blk.1
      have hbz:=RB.out.lt
      have RCn:=hiD (rowCells RC1.out BX.out)
      by_cases hjt:j < k
      ·obtain ⟨t,rfl⟩:∃ t:Nat,z=(t:Int):=⟨z.toNat,by omega⟩
       have htj:t+j+1=k:=by omega
       clear hz
       have hge:(0:Int)≤(t:Int):=by omega
       have htk:t < s.gates.length:=by have:=HLG.out ();omega
       have htz:(t:Int) < (s.gates.length:Int):=by omega
       obtain ⟨KA,kc,hro,hog⟩:=OS.out.op
       have ROr:Hid (Row wr ob 37 [.int .i64 c.inputs,.slice KA s.gates.length kc,.slice none 0 0]):=hro
       have HG9:Hid (World.ownsRow wr w1.heap.size 77 3 (.slice KA s.gates.length kc) s.gates.length (gatesCells s.gates)):=hog
       obtain ⟨kad,rfl,hkb,e0,e1,e2⟩:=(Rd.of_own hog).gate htk
       obtain ⟨ga,rfl,hga,hgb,hc1,hf1,hput⟩:=AS.out.put (i:=c.inputs.toNat+t) (by omega)
       rw [alias_set_lt HLS.out (by omega)] at hc1
       have HKN:Hid (∀ _:Unit,kd c.inputs s ⟨op,x,y⟩ k (j+1)=if s.to.getD (c.inputs.toNat+t) 0=c.inputs+(t:Int)∧s.gates.getD t default=⟨op,x,y⟩ then c.inputs+(t:Int) else kd c.inputs s ⟨op,x,y⟩ k j):=fun _=>by rw [kd,show k - 1 - j=t by omega]
       obtain ⟨ni,hni⟩:∃ ni:Nat,c.inputs.toNat+t=ni:=⟨_,rfl⟩
       rw [hni] at hc1 HKN
       have hni2:c.inputs+(t:Int)=(ni:Int):=by omega
       have HNI:=hiU hni2
       have hw1:IntKind.i64.wrap (c.inputs+(t:Int))=(ni:Int):=by rw [hni2];exact IntWalk.i64_in _ (by omega)
       have hni1:(ni:Int) < ((c.inputs.toNat+gn:Nat):Int):=by omega
       generalize s.to.getD ni 0=tv at hc1 HKN
       generalize s.gates.getD t default=gt at e0 e1 e2 HKN
       clear hro hog hput hf1 hni hni2
       obtain ⟨k0,k1,k2,kl⟩:=RCn.out.cells3
       obtain ⟨o0,o1,o2,ol⟩:=ROr.out.cells3
       obtain ⟨r0,r1,r2,rl⟩:=RB.out.cells3
       by_cases hq:tv=(ni:Int)
       ·have hq1:(tv == (ni:Int))=true:=by simpa using hq
        have hq2:decide (tv=(ni:Int))=true:=decide_eq_true hq
        have hE:=gate_eqlZ gt ⟨op,x,y⟩
        obtain ⟨qe,hqe⟩:∃ q,gtEq gt ⟨op,x,y⟩=q:=⟨_,rfl⟩
        have HQE:=hiU hqe
        rw [hqe] at hE
        clear hqe
        dsimp only at hE
        cases qe
        ·have HKN2:Hid (∀ _:Unit,kd c.inputs s ⟨op,x,y⟩ k (j+1)=kd c.inputs s ⟨op,x,y⟩ k j):=fun _=>by rw [HKN.out (),if_neg (fun h=>by have:=(gtEq_iff _ _).2 h.2;rw [HQE.out ()] at this;cases this)]
         go_wp2_with fail
         go_quiet (fail)
         go_wp2_with fail
         go_roundg (k - (j+1))
         case measure=>omega
         case rel=>exact ⟨j+1,_,by omega,by omega,rfl,by omega,below_drewN BX.out _,OS.out,by rw [HKN2.out ()];exact AS.out,RB.out⟩
        ·have HKN2:Hid (∀ _:Unit,kd c.inputs s ⟨op,x,y⟩ k (j+1)=(ni:Int)):=fun _=>by rw [HKN.out (),HNI.out (),if_pos ⟨hq,(gtEq_iff _ _).1 (HQE.out ())⟩]
         go_wp2_with fail
         go_quiet (fail)
         clear k0 k1 k2 kl o0 o1 o2 ol r0 r1 r2 rl hc1 e0 e1 e2 hE
         have BXq:Hid (Below w1.heap.size w1 (wr.drewN nq)):=below_drewN BX.out _
         have OSq:Hid (OSt (wr.drewN nq) w1.heap.size ob c.inputs s.gates (.slice none 0 0)):=OS.out
         have ASq:Hid (ASt (wr.drewN nq) w1.heap.size (some ⟨ga,0,none⟩) tc (c.inputs.toNat+gn) ((aliasL s c.inputs k (gn - k)).set (c.inputs.toNat+k) (kd c.inputs s ⟨op,x,y⟩ k (j)))):=AS.out
         have RBq:Hid (Row (wr.drewN nq) b6 77 [.int .i64 op,.int .i64 x,.int .i64 y]):=RB.out
         clear BX OS AS RB ROr HG9 RCn hoz hbz hszr hga
         revert BXq OSq ASq RBq
         generalize wr.drewN nq=wq
         intro BXq OSq ASq RBq
         have RCq:=hiD (rowCells RC1.out BXq.out)
         obtain ⟨ga2,hga2,hga,hgb2,hc1,hf1,hput⟩:=ASq.out.put (i:=c.inputs.toNat+k) (by omega)
         cases hga2
         obtain ⟨as7,os7,rw7,bx7⟩:=hput (ni:Int)
         have AS7:=(show Hid (ASt _ _ _ _ _ _) from as7)
         have OS7:=(show Hid (OSt _ _ _ _ _ _) from os7 _ _ _ _ OSq.out)
         have BX7:=(show Hid (Below _ _ _) from bx7 _ BXq.out)
         have RB7:=(show Hid (Row _ _ _ _) from rw7 _ _ _ (by decide) RBq.out)
         clear as7 os7 bx7 rw7 hput
         obtain ⟨nk,hnk⟩:∃ nk:Nat,c.inputs.toNat+k=nk:=⟨_,rfl⟩
         have hw2:IntKind.i64.wrap (c.inputs+(k:Int))=(nk:Int):=(IntWalk.i64_in _ (by omega)).trans (by omega)
         have hnk1:(nk:Int) < ((c.inputs.toNat+gn:Nat):Int):=by omega
         have hw3:c.inputs+(t:Int)=(ni:Int):=HNI.out ()
         have hw4:c.inputs+(k:Int)=(nk:Int):=by omega
         have HNK:=hiU hnk
         rw [hnk] at hc1 hf1 AS7 OS7 BX7 RB7
         clear hnk
         obtain ⟨k0,k1,k2,kl⟩:=RCq.out.cells3
         go_wp2_with fail
         go_roundg (k - (j+1))
         case measure=>omega
         case rel=>
          refine ⟨j+1,_,by omega,by omega,rfl,by omega,BX7.out,OS7.out,?_,RB7.out⟩
          rw [HKN2.out (),HNK.out ()]
          have:=AS7.out
          rw [List.set_set] at this
          exact this
       ·have hq1:(tv == (ni:Int))=false:=by simpa using hq
        have hq2:decide (tv=(ni:Int))=false:=decide_eq_false hq
        have HKN2:Hid (∀ _:Unit,kd c.inputs s ⟨op,x,y⟩ k (j+1)=kd c.inputs s ⟨op,x,y⟩ k j):=fun _=>by rw [HKN.out (),HNI.out (),if_neg (fun h=>hq h.1)]
        go_wp2_with fail
        go_quiet (fail)
        go_wp2_with fail
        go_roundg (k - (j+1))
        case measure=>omega
        case rel=>exact ⟨j+1,_,by omega,by omega,rfl,by omega,below_drewN BX.out _,OS.out,by rw [HKN2.out ()];exact AS.out,RB.out⟩
      ·have hlz2:¬ (0:Int)≤z:=by omega
       have hd0:decide ((0:Int)≤z)=false:=decide_eq_false hlz2
       obtain rfl:j=k:=by omega
       clear hz
       have BXw9:Hid (Below w1.heap.size w1 wr):=BX.out
       obtain ⟨KA,kc,hro,hog⟩:=OS.out.op
       have RO9:Hid (Row wr ob 37 [.int .i64 c.inputs,.slice KA s.gates.length kc,.slice none 0 0]):=hro
       have HG9:Hid (World.ownsRow wr w1.heap.size 77 3 (.slice KA s.gates.length kc) s.gates.length (gatesCells s.gates)):=hog
       have ASw9:Hid (ASt wr w1.heap.size TA tc (c.inputs.toNat+gn) (aliasL (shareTo c (j+1)) c.inputs (j+1) (gn - (j+1)))):=(by show ASt _ _ _ _ _ _;rw [HKD.out ()];exact AS.out)
       have RBw9:Hid (Row wr b6 77 [.int .i64 op,.int .i64 x,.int .i64 y]):=RB.out
       clear hro hog AS BX OS RB RCn HKD
       revert BXw9 RO9 HG9 ASw9 RBw9 hszr hoz hbz
       generalize wr=w9
       intro hsz9 hoz hbz BXw9 RO9 HG9 ASw9 RBw9
       obtain ⟨k0,k1,k2,kl⟩:=RBw9.out.cells3
       obtain ⟨o0,o1,o2,ol⟩:=RO9.out.cells3
       go_wp2_with (at_builtin;refine wpList_app rfl (.tmp 91) (.tmp 93) 34 rfl w1.heap.size 77 (.agg #[.int .i64 0,.int .i64 0,.int .i64 0]) 3 24 Try.underlying34 gate_infoZ rfl (by decide) (by decide) (.slice KA s.gates.length kc) s.gates.length (gatesCells s.gates) rfl ?own (w9.heap.size+1) (some ⟨w9.heap.size,0,none⟩) 1 1 [.int .i64 op,.int .i64 x,.int .i64 y] rfl ?rd ?one ?hb ?hbase ?_)
       case own=>exact HG9.out.alloc _
       case rd=>exact Rd.lit w9 #[.int .i64 op,.int .i64 x,.int .i64 y] 77 (sz:=3) (m:=1) rfl
       case one=>first | exact gate_oneZ _ _ _ | exact ⟨rfl,rfl,rfl⟩
       case hb=>omega
       case hbase=>first | (simp;omega) | omega
       intro v' w5 hown' hgrow' hat'
       obtain ⟨VA,vc,rfl,_⟩:=Rd.own hown'
       obtain ⟨r1,os6,as6,bx6⟩:=OSt.push (g:=⟨op,x,y⟩) (RO9.out.alloc _) (HG9.out.alloc _) (World.ownsRow.alloc ASw9.out _) hob rfl (by simp;omega) hgrow' hown' (BXw9.out.alloc hsz9 _)
       have q1:=r1.cell 1
       have qf:=r1.frozen 1
       have ql:=r1.lt
       simp only [List.getElem?_cons_zero,List.getElem?_cons_succ] at q1
       have OS6:Hid (OSt (w5.setCell ⟨ob,1,none⟩ (.slice VA (s.gates.length+1) vc)) w1.heap.size ob c.inputs (shareTo c (j+1)).gates (.slice none 0 0)):=(by show OSt _ _ _ _ _ _;rw [HGT2.out ()];exact os6)
       have AS6:=(show Hid (ASt _ _ _ _ _ _) from as6)
       have BX6:Hid (Below w1.heap.size w1 (w5.setCell ⟨ob,1,none⟩ (.slice VA (s.gates.length+1) vc))):=bx6
       clear hown' hgrow' hat' os6 as6 bx6 r1 k0 k1 k2 kl o0 o1 o2 ol ASw9 BXw9 RBw9 RO9 HG9
       go_wp2_with fail
       go_roundg (gn - (j+1))
       case measure=>omega
       case rel=>exact ⟨j+1,by omega,by omega,by go_num,OS6.out.blk.1,BX6.out,OS6.out,AS6.out⟩
   ·have HGE:Hid (∀ _:Unit,swapG ⟨op,x,y⟩=⟨op,x,y⟩):=fun _=>by unfold swapG;rw [if_neg (fun q=>hz q.1)]
    obtain ⟨zz,hzv⟩:∃ zz,operandsO op=zz:=⟨_,rfl⟩
    have HOP:=hiU hzv
    have hz1:(zz == 2)=false:=by rw [hzv] at hz;simpa using hz
    have hz2:decide (zz=2)=false:=decide_eq_false (by rw [hzv] at hz;exact hz)
    clear hz hzz hzv RO4 OG4 HNB
    have HC:=rOps_any op w4
    rw [HOP.out ()] at HC
    obtain ⟨k0,k1,k2,kl⟩:=RB4.out.cells3
    go_wp2_with fail
    refine HC.mono ?_
    clear HC
    rintro e w5 ⟨rfl,rfl⟩
    go_upto_region 11 with fail
    have RB5:=RB4
    have OS5:=OS4
    have AS5:=AS4
    have BX5:=BX4
    clear RB4 OS4 AS4 BX4 k0 k1 k2 kl
    revert RB5 OS5 AS5 BX5
    generalize w4=w5
    intro RB5 OS5 AS5 BX5
    obtain ⟨k0,k1,k2,kl⟩:=RB5.out.cells3
    have HKD:Hid (∀ _:Unit,aliasL (shareTo c (k+1)) c.inputs (k+1) (gn - (k+1))=(aliasL s c.inputs k (gn - k)).set (c.inputs.toNat+k) (kd c.inputs s ⟨op,x,y⟩ k (k))):=fun _=>by rw [HAN.out (),HGE.out ()]
    have HGT2:Hid (∀ _:Unit,(shareTo c (k+1)).gates=s.gates ++ [⟨op,x,y⟩]):=fun _=>by rw [HGT.out (),HGE.out ()]
    have hob6:=hb6.out
    go_wp2_with fail
    clear k0 k1 k2 kl
    go_loopg [9] k (fun gg s9 wr=>∃ (j:Nat) (z:Int),j≤k∧k - j≤gg∧s9=.int .i64 z∧z=(k:Int) - 1 - (j:Int)∧Aside (Below w1.heap.size w1 wr)∧Aside (OSt wr w1.heap.size ob c.inputs s.gates (.slice none 0 0))∧Aside (ASt wr w1.heap.size TA tc (c.inputs.toNat+gn) ((aliasL s c.inputs k (gn - k)).set (c.inputs.toNat+k) (kd c.inputs s ⟨op,x,y⟩ k (j))))∧Aside (Row wr b6 77 [.int .i64 op,.int .i64 x,.int .i64 y]))
    case atStart=>
     refine ⟨0,_,Nat.zero_le _,by omega,rfl,by omega,BX5.out,OS5.out,?_,RB5.out⟩
     show ASt _ _ _ _ _ ((aliasL s c.inputs k (gn - k)).set (c.inputs.toNat+k) (c.inputs+(k:Int)))
     rw [alias_self HLS.out (by omega)];exact AS5.out
    case round=>
     clear BX5 OS5 AS5 RB5
     obtain ⟨j,z,hj,hgg2,rfl,hz,BX,OS,AS,RB⟩:=hrel
     have hszr:=BX.out.size
     have hoz:=OS.out.blk.1
     have hbz:=RB.out.lt
     have RCn:=hiD (rowCells RC1.out BX.out)
     by_cases hjt:j < k
     ·obtain ⟨t,rfl⟩:∃ t:Nat,z=(t:Int):=⟨z.toNat,by omega⟩
      have htj:t+j+1=k:=by omega
      clear hz
      have hge:(0:Int)≤(t:Int):=by omega
      have htk:t < s.gates.length:=by have:=HLG.out ();omega
      have htz:(t:Int) < (s.gates.length:Int):=by omega
      obtain ⟨KA,kc,hro,hog⟩:=OS.out.op
      have ROr:Hid (Row wr ob 37 [.int .i64 c.inputs,.slice KA s.gates.length kc,.slice none 0 0]):=hro
      have HG9:Hid (World.ownsRow wr w1.heap.size 77 3 (.slice KA s.gates.length kc) s.gates.length (gatesCells s.gates)):=hog
      obtain ⟨kad,rfl,hkb,e0,e1,e2⟩:=(Rd.of_own hog).gate htk
      obtain ⟨ga,rfl,hga,hgb,hc1,hf1,hput⟩:=AS.out.put (i:=c.inputs.toNat+t) (by omega)
      rw [alias_set_lt HLS.out (by omega)] at hc1
      have HKN:Hid (∀ _:Unit,kd c.inputs s ⟨op,x,y⟩ k (j+1)=if s.to.getD (c.inputs.toNat+t) 0=c.inputs+(t:Int)∧s.gates.getD t default=⟨op,x,y⟩ then c.inputs+(t:Int) else kd c.inputs s ⟨op,x,y⟩ k j):=fun _=>by rw [kd,show k - 1 - j=t by omega]
      obtain ⟨ni,hni⟩:∃ ni:Nat,c.inputs.toNat+t=ni:=⟨_,rfl⟩
      rw [hni] at hc1 HKN
      have hni2:c.inputs+(t:Int)=(ni:Int):=by omega
      have HNI:=hiU hni2
      have hw1:IntKind.i64.wrap (c.inputs+(t:Int))=(ni:Int):=by rw [hni2];exact IntWalk.i64_in _ (by omega)
      have hni1:(ni:Int) < ((c.inputs.toNat+gn:Nat):Int):=by omega
      generalize s.to.getD ni 0=tv at hc1 HKN
      generalize s.gates.getD t default=gt at e0 e1 e2 HKN
      clear hro hog hput hf1 hni hni2
      obtain ⟨k0,k1,k2,kl⟩:=RCn.out.cells3
      obtain ⟨o0,o1,o2,ol⟩:=ROr.out.cells3
      obtain ⟨r0,r1,r2,rl⟩:=RB.out.cells3
      by_cases hq:tv=(ni:Int)
      ·have hq1:(tv == (ni:Int))=true:=by simpa using hq
       have hq2:decide (tv=(ni:Int))=true:=decide_eq_true hq
       have hE:=gate_eqlZ gt ⟨op,x,y⟩
       obtain ⟨qe,hqe⟩:∃ q,gtEq gt ⟨op,x,y⟩=q:=⟨_,rfl⟩
       have HQE:=hiU hqe
       rw [hqe] at hE
       clear hqe
       dsimp only at hE
       cases qe
       ·have HKN2:Hid (∀ _:Unit,kd c.inputs s ⟨op,x,y⟩ k (j+1)=kd c.inputs s ⟨op,x,y⟩ k j):=fun _=>by rw [HKN.out (),if_neg (fun h=>by have:=(gtEq_iff _ _).2 h.2;rw [HQE.out ()] at this;cases this)]
        go_wp2_with fail
        go_quiet (fail)
        go_wp2_with fail
        go_roundg (k - (j+1))
        case measure=>omega
        case rel=>exact ⟨j+1,_,by omega,by omega,rfl,by omega,below_drewN BX.out _,OS.out,by rw [HKN2.out ()];exact AS.out,RB.out⟩
       ·have HKN2:Hid (∀ _:Unit,kd c.inputs s ⟨op,x,y⟩ k (j+1)=(ni:Int)):=fun _=>by rw [HKN.out (),HNI.out (),if_pos ⟨hq,(gtEq_iff _ _).1 (HQE.out ())⟩]
        go_wp2_with fail
        go_quiet (fail)
        clear k0 k1 k2 kl o0 o1 o2 ol r0 r1 r2 rl hc1 e0 e1 e2 hE
        have BXq:Hid (Below w1.heap.size w1 (wr.drewN nq)):=below_drewN BX.out _
        have OSq:Hid (OSt (wr.drewN nq) w1.heap.size ob c.inputs s.gates (.slice none 0 0)):=OS.out
        have ASq:Hid (ASt (wr.drewN nq) w1.heap.size (some ⟨ga,0,none⟩) tc (c.inputs.toNat+gn) ((aliasL s c.inputs k (gn - k)).set (c.inputs.toNat+k) (kd c.inputs s ⟨op,x,y⟩ k (j)))):=AS.out
        have RBq:Hid (Row (wr.drewN nq) b6 77 [.int .i64 op,.int .i64 x,.int .i64 y]):=RB.out
        clear BX OS AS RB ROr HG9 RCn hoz hbz hszr hga
        revert BXq OSq ASq RBq
        generalize wr.drewN nq=wq
        intro BXq OSq ASq RBq
        have RCq:=hiD (rowCells RC1.out BXq.out)
        obtain ⟨ga2,hga2,hga,hgb2,hc1,hf1,hput⟩:=ASq.out.put (i:=c.inputs.toNat+k) (by omega)
        cases hga2
        obtain ⟨as7,os7,rw7,bx7⟩:=hput (ni:Int)
        have AS7:=(show Hid (ASt _ _ _ _ _ _) from as7)
        have OS7:=(show Hid (OSt _ _ _ _ _ _) from os7 _ _ _ _ OSq.out)
        have BX7:=(show Hid (Below _ _ _) from bx7 _ BXq.out)
        have RB7:=(show Hid (Row _ _ _ _) from rw7 _ _ _ (by decide) RBq.out)
        clear as7 os7 bx7 rw7 hput
        obtain ⟨nk,hnk⟩:∃ nk:Nat,c.inputs.toNat+k=nk:=⟨_,rfl⟩
        have hw2:IntKind.i64.wrap (c.inputs+(k:Int))=(nk:Int):=(IntWalk.i64_in _ (by omega)).trans (by omega)
        have hnk1:(nk:Int) < ((c.inputs.toNat+gn:Nat):Int):=by omega
        have hw3:c.inputs+(t:Int)=(ni:Int):=HNI.out ()
        have hw4:c.inputs+(k:Int)=(nk:Int):=by omega
        have HNK:=hiU hnk
        rw [hnk] at hc1 hf1 AS7 OS7 BX7 RB7
        clear hnk
        obtain ⟨k0,k1,k2,kl⟩:=RCq.out.cells3
        go_wp2_with fail
        go_roundg (k - (j+1))
        case measure=>omega
        case rel=>
         refine ⟨j+1,_,by omega,by omega,rfl,by omega,BX7.out,OS7.out,?_,RB7.out⟩
         rw [HKN2.out (),HNK.out ()]
         have:=AS7.out
         rw [List.set_set] at this
         exact this
      ·have hq1:(tv == (ni:Int))=false:=by simpa using hq
       have hq2:decide (tv=(ni:Int))=false:=decide_eq_false hq
       have HKN2:Hid (∀ _:Unit,kd c.inputs s ⟨op,x,y⟩ k (j+1)=kd c.inputs s ⟨op,x,y⟩ k j):=fun _=>by rw [HKN.out (),HNI.out (),if_neg (fun h=>hq h.1)]
       go_wp2_with fail
       go_quiet (fail)
       go_wp2_with fail
       go_roundg (k - (j+1))
       case measure=>omega
       case rel=>exact ⟨j+1,_,by omega,by omega,rfl,by omega,below_drewN BX.out _,OS.out,by rw [HKN2.out ()];exact AS.out,RB.out⟩
     ·have hlz2:¬ (0:Int)≤z:=by omega
      have hd0:decide ((0:Int)≤z)=false:=decide_eq_false hlz2
      obtain rfl:j=k:=by omega
      clear hz
      have BXw9:Hid (Below w1.heap.size w1 wr):=BX.out
      obtain ⟨KA,kc,hro,hog⟩:=OS.out.op
      have RO9:Hid (Row wr ob 37 [.int .i64 c.inputs,.slice KA s.gates.length kc,.slice none 0 0]):=hro
      have HG9:Hid (World.ownsRow wr w1.heap.size 77 3 (.slice KA s.gates.length kc) s.gates.length (gatesCells s.gates)):=hog
      have ASw9:Hid (ASt wr w1.heap.size TA tc (c.inputs.toNat+gn) (aliasL (shareTo c (j+1)) c.inputs (j+1) (gn - (j+1)))):=(by show ASt _ _ _ _ _ _;rw [HKD.out ()];exact AS.out)
      have RBw9:Hid (Row wr b6 77 [.int .i64 op,.int .i64 x,.int .i64 y]):=RB.out
      clear hro hog AS BX OS RB RCn HKD
      revert BXw9 RO9 HG9 ASw9 RBw9 hszr hoz hbz
      generalize wr=w9
      intro hsz9 hoz hbz BXw9 RO9 HG9 ASw9 RBw9
      obtain ⟨k0,k1,k2,kl⟩:=RBw9.out.cells3
      obtain ⟨o0,o1,o2,ol⟩:=RO9.out.cells3
      go_wp2_with (at_builtin;refine wpList_app rfl (.tmp 91) (.tmp 93) 34 rfl w1.heap.size 77 (.agg #[.int .i64 0,.int .i64 0,.int .i64 0]) 3 24 Try.underlying34 gate_infoZ rfl (by decide) (by decide) (.slice KA s.gates.length kc) s.gates.length (gatesCells s.gates) rfl ?own (w9.heap.size+1) (some ⟨w9.heap.size,0,none⟩) 1 1 [.int .i64 op,.int .i64 x,.int .i64 y] rfl ?rd ?one ?hb ?hbase ?_)
      case own=>exact HG9.out.alloc _
      case rd=>exact Rd.lit w9 #[.int .i64 op,.int .i64 x,.int .i64 y] 77 (sz:=3) (m:=1) rfl
      case one=>first | exact gate_oneZ _ _ _ | exact ⟨rfl,rfl,rfl⟩
      case hb=>omega
      case hbase=>first | (simp;omega) | omega
      intro v' w5 hown' hgrow' hat'
      obtain ⟨VA,vc,rfl,_⟩:=Rd.own hown'
      obtain ⟨r1,os6,as6,bx6⟩:=OSt.push (g:=⟨op,x,y⟩) (RO9.out.alloc _) (HG9.out.alloc _) (World.ownsRow.alloc ASw9.out _) hob rfl (by simp;omega) hgrow' hown' (BXw9.out.alloc hsz9 _)
      have q1:=r1.cell 1
      have qf:=r1.frozen 1
      have ql:=r1.lt
      simp only [List.getElem?_cons_zero,List.getElem?_cons_succ] at q1
      have OS6:Hid (OSt (w5.setCell ⟨ob,1,none⟩ (.slice VA (s.gates.length+1) vc)) w1.heap.size ob c.inputs (shareTo c (j+1)).gates (.slice none 0 0)):=(by show OSt _ _ _ _ _ _;rw [HGT2.out ()];exact os6)
      have AS6:=(show Hid (ASt _ _ _ _ _ _) from as6)
      have BX6:Hid (Below w1.heap.size w1 (w5.setCell ⟨ob,1,none⟩ (.slice VA (s.gates.length+1) vc))):=bx6
      clear hown' hgrow' hat' os6 as6 bx6 r1 k0 k1 k2 kl o0 o1 o2 ol ASw9 BXw9 RBw9 RO9 HG9
      go_wp2_with fail
      go_roundg (gn - (j+1))
      case measure=>omega
      case rel=>exact ⟨j+1,by omega,by omega,by go_num,OS6.out.blk.1,BX6.out,OS6.out,AS6.out⟩
  ·have hlz:¬ (k:Int) < (gn:Int):=by omega
   obtain rfl:gn=k:=by omega
   obtain ⟨l1,l2⟩:=shareTo_len c gn
   have HV:Hid (∀ _:Unit,shareC c=doneW c (shareTo c gn)):=fun _=>by rw [shareC_eq HR.out,HGL.out ()]
   generalize shareTo c gn=s at OS AS l1 l2 HV
   have HOB:Hid (∀ i,i < c.outs.length→0≤c.outs.getD i 0∧c.outs.getD i 0 < ((c.inputs.toNat+gn:Nat):Int)):=fun i hi=>by
    have:=outOk_at (rightC_parts HR.out).2.2 hi
    rw [HGL.out ()] at this
    omega
   have AS2:Hid (ASt wr w1.heap.size TA tc (c.inputs.toNat+gn) s.to):=(by show ASt _ _ _ _ _ _;have e:=alias_end (s:=s) (n:=c.inputs) (k:=gn);rw [Nat.sub_self,e] at AS;exact AS.out)
   obtain ⟨KA,kc,hro,hog⟩:=OS.out.op
   rw [l1] at hro hog
   have ROr:Hid (Row wr ob 37 [.int .i64 c.inputs,.slice KA gn kc,.slice none 0 0]):=hro
   have OGr:Hid (World.ownsRow wr w1.heap.size 77 3 (.slice KA gn kc) gn (gatesCells s.gates)):=hog
   clear hro hog OS AS
   obtain ⟨k0,k1,k2,kl⟩:=RCn.out.cells3
   obtain ⟨o0,o1,o2,ol⟩:=ROr.out.cells3
   have of2:=ROr.out.frozen 2
   go_wp2_with fail
   have HC:=rOuts_any c.outs s.to OA TA on oc (c.inputs.toNat+gn) tc wr (HC0.out.up BW.out).outs AS2.out.rd (by omega) (by omega) HOB.out
   refine HC.mono ?_
   clear HC
   rintro e w4 ⟨OB,pc,rfl,hrd,hfr,hb⟩
   have RO4:=hiD (rowCells ROr.out hb)
   have RR4:Hid (Row w4 (w.heap.size+1) 37 [.int .i64 0,.slice none 0 0,.slice none 0 0]):=rowCells RR1.out (below_on2 BX.out hb)
   have OG4:Hid (World.ownsRow w4 w1.heap.size 77 3 (.slice KA gn kc) gn (gatesCells s.gates)):=own_below OGr.out hb (Nat.le_refl _)
   have HRO:Hid (Rd w4 w4.heap.size 1 OB on (ints (c.outs.map (toAt s.to)))):=hrd
   have HFO:Hid (CFrom OB on wr.heap.size):=hfr
   have BW4:=hiD (below_on2 BW.out hb)
   clear hrd hfr hb k0 k1 k2 kl o0 o1 o2 ol of2 ROr OGr RCn
   obtain ⟨o0,o1,o2,ol⟩:=RO4.out.cells3
   obtain ⟨of0,of1,of2⟩:=RO4.out.froz3
   go_upto_region 18 with fail
   have RO5:Hid (Row (World.setCell w4 ⟨ob,2,none⟩ (.slice OB on pc)) ob 37 [.int .i64 c.inputs,.slice KA gn kc,.slice OB on pc]):=RO4.out.set 2 _
   have RR5:Hid (Row (World.setCell w4 ⟨ob,2,none⟩ (.slice OB on pc)) (w.heap.size+1) 37 [.int .i64 0,.slice none 0 0,.slice none 0 0]):=RR4.out.far (p:=⟨ob,2,none⟩) (by show w.heap.size+1≠ob;omega) _
   have BW5:Hid (Below w.heap.size w (World.setCell w4 ⟨ob,2,none⟩ (.slice OB on pc))):=BW4.out.setCell (p:=⟨ob,2,none⟩) (by show w.heap.size≤ob;omega) _
   have OG5:Hid (World.ownsRow (World.setCell w4 ⟨ob,2,none⟩ (.slice OB on pc)) w1.heap.size 77 3 (.slice KA gn kc) gn (gatesCells s.gates)):=own_set (p:=⟨ob,2,none⟩) OG4.out RO4.out (by decide) _
   have HR5:Hid (Rd (World.setCell w4 ⟨ob,2,none⟩ (.slice OB on pc)) (World.setCell w4 ⟨ob,2,none⟩ (.slice OB on pc)).heap.size 1 OB on (ints (c.outs.map (toAt s.to)))):=(by
    show Rd _ _ _ _ _ _
    rw [World.size_setCell]
    exact HRO.out.farSet (p:=⟨ob,2,none⟩) (HFO.out.ne (by show ob < _;omega)) _)
   clear RO4 RR4 BW4 OG4 HRO o0 o1 o2 ol of0 of1 of2
   revert RO5 RR5 BW5 OG5 HR5
   generalize (World.setCell w4 ⟨ob,2,none⟩ (.slice OB on pc))=w5
   intro RO5 RR5 BW5 OG5 HR5
   have HF1:Hid (CFrom KA gn w1.heap.size):=own_from OG5.out
   have HF2:Hid (CFrom OB on w1.heap.size):=HFO.out.mono (by omega)
   have HCA:Hid (CAt w5 (shareC c) KA OB gn on):=(by
    show CAt _ _ _ _ _ _
    rw [HV.out ()]
    exact ⟨Rd.of_own OG5.out,HR5.out,by unfold maxLen;omega,by unfold maxLen;omega⟩)
   clear OG5 HR5 HFO
   obtain ⟨o0,o1,o2,ol⟩:=RO5.out.cells3
   obtain ⟨z0,z1,z2,zl⟩:=RR5.out.cells3
   obtain ⟨zf0,zf1,zf2⟩:=RR5.out.froz3
   go_wp2
   have Z9:=RR5.out.set3 (.int .i64 c.inputs) (.slice KA gn kc) (.slice OB on pc)
   have B9:=bSet3 BW5.out (w.heap.size+1) (by show _≤(w.heap.size+1);omega) (.int .i64 c.inputs) (.slice KA gn kc) (.slice OB on pc)
   obtain ⟨d0,d1,d2,-⟩:=Z9.cells3
   clear Z9
   refine bodyPost_ret (v:=.agg #[.int .i64 c.inputs,.slice KA gn kc,.slice OB on pc]) (by simp [results,Try.results64,go_sem,d0,d1,d2]) rfl ?_
   have HIN:(shareC c).inputs=c.inputs:=by rw [HV.out ()];rfl
   exact ⟨KA,OB,gn,kc,on,pc,by rw [HIN],(CAt.farSet (CAt.farSet (CAt.farSet HCA.out (p:=⟨(w.heap.size+1),0,none⟩) (HF1.out.ne (by show (w.heap.size+1) < _;omega)) (HF2.out.ne (by show (w.heap.size+1) < _;omega)) (.int .i64 c.inputs)) (p:=⟨(w.heap.size+1),1,none⟩) (HF1.out.ne (by show (w.heap.size+1) < _;omega)) (HF2.out.ne (by show (w.heap.size+1) < _;omega)) (.slice KA gn kc)) (p:=⟨(w.heap.size+1),2,none⟩) (HF1.out.ne (by show (w.heap.size+1) < _;omega)) (HF2.out.ne (by show (w.heap.size+1) < _;omega)) (.slice OB on pc)),HF1.out.mono (by omega),HF2.out.mono (by omega),B9⟩
end Go.Proofs.Ytiemhbogbaamlaa
