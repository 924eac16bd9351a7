/-
 A part.
-/
import Derived.Test.YtiemhbogbaamlaaYF1
import Derived.Test.YtiemhbogbaamlaaYF35
import Derived.Test.YtiemhbogbaamlaaYF36
import Derived.Test.YtiemhbogbaamlaaYF13
set_option linter.unusedSimpArgs false
set_option linter.unusedVariables false
namespace Go.Proofs.Ytiemhbogbaamlaa
open Go.RowKit
set_option maxRecDepth 100000 in
set_option maxHeartbeats 8000000 in
theorem rTrim_any (c:Circ) (GA OA:Option Addr) (gn gc on oc:Nat) (w:World) (hc:CAt w c GA OA gn on):
 Calls Try.prog 63 #[.agg #[.int .i64 c.inputs,.slice GA gn gc,.slice OA on oc]] w (CiPost (trimC c) w.heap.size w):=by
 have HC0:Hid (CAt w c GA OA gn on):=hc
 have HGL:Hid (∀ _:Unit,c.gates.length=gn):=fun _=>hc.gl
 have HOL:Hid (∀ _:Unit,c.outs.length=on):=fun _=>hc.ol
 clear hc
 go_enter Try.func63,Try.ntmps63
 go_wp2_with fail
 obtain ⟨wa,hW9,RC,RR,hgr9⟩:=laid2 w [.int .i64 c.inputs,.slice GA gn gc,.slice OA on oc] 37 [.int .i64 0,.slice none 0 0,.slice none 0 0] 37
 rewrite [hW9]
 clear hW9
 have B_w:=hiD hgr9
 clear hgr9
 have hwa:w.heap.size+1 < wa.heap.size:=RR.out.lt
 obtain ⟨q,hq⟩:∃ q,rightC c=q:=⟨_,rfl⟩
 have HQ:=hiU hq
 have HC:=rRightZ_at c GA OA gn gc on oc wa (HC0.out.up B_w.out)
 rw [hq] at HC
 clear hq
 refine HC.mono ?_
 clear HC
 rintro e w1 ⟨rfl,hb⟩
 have B_w:=hiD (below_on2 B_w.out hb)
 have B_wa:Hid (Below wa.heap.size wa w1):=hb
 clear hb
 have RR1:=hiD (rowCells RR.out B_wa.out)
 have RC1:=hiD (rowCells RC.out B_wa.out)
 have BW1:Hid (Below w.heap.size w w1):=B_w
 have hs1:w.heap.size+1 < w1.heap.size:=RR1.out.lt
 clear B_w B_wa RC RR hwa
 cases q
 ·skip
  obtain ⟨z0,z1,z2,zl⟩:=RR1.out.cells3
  obtain ⟨zf0,zf1,zf2⟩:=RR1.out.froz3
  go_wp2
  have Z9:=RR1.out.set3 (.int .i64 0) (.slice none 0 0) (.slice none 0 0)
  have B9:=bSet3 BW1.out (w.heap.size+1) (by show _≤(w.heap.size+1);omega) (.int .i64 0) (.slice none 0 0) (.slice none 0 0)
  obtain ⟨d0,d1,d2,-⟩:=Z9.cells3
  clear Z9
  refine bodyPost_ret (v:=.agg #[.int .i64 0,.slice none 0 0,.slice none 0 0]) (by simp [results,Try.results63,go_sem,d0,d1,d2]) rfl ?_
  have HV:trimC c=noCirc:=by unfold trimC;rw [if_neg (by rw [HQ.out ()];decide)]
  rw [HV]
  exact ⟨none,none,0,0,0,0,rfl,noCirc_at _,.none,.none,B9⟩
 have HR:Hid (rightC c=true):=HQ.out ()
 obtain ⟨⟨hn0,hn1,hg0,ho0⟩,_⟩:=rightC_parts HR.out
 rw [HGL.out ()] at hg0
 rw [HOL.out ()] at ho0
 clear HQ
 obtain ⟨NN,hNN⟩:∃ NN:Nat,c.inputs+(gn:Int)=(NN:Int):=⟨(c.inputs+(gn:Int)).toNat,by omega⟩
 have HNN:=hiU hNN
 have hNb:NN≤21000:=by omega
 have hmk:=fun W=>make_like (P:=Try.prog) Try.underlying109 bool_infoZ rfl NN (c.inputs+(gn:Int)) hNN (by omega) (by omega) W
 clear hNN
 obtain ⟨k0,k1,k2,kl⟩:=RC1.out.cells3
 go_upto_region 4 with fail
 clear k0 k1 k2 kl hmk
 have RN2:Hid (Row (World.alloc w1 (.cells (likeRow (.bool false) NN) 4)) w1.heap.size 4 (bools (needOuts c 0))):=(by
  show Row _ _ _ _
  have e:needOuts c 0=List.replicate NN false:=by rw [needOuts,HGL.out (),HNN.out ()];rfl
  rw [e];exact falseRow w1 NN _)
 have RC2:Hid (Row (World.alloc w1 (.cells (likeRow (.bool false) NN) 4)) w.heap.size 37 [.int .i64 c.inputs,.slice GA gn gc,.slice OA on oc]):=RC1.out.alloc _
 have RR2:Hid (Row (World.alloc w1 (.cells (likeRow (.bool false) NN) 4)) (w.heap.size+1) 37 [.int .i64 0,.slice none 0 0,.slice none 0 0]):=RR1.out.alloc _
 have BW2:Hid (Below w.heap.size w (World.alloc w1 (.cells (likeRow (.bool false) NN) 4))):=BW1.out.alloc BW1.out.size _
 have hs1:w.heap.size+1 < w1.heap.size:=RR1.out.lt
 clear RC1 RR1 BW1
 revert RN2 RC2 RR2 BW2
 generalize (World.alloc w1 (.cells (likeRow (.bool false) NN) 4))=w2
 intro RN2 RC2 RR2 BW2
 go_wp2_with fail
 have HLN:Hid (∀ k,(needOuts c k).length=NN):=fun k=>by rw [needOuts_len,HGL.out (),HNN.out ()];rfl
 have HLT:Hid (∀ k,(needTo c k).length=NN):=fun k=>by rw [needTo_len,HGL.out (),HNN.out ()];rfl
 go_loopg [4] on (fun gg s4 wr=>∃ k:Nat,k≤on∧on - k≤gg∧s4=.int .i64 k∧Aside (Below w.heap.size w wr)∧Aside (Row wr w.heap.size 37 [.int .i64 c.inputs,.slice GA gn gc,.slice OA on oc])∧Aside (Row wr (w.heap.size+1) 37 [.int .i64 0,.slice none 0 0,.slice none 0 0])∧Aside (Row wr w1.heap.size 4 (bools (needOuts c k))))
 case atStart=>exact ⟨0,Nat.zero_le _,by omega,rfl,BW2.out,RC2.out,RR2.out,RN2.out⟩
 case round=>
  clear RC2 RR2 BW2 RN2
  obtain ⟨k,hk,hgg,rfl,BW,RC,RR,RN⟩:=hrel
  by_cases hlt:k < on
  ·have hlz:(k:Int) < (on:Int):=by omega
   have hko:k < c.outs.length:=by rw [HOL.out ()];exact hlt
   have hob:=outOk_at (rightC_parts HR.out).2.2 hko
   rw [HGL.out (),HNN.out ()] at hob
   obtain ⟨ad,rfl,hab,o0⟩:=(HC0.out.up BW.out).outs.int hlt
   have HST:Hid (∀ _:Unit,needOuts c (k+1)=(needOuts c k).set (c.outs.getD k 0).toNat true):=fun _=>rfl
   generalize c.outs.getD k 0=z at hob o0 HST
   obtain ⟨p,rfl⟩:∃ p:Nat,z=(p:Int):=⟨z.toNat,by omega⟩
   have hp1:(p:Int) < (NN:Int):=hob.2
   have hl:=HLN.out k
   generalize needOuts c k=l at RN HST hl
   have hcell:wr.cell? ⟨w1.heap.size,p,none⟩=some (.bool (l.getD p false)):=by rw [RN.out.cell];exact bools_get l p (by omega)
   have hfr:wr.frozen? ⟨w1.heap.size,p,none⟩=false:=RN.out.frozen p
   have hbz:=RN.out.lt
   clear hob hl hko
   obtain ⟨k0,k1,k2,kl⟩:=RC.out.cells3
   go_wp2_with fail
   go_roundg (on - (k+1))
   case measure=>omega
   case rel=>
    exact ⟨k+1,by omega,by omega,by go_num,BW.out.setCell (p:=⟨w1.heap.size,p,none⟩) (by show w.heap.size≤w1.heap.size;omega) _,RC.out.far (p:=⟨w1.heap.size,p,none⟩) (by show w.heap.size≠w1.heap.size;omega) _,RR.out.far (p:=⟨w1.heap.size,p,none⟩) (by show w.heap.size+1≠w1.heap.size;omega) _,by rw [HST.out (),← boolsZ_set,Int.toNat_natCast];exact RN.out.set p _⟩
  ·have hlz:¬ (k:Int) < (on:Int):=by omega
   obtain rfl:on=k:=by omega
   have he0:needTo c 0=needOuts c on:=by rw [needTo,HOL.out ()]
   have RN2:Hid (Row wr w1.heap.size 4 (bools (needTo c 0))):=(by show Row _ _ _ _;rw [he0];exact RN.out)
   clear he0
   have RC2:Hid (Row wr w.heap.size 37 [.int .i64 c.inputs,.slice GA gn gc,.slice OA on oc]):=RC.out
   have RR2:Hid (Row wr (w.heap.size+1) 37 [.int .i64 0,.slice none 0 0,.slice none 0 0]):=RR.out
   have BW2:Hid (Below w.heap.size w wr):=BW.out
   clear RC RR BW RN hgg hlz HLN
   revert RN2 RC2 RR2 BW2
   generalize wr=w2
   intro RN2 RC2 RR2 BW2
   obtain ⟨k0,k1,k2,kl⟩:=RC2.out.cells3
   go_wp2_with fail
   clear k0 k1 k2 kl
   go_loopg [5,6] gn (fun gg s5 _ wr=>∃ (j:Nat) (z:Int),j≤gn∧gn - j≤gg∧s5=.int .i64 z∧z=(gn:Int) - 1 - (j:Int)∧Aside (Below w.heap.size w wr)∧Aside (Row wr w.heap.size 37 [.int .i64 c.inputs,.slice GA gn gc,.slice OA on oc])∧Aside (Row wr (w.heap.size+1) 37 [.int .i64 0,.slice none 0 0,.slice none 0 0])∧Aside (Row wr w1.heap.size 4 (bools (needTo c j))))
   case atStart=>exact ⟨0,_,Nat.zero_le _,by omega,rfl,by omega,BW2.out,RC2.out,RR2.out,RN2.out⟩
   case round=>
    clear RC2 RR2 BW2 RN2
    obtain ⟨j,z,hj,hgg,rfl,hz,BW,RC,RR,RN⟩:=hrel
    by_cases hlt:j < gn
    ·obtain ⟨i,rfl⟩:∃ i:Nat,z=(i:Int):=⟨z.toNat,by omega⟩
     have hij:i+j+1=gn:=by omega
     clear hz
     have hig:i < gn:=by omega
     have hlz:(i:Int) < (gn:Int):=by omega
     have hge:(0:Int)≤(i:Int):=by omega
     have hkc:i < c.gates.length:=by rw [HGL.out ()];exact hig
     obtain ⟨ad,rfl,hab,c0,c1,c2⟩:=(HC0.out.up BW.out).gates.gate hig
     have hgo:=gateAt_ok HR.out hkc
     have HST:Hid (∀ _:Unit,needTo c (j+1)=needG c.inputs (needTo c j) i (gateAt c i)):=fun _=>by
      rw [needTo,HGL.out (),show gn - 1 - j=i by omega]
     change wr.cell? _=some (.int .i64 (gateAt c i).op) at c0
     change wr.cell? _=some (.int .i64 (gateAt c i).a) at c1
     change wr.cell? _=some (.int .i64 (gateAt c i).b) at c2
     have hl:=HLT.out j
     have hNN2:=HNN.out ()
     generalize gateAt c i=g at c0 c1 c2 hgo HST
     generalize needTo c j=l at RN HST hl
     obtain ⟨op,x,y⟩:=g
     obtain ⟨hop,hha,hhb,-,-⟩:=gateOk_parts hgo
     have hoz:=operandsO_of hop
     dsimp only at hop hha hhb hoz c0 c1 c2
     obtain ⟨ni,hni⟩:∃ ni:Nat,c.inputs+(i:Int)=(ni:Int):=⟨(c.inputs+(i:Int)).toNat,by omega⟩
     have hni1:(ni:Int) < (NN:Int):=by omega
     have hw1:IntKind.i64.wrap (c.inputs+(i:Int))=(ni:Int):=by rw [hni];exact IntWalk.i64_in _ (by omega)
     have HND:Hid (∀ _:Unit,needAt l (c.inputs+(i:Int))=l.getD ni false):=fun _=>by unfold needAt;rw [hni,Int.toNat_natCast]
     have hcell:wr.cell? ⟨w1.heap.size,ni,none⟩=some (.bool (l.getD ni false)):=by rw [RN.out.cell];exact bools_get l ni (by omega)
     obtain ⟨q,hq⟩:∃ q,l.getD ni false=q:=⟨_,rfl⟩
     have HQ9:=hiU hq
     rw [hq] at hcell HND
     have hbz:=RN.out.lt
     have HA:Hid (∀ _:Unit,2≤op→0≤x∧x < (NN:Int)):=fun _ h=>by have:=hha h;omega
     have HB2:Hid (∀ _:Unit,3≤op→0≤y∧y < (NN:Int)):=fun _ h=>by have:=hhb h;omega
     have HLL:=hiU hl
     have HOP3:=hiU hoz
     have hzz:operandsO op=0∨operandsO op=1∨operandsO op=2:=by have:=operandsO_bd op;omega
     clear hl hgo hop hha hhb hoz hNN2 hni hq hkc
     cases q
     ·have HS2:Hid (∀ _:Unit,needG c.inputs l i ⟨op,x,y⟩=l):=fun _=>by unfold needG;rw [HND.out (),if_neg (by decide)]
      have hsz:=RC.out.lt
      have hs9:=BW.out.size
      obtain ⟨k0,k1,k2,kl⟩:=RC.out.cells3
      go_wp2_with fail
      go_roundg (gn - (j+1))
      case measure=>omega
      case rel=>exact ⟨j+1,_,by omega,by omega,rfl,by omega,BW.out.alloc hs9 _,RC.out.alloc _,RR.out.alloc _,by rw [HST.out (),HS2.out ()];exact RN.out.alloc _⟩
     ·have HND:Hid (∀ _:Unit,needAt l (c.inputs+(i:Int))=true):=HND.out
      have HQ4:Hid (∀ _:Unit,l.getD ni false=true):=HQ9.out
      have hs9:=BW.out.size
      obtain ⟨k0,k1,k2,kl⟩:=RC.out.cells3
      go_upto_region 12 with fail
      clear k0 k1 k2 kl
      have RB4:Hid (Row (World.alloc wr (.cells #[.int .i64 op,.int .i64 x,.int .i64 y] 77)) wr.heap.size 77 [.int .i64 op,.int .i64 x,.int .i64 y]):=Row.new wr 77 [.int .i64 op,.int .i64 x,.int .i64 y]
      have RC4:Hid (Row (World.alloc wr (.cells #[.int .i64 op,.int .i64 x,.int .i64 y] 77)) w.heap.size 37 [.int .i64 c.inputs,.slice (some ad) gn gc,.slice OA on oc]):=RC.out.alloc _
      have RR4:Hid (Row (World.alloc wr (.cells #[.int .i64 op,.int .i64 x,.int .i64 y] 77)) (w.heap.size+1) 37 [.int .i64 0,.slice none 0 0,.slice none 0 0]):=RR.out.alloc _
      have RN4:Hid (Row (World.alloc wr (.cells #[.int .i64 op,.int .i64 x,.int .i64 y] 77)) w1.heap.size 4 (bools (l))):=RN.out.alloc _
      have BW4:Hid (Below w.heap.size w (World.alloc wr (.cells #[.int .i64 op,.int .i64 x,.int .i64 y] 77))):=BW.out.alloc hs9 _
      clear RC RR RN BW hcell c0 c1 c2
      revert RB4 RC4 RR4 RN4 BW4
      generalize (World.alloc wr (.cells #[.int .i64 op,.int .i64 x,.int .i64 y] 77))=w4
      intro RB4 RC4 RR4 RN4 BW4
      have hc4:w4.cell? ⟨w1.heap.size,ni,none⟩=some (.bool true):=by rw [RN4.out.cell,bools_get l ni (by rw [HLL.out ()];omega),HQ4.out ()]
      have HSTAY:Hid (∀ p:Nat,(l.set p true).getD ni false=true):=fun p=>by
       rw [List.getD_eq_getElem?_getD,List.getElem?_set]
       split
       ·rename_i e
        subst e
        rw [if_pos (by rw [HLL.out ()];omega)];rfl
       ·rw [← List.getD_eq_getElem?_getD];exact HQ4.out ()
      have hnl:=RN4.out.lt
      obtain ⟨p0,p1,p2,pl⟩:=RC4.out.cells3
      obtain ⟨k0,k1,k2,kl⟩:=RB4.out.cells3
      rcases hzz with hz | hz | hz
      ·have HOP:=hiU hz
       have HS2:Hid (∀ _:Unit,needG c.inputs l i ⟨op,x,y⟩=l):=fun _=>by unfold needG;rw [HND.out (),if_pos rfl];dsimp only;rw [if_neg (by rw [HOP.out ()];decide),if_neg (by rw [HOP.out ()];decide)]
       clear hz
       go_wp2_with fail
       have HC:=rOps_any op w4
       rw [HOP.out ()] at HC
       refine HC.mono ?_
       clear HC
       rintro e w5 ⟨rfl,rfl⟩
       go_wp2_with fail
       have HC:=rOps_any op w4
       rw [HOP.out ()] at HC
       refine HC.mono ?_
       clear HC
       rintro e w5 ⟨rfl,rfl⟩
       go_wp2_with fail
       go_roundg (gn - (j+1))
       case measure=>omega
       case rel=>exact ⟨j+1,_,by omega,by omega,rfl,by omega,BW4.out,RC4.out,RR4.out,by rw [HST.out (),HS2.out ()];exact RN4.out⟩
      ·have HOP:=hiU hz
       have h2:2≤op:=by have:=HOP3.out ();rw [hz] at this;split at this <;> (try split at this) <;> omega
       have hxx:=HA.out () h2
       obtain ⟨px,rfl⟩:∃ px:Nat,x=(px:Int):=⟨x.toNat,by omega⟩
       have hx1:(px:Int) < (NN:Int):=hxx.2
       have HS2:Hid (∀ _:Unit,needG c.inputs l i ⟨op,(px:Int),y⟩=l.set px true):=fun _=>by unfold needG;rw [HND.out (),if_pos rfl];dsimp only;rw [if_neg (by rw [HOP.out ()];decide),if_pos (HOP.out ())];unfold setT;rw [Int.toNat_natCast]
       have HS2:Hid (∀ _:Unit,bools (needG c.inputs l i ⟨op,(px:Int),y⟩)=(bools l).set px (.bool true)):=fun _=>by rw [HS2.out (),boolsZ_set]
       have cx:w4.cell? ⟨w1.heap.size,px,none⟩=some (.bool (l.getD px false)):=by rw [RN4.out.cell];exact bools_get l px (by rw [HLL.out ()];omega)
       have cxf:w4.frozen? ⟨w1.heap.size,px,none⟩=false:=RN4.out.frozen px
       have cxl:=RN4.out.lt
       clear hz hxx h2
       go_wp2_with fail
       have HC:=rOps_any op w4
       rw [HOP.out ()] at HC
       refine HC.mono ?_
       clear HC
       rintro e w5 ⟨rfl,rfl⟩
       go_upto_region 14 with fail
       have q0:(World.setCell w4 ⟨w1.heap.size,px,none⟩ (.bool true)).cell? ⟨wr.heap.size,0,none⟩=some (.int .i64 op):=(RB4.out.far (p:=⟨w1.heap.size,px,none⟩) (by show wr.heap.size≠w1.heap.size;omega) (.bool true)).cell 0
       have R9:Row (World.setCell w4 ⟨w1.heap.size,px,none⟩ (.bool true)) w.heap.size 37 [.int .i64 c.inputs,.slice (some ad) gn gc,.slice OA on oc]:=RC4.out.far (p:=⟨w1.heap.size,px,none⟩) (by show w.heap.size≠w1.heap.size;omega) (.bool true)
       have m0:=R9.cell 0
       have m1:=R9.cell 1
       have ml:=R9.lt
       have mn:w1.heap.size < ((World.setCell w4 ⟨w1.heap.size,px,none⟩ (.bool true))).heap.size:=by rw [World.size_setCell];exact hnl
       simp only [List.getElem?_cons_zero,List.getElem?_cons_succ] at m0 m1
       have m3:(World.setCell w4 ⟨w1.heap.size,px,none⟩ (.bool true)).cell? ⟨w1.heap.size,ni,none⟩=some (.bool true):=by
        have e9:=(RN4.out.set px (.bool true)).cell ni
        rw [e9,boolsZ_set,bools_get _ ni (by rw [List.length_set,HLL.out ()];omega),HSTAY.out]
       clear R9
       go_wp2_with fail
       have HC:=rOps_any op (World.setCell w4 ⟨w1.heap.size,px,none⟩ (.bool true))
       rw [HOP.out ()] at HC
       refine HC.mono ?_
       clear HC
       rintro e w5 ⟨rfl,rfl⟩
       go_wp2_with fail
       go_roundg (gn - (j+1))
       case measure=>omega
       case rel=>exact ⟨j+1,_,by omega,by omega,rfl,by omega,(Below.setCell BW4.out (p:=⟨w1.heap.size,px,none⟩) (by show w.heap.size≤w1.heap.size;omega) (.bool true)),(Row.far RC4.out (p:=⟨w1.heap.size,px,none⟩) (by show w.heap.size≠w1.heap.size;omega) (.bool true)),(Row.far RR4.out (p:=⟨w1.heap.size,px,none⟩) (by show w.heap.size+1≠w1.heap.size;omega) (.bool true)),by rw [HST.out (),HS2.out ()];exact (Row.set RN4.out px (.bool true))⟩
      ·have HOP:=hiU hz
       have h3:3≤op:=by have:=HOP3.out ();rw [hz] at this;split at this <;> (try split at this) <;> omega
       have hxx:=HA.out () (by omega)
       have hyy:=HB2.out () h3
       obtain ⟨px,rfl⟩:∃ px:Nat,x=(px:Int):=⟨x.toNat,by omega⟩
       obtain ⟨py,rfl⟩:∃ py:Nat,y=(py:Int):=⟨y.toNat,by omega⟩
       have hx1:(px:Int) < (NN:Int):=hxx.2
       have hy1:(py:Int) < (NN:Int):=hyy.2
       have HS2:Hid (∀ _:Unit,needG c.inputs l i ⟨op,(px:Int),(py:Int)⟩=(l.set px true).set py true):=fun _=>by unfold needG;rw [HND.out (),if_pos rfl];dsimp only;rw [if_pos (HOP.out ())];unfold setT;rw [Int.toNat_natCast,Int.toNat_natCast]
       have HS2:Hid (∀ _:Unit,bools (needG c.inputs l i ⟨op,(px:Int),(py:Int)⟩)=((bools l).set px (.bool true)).set py (.bool true)):=fun _=>by rw [HS2.out (),boolsZ_set,boolsZ_set]
       have cx:w4.cell? ⟨w1.heap.size,px,none⟩=some (.bool (l.getD px false)):=by rw [RN4.out.cell];exact bools_get l px (by rw [HLL.out ()];omega)
       have cxf:w4.frozen? ⟨w1.heap.size,px,none⟩=false:=RN4.out.frozen px
       have cxl:=RN4.out.lt
       clear hz hxx hyy h3
       go_wp2_with fail
       have HC:=rOps_any op w4
       rw [HOP.out ()] at HC
       refine HC.mono ?_
       clear HC
       rintro e w5 ⟨rfl,rfl⟩
       go_upto_region 14 with fail
       have R5:Row (World.setCell w4 ⟨w1.heap.size,px,none⟩ (.bool true)) wr.heap.size 77 [.int .i64 op,.int .i64 (px:Int),.int .i64 (py:Int)]:=RB4.out.far (p:=⟨w1.heap.size,px,none⟩) (by show wr.heap.size≠w1.heap.size;omega) (.bool true)
       have N5:Row (World.setCell w4 ⟨w1.heap.size,px,none⟩ (.bool true)) w1.heap.size 4 ((bools l).set px (.bool true)):=RN4.out.set px (.bool true)
       have q0:(World.setCell w4 ⟨w1.heap.size,px,none⟩ (.bool true)).cell? ⟨wr.heap.size,0,none⟩=some (.int .i64 op):=R5.cell 0
       have q2:(World.setCell w4 ⟨w1.heap.size,px,none⟩ (.bool true)).cell? ⟨wr.heap.size,2,none⟩=some (.int .i64 (py:Int)):=R5.cell 2
       have q3:(World.setCell w4 ⟨w1.heap.size,px,none⟩ (.bool true)).cell? ⟨w1.heap.size,py,none⟩=some (.bool ((l.set px true).getD py false)):=by rw [N5.cell,boolsZ_set];exact bools_get _ py (by rw [List.length_set,HLL.out ()];omega)
       have q4:(World.setCell w4 ⟨w1.heap.size,px,none⟩ (.bool true)).frozen? ⟨w1.heap.size,py,none⟩=false:=N5.frozen py
       clear R5 N5
       have R9:Row (World.setCell w4 ⟨w1.heap.size,px,none⟩ (.bool true)) w.heap.size 37 [.int .i64 c.inputs,.slice (some ad) gn gc,.slice OA on oc]:=RC4.out.far (p:=⟨w1.heap.size,px,none⟩) (by show w.heap.size≠w1.heap.size;omega) (.bool true)
       have m0:=R9.cell 0
       have m1:=R9.cell 1
       have ml:=R9.lt
       have mn:w1.heap.size < ((World.setCell w4 ⟨w1.heap.size,px,none⟩ (.bool true))).heap.size:=by rw [World.size_setCell];exact hnl
       simp only [List.getElem?_cons_zero,List.getElem?_cons_succ] at m0 m1
       have m3:(World.setCell w4 ⟨w1.heap.size,px,none⟩ (.bool true)).cell? ⟨w1.heap.size,ni,none⟩=some (.bool true):=by
        have e9:=(RN4.out.set px (.bool true)).cell ni
        rw [e9,boolsZ_set,bools_get _ ni (by rw [List.length_set,HLL.out ()];omega),HSTAY.out]
       clear R9
       go_wp2_with fail
       have HC:=rOps_any op (World.setCell w4 ⟨w1.heap.size,px,none⟩ (.bool true))
       rw [HOP.out ()] at HC
       refine HC.mono ?_
       clear HC
       rintro e w5 ⟨rfl,rfl⟩
       go_wp2_with fail
       go_roundg (gn - (j+1))
       case measure=>omega
       case rel=>exact ⟨j+1,_,by omega,by omega,rfl,by omega,(Below.setCell (Below.setCell BW4.out (p:=⟨w1.heap.size,px,none⟩) (by show w.heap.size≤w1.heap.size;omega) (.bool true)) (p:=⟨w1.heap.size,py,none⟩) (by show w.heap.size≤w1.heap.size;omega) (.bool true)),(Row.far (Row.far RC4.out (p:=⟨w1.heap.size,px,none⟩) (by show w.heap.size≠w1.heap.size;omega) (.bool true)) (p:=⟨w1.heap.size,py,none⟩) (by show w.heap.size≠w1.heap.size;omega) (.bool true)),(Row.far (Row.far RR4.out (p:=⟨w1.heap.size,px,none⟩) (by show w.heap.size+1≠w1.heap.size;omega) (.bool true)) (p:=⟨w1.heap.size,py,none⟩) (by show w.heap.size+1≠w1.heap.size;omega) (.bool true)),by rw [HST.out (),HS2.out ()];exact (Row.set (Row.set RN4.out px (.bool true)) py (.bool true))⟩
    ·have hlz:¬ (0:Int)≤z:=by omega
     have hd0:decide ((0:Int)≤z)=false:=decide_eq_false hlz
     obtain rfl:gn=j:=by omega
     have he0:needC c=needTo c gn:=by rw [needC,HGL.out ()]
     have RN3:Hid (Row wr w1.heap.size 4 (bools (needC c))):=(by show Row _ _ _ _;rw [he0];exact RN.out)
     have RC3:Hid (Row wr w.heap.size 37 [.int .i64 c.inputs,.slice GA gn gc,.slice OA on oc]):=RC.out
     have RR3:Hid (Row wr (w.heap.size+1) 37 [.int .i64 0,.slice none 0 0,.slice none 0 0]):=RR.out
     have BW3:Hid (Below w.heap.size w wr):=BW.out
     have hl3:(needC c).length=NN:=by rw [he0];exact HLT.out gn
     clear he0
     have HL3:=hiU hl3
     clear RC RR BW RN hgg HLT hl3 hz
     revert RN3 RC3 RR3 BW3
     generalize wr=w3
     intro RN3 RC3 RR3 BW3
     have RNA0:Hid (Row w3 w1.heap.size 4 (bools (needC c))):=RN3
     have HNL:Hid (w1.heap.size < w3.heap.size):=RN3.out.lt
     have RRA:Hid (Row w3 (w.heap.size+1) 37 [.int .i64 0,.slice none 0 0,.slice none 0 0]):=RR3
     have RCA:Hid (Row w3 w.heap.size 37 [.int .i64 c.inputs,.slice GA gn gc,.slice OA on oc]):=RC3
     have BWA:Hid (Below w.heap.size w w3):=BW3
     have hsA:w.heap.size+1 < w3.heap.size:=RR3.out.lt
     clear RN3 RC3 RR3 BW3
     generalize w1.heap.size=nb at RNA0 HNL
     revert RNA0 HNL RRA RCA BWA hsA
     generalize w3=wA
     intro RRA RCA BWA hsA RNA0 HNL
     obtain ⟨k0,k1,k2,kl⟩:=RCA.out.cells3
     go_wp2_with fail
     clear k0 k1 k2 kl
     refine (rCop_any c.inputs GA OA gn gc on oc wA ⟨hn0,hn1⟩ hg0 (c.inputs.toNat+gn) (by omega)).mono ?_
     rintro e wB ⟨TA,tc,rfl,hown,hb⟩
     have HA2:Hid (ASt wB wA.heap.size TA tc (c.inputs.toNat+gn) (idW (c.inputs.toNat+gn))):=hown
     have HB2:Hid (Below wA.heap.size wA wB):=hb
     clear hown hb
     go_upto_region 17 with fail
     have OS0:Hid (OSt (World.alloc wB (.cells #[.int .i64 c.inputs,.slice none 0 0,.slice none 0 0] 37)) wA.heap.size wB.heap.size c.inputs [] (.slice none 0 0)):=⟨.slice none 0 0,Row.new wB 37 [.int .i64 c.inputs,.slice none 0 0,.slice none 0 0],World.ownsRow_nil _ _ _ _,HB2.out.size⟩
     have AS0:Hid (ASt (World.alloc wB (.cells #[.int .i64 c.inputs,.slice none 0 0,.slice none 0 0] 37)) wA.heap.size TA tc (c.inputs.toNat+gn) (idW (c.inputs.toNat+gn))):=HA2.out.below ((Below.refl _ _).alloc (Nat.le_refl _) _)
     have BX3:Hid (Below wA.heap.size wA (World.alloc wB (.cells #[.int .i64 c.inputs,.slice none 0 0,.slice none 0 0] 37))):=HB2.out.alloc HB2.out.size _
     have hob:wA.heap.size≤wB.heap.size:=HB2.out.size
     clear HA2 HB2
     revert OS0 AS0 BX3 hob
     generalize (World.alloc wB (.cells #[.int .i64 c.inputs,.slice none 0 0,.slice none 0 0] 37))=wC
     generalize wB.heap.size=ob
     intro OS0 AS0 BX3 hob
     go_wp2_with fail
     go_loopg [9] gn (fun gg s9 wr=>∃ k:Nat,k≤gn∧gn - k≤gg∧s9=.int .i64 k∧ob < wr.heap.size∧Aside (Below wA.heap.size wA wr)∧Aside (OSt wr wA.heap.size ob c.inputs (rTrimTo c k).gates (.slice none 0 0))∧Aside (ASt wr wA.heap.size TA tc (c.inputs.toNat+gn) (aliasL (rTrimTo c k) c.inputs k (gn - k))))
     case atStart=>
      refine ⟨0,Nat.zero_le _,by omega,rfl,OS0.out.blk.1,BX3.out,OS0.out,?_⟩
      show ASt _ _ _ _ _ (aliasL (startW c.inputs) c.inputs 0 gn)
      rw [alias_start _ hn0];exact AS0.out
     case round=>
      clear OS0 AS0 BX3
      obtain ⟨k,hk,hgg,rfl,hsz,BX,OS,AS⟩:=hrel
      have BW:=hiD (below_on2 BWA.out BX.out)
      have RCn:=hiD (rowCells RCA.out BX.out)
      have hszr:=BX.out.size
      by_cases hlt:k < gn
      ·have hlz:(k:Int) < (gn:Int):=by omega
       have hkc:k < c.gates.length:=by rw [HGL.out ()];exact hlt
       obtain ⟨ad,rfl,hab,c0,c1,c2⟩:=(HC0.out.up BWA.out).gates.gate hlt
       obtain ⟨l1,l2⟩:=rTrimTo_len c k
       have hgo:=gateAt_ok HR.out hkc
       obtain ⟨g1,g2⟩:=gate_ok_ops hgo
       have hNN2:=HNN.out ()
       obtain ⟨ni,hni⟩:∃ ni:Nat,c.inputs.toNat+k=ni:=⟨_,rfl⟩
       have hni2:c.inputs+(k:Int)=(ni:Int):=by omega
       have hni1:(ni:Int) < (NN:Int):=by omega
       have hni3:(ni:Int) < ((c.inputs.toNat+gn:Nat):Int):=by omega
       have hw1:IntKind.i64.wrap (c.inputs+(k:Int))=(ni:Int):=by rw [hni2];exact IntWalk.i64_in _ (by omega)
       have RNn:=hiD (rowCells RNA0.out BX.out)
       have hcell:wr.cell? ⟨nb,ni,none⟩=some (.bool ((needC c).getD ni false)):=by rw [RNn.out.cell];exact bools_get _ ni (by rw [HL3.out ()];omega)
       have hbz:=RNn.out.lt
       have HND:Hid (∀ _:Unit,ndg c k=(needC c).getD ni false):=fun _=>by unfold ndg needAt;rw [hni2,Int.toNat_natCast]
       obtain ⟨q,hq⟩:∃ q,(needC c).getD ni false=q:=⟨_,rfl⟩
       rw [hq] at hcell HND
       have HNI:=hiU hni
       have hal:=alias_rtrim (c:=c) k (gn - (k+1))
       have hgk:gn - (k+1)+1=gn - k:=by omega
       have hst:rTrimTo c (k+1)=if ndg c k=true then addW c.inputs (rTrimTo c k) (moveG (rTrimTo c k).to (gateAt c k),-1) else ⟨(rTrimTo c k).gates,(rTrimTo c k).to ++ [c.inputs+(k:Int)]⟩:=rfl
       have hmv:=rtrim_move HR.out hkc (gn - k) (c.inputs+((rTrimTo c k).gates.length:Int))
       rw [hgk] at hal
       rw [hni] at hal hmv
       change wA.cell? _=some (.int .i64 (gateAt c k).op) at c0
       change wA.cell? _=some (.int .i64 (gateAt c k).a) at c1
       change wA.cell? _=some (.int .i64 (gateAt c k).b) at c2
       generalize gateAt c k=g at c0 c1 c2 hgo g1 g2 hst hmv
       generalize rTrimTo c k=s at OS AS l1 l2 hst hmv hal
       have HGA:Hid ((1≤operandsO g.op→0≤g.a∧g.a < ((c.inputs.toNat+gn:Nat):Int))∧(operandsO g.op=2→0≤g.b∧g.b < ((c.inputs.toNat+gn:Nat):Int))):=⟨fun q=>by have:=g1 q;omega,fun q=>by have:=g2 q;omega⟩
       have hgl:s.gates.length≤20000:=by omega
       have HCELL:Hid (∀ W9,Below wA.heap.size wA W9→W9.cell? (ad.add (k * 3))=some (.int .i64 g.op)∧W9.cell? ⟨(ad.add (k * 3)).block,(ad.add (k * 3)).off+1,none⟩=some (.int .i64 g.a)∧W9.cell? ⟨(ad.add (k * 3)).block,(ad.add (k * 3)).off+2,none⟩=some (.int .i64 g.b)):=fun W9 h9=>⟨(h9.cell (by rw [add_block];exact hab)).trans c0,(h9.cell (by show (ad.add (k * 3)).block < _;rw [add_block];exact hab)).trans c1,(h9.cell (by show (ad.add (k * 3)).block < _;rw [add_block];exact hab)).trans c2⟩
       cases q
       ·have hn:¬ ndg c k=true:=by rw [HND.out ()];decide
        rw [if_neg hn] at hst hal
        have HGT:Hid (∀ _:Unit,(rTrimTo c (k+1)).gates=s.gates):=fun _=>by rw [hst]
        have HAN:=hiU hal
        clear l1 l2 hgo g1 g2 hst hal hmv hgk hkc hNN2 hni hni2 hq c0 c1 c2 hab hn
        obtain ⟨k0,k1,k2,kl⟩:=RCn.out.cells3
        go_wp2_with fail
        go_roundg (gn - (k+1))
        case measure=>omega
        case rel=>exact ⟨k+1,by omega,by omega,by go_num,hsz,BX.out,by rw [HGT.out ()];exact OS.out,by rw [HAN.out ()];exact AS.out⟩
       ·have hn:ndg c k=true:=HND.out ()
        rw [if_pos hn] at hst hal
        obtain ⟨h,hh⟩:∃ h,moveG s.to g=h:=⟨_,rfl⟩
        rw [hh] at hst hmv
        obtain ⟨op,x,y⟩:=h
        have HGT:Hid (∀ _:Unit,(rTrimTo c (k+1)).gates=s.gates ++ [⟨op,x,y⟩]):=fun _=>by rw [hst];rfl
        have HAN:=hiU hal
        have HMV:Hid (∀ _:Unit,moveG (aliasL (rTrimTo c (k+1)) c.inputs (k+1) (gn - (k+1))) g=⟨op,x,y⟩):=fun _=>by rw [hal];exact hmv
        obtain ⟨KA,kc,hro,hog⟩:=OS.out.op
        have ROr:Hid (Row wr ob 37 [.int .i64 c.inputs,.slice KA s.gates.length kc,.slice none 0 0]):=hro
        clear l1 l2 hgo g1 g2 hst hal hmv hgk hkc hNN2 hni2 hq c0 c1 c2 hab hn hh hro hog
        obtain ⟨ga,rfl,hga,hgb,hc1,hf1,hput⟩:=AS.out.put (i:=c.inputs.toNat+k) (by omega)
        obtain ⟨as7,os7,rw7,bx7⟩:=hput (c.inputs+(s.gates.length:Int))
        rw [hni] at hc1 hf1 as7
        have AS7:Hid (ASt (World.setCell wr ⟨ga,ni,none⟩ (.int .i64 (c.inputs+(s.gates.length:Int)))) wA.heap.size (some ⟨ga,0,none⟩) tc (c.inputs.toNat+gn) (aliasL (rTrimTo c (k+1)) c.inputs (k+1) (gn - (k+1)))):=(by show ASt _ _ _ _ _ _;rw [HAN.out ()];exact as7)
        have OS7:Hid (OSt (World.setCell wr ⟨ga,ni,none⟩ (.int .i64 (c.inputs+(s.gates.length:Int)))) wA.heap.size ob c.inputs s.gates (.slice none 0 0)):=(by show OSt _ _ _ _ _ _;rw [← hni];exact os7 _ _ _ _ OS.out)
        have BX7:Hid (Below wA.heap.size wA (World.setCell wr ⟨ga,ni,none⟩ (.int .i64 (c.inputs+(s.gates.length:Int))))):=(by show Below _ _ _;rw [← hni];exact bx7 _ BX.out)
        clear as7 os7 rw7 bx7 hput hni
        obtain ⟨k0,k1,k2,kl⟩:=RCn.out.cells3
        obtain ⟨o0,o1,o2,ol⟩:=ROr.out.cells3
        go_upto_region 22 with fail
        clear k0 k1 k2 kl o0 o1 o2 ol hc1 hf1 hcell ROr OS AS BX RCn RNn BW hbz hga
        revert AS7 OS7 BX7
        generalize (World.setCell wr ⟨ga,ni,none⟩ (.int .i64 (c.inputs+(s.gates.length:Int))))=w6
        intro AS7 OS7 BX7
        obtain ⟨KB,kc,hro,hog⟩:=OS7.out.op
        have RO6:Hid (Row w6 ob 37 [.int .i64 c.inputs,.slice KB s.gates.length kc,.slice none 0 0]):=hro
        have OG6:Hid (World.ownsRow w6 wA.heap.size 77 3 (.slice KB s.gates.length kc) s.gates.length (gatesCells s.gates)):=hog
        have RC6:=hiD (rowCells RCA.out BX7.out)
        clear hro hog OS7
        refine wp_region_L (fun w'=>Row w' w.heap.size 37 [.int .i64 c.inputs,.slice (some ad) gn gc,.slice OA on oc]∧Row w' ob 37 [.int .i64 c.inputs,.slice KB s.gates.length kc,.slice none 0 0]∧w'.cell? (ad.add (k * 3))=some (.int .i64 g.op)∧w'.cell? ⟨(ad.add (k * 3)).block,(ad.add (k * 3)).off+1,none⟩=some (.int .i64 g.a)∧w'.cell? ⟨(ad.add (k * 3)).block,(ad.add (k * 3)).off+2,none⟩=some (.int .i64 g.b)) [10,11,12] (by kernel_rfl) (by exact ⟨RC6.out.drew,RO6.out.drew,HCELL.out _ BX7.out.drew⟩) (fun hHeld=>?_)
        have RCd:Hid (Row (World.drew w6) w.heap.size 37 [.int .i64 c.inputs,.slice (some ad) gn gc,.slice OA on oc]):=RC6.out.drew
        have ROd:Hid (Row (World.drew w6) ob 37 [.int .i64 c.inputs,.slice KB s.gates.length kc,.slice none 0 0]):=RO6.out.drew
        have OGd:Hid (World.ownsRow (World.drew w6) wA.heap.size 77 3 (.slice KB s.gates.length kc) s.gates.length (gatesCells s.gates)):=OG6.out
        have ASd:Hid (ASt (World.drew w6) wA.heap.size (some ⟨ga,0,none⟩) tc (c.inputs.toNat+gn) (aliasL (rTrimTo c (k+1)) c.inputs (k+1) (gn - (k+1)))):=AS7.out
        have BXd:Hid (Below wA.heap.size wA (World.drew w6)):=BX7.out.drew
        clear RC6 RO6 OG6 AS7 BX7
        revert hHeld RCd ROd OGd ASd BXd
        generalize (World.drew w6)=wq
        intro hHeld RCd ROd OGd ASd BXd
        refine lPureW 0 ?va1 rfl (by rfl) ?ya1 ?ra1
        case ya1=>intro w' hSw;clear hSw;go_simp;try (with_reducible rfl)
        go_simp
        refine lPureW 2 ?va2 rfl (by rfl) ?ya2 ?ra2
        case ya2=>intro w' hSw;clear hSw;go_simp;try (with_reducible rfl)
        go_simp
        refine lPureW 4 ?va3 rfl (by rfl) ?ya3 ?ra3
        case ya3=>intro w' hSw;clear hSw;go_simp;try (with_reducible rfl)
        go_simp
        refine lPureW 7 ?va4 rfl (by rfl) ?ya4 ?ra4
        case ya4=>intro w' hSw;clear hSw;go_simp;try (with_reducible rfl)
        go_simp
        refine lTakeW 1 ?va5 [[10],[11],[12]] rfl (by rfl) ?ya5 hHeld ?ra5
        case ya5=>
         intro w' hSw
         have hS1:Hid (Row w' w.heap.size 37 [.int .i64 c.inputs,.slice (some ad) gn gc,.slice OA on oc]):=hSw.1
         have hS2:Hid (Row w' ob 37 [.int .i64 c.inputs,.slice KB s.gates.length kc,.slice none 0 0]):=hSw.2.1
         obtain ⟨c0,c1,c2⟩:=hSw.2.2
         clear hSw
         obtain ⟨u0,u1,u2,ul⟩:=hS1.out.cells3
         obtain ⟨v0,v1,v2,vl⟩:=hS2.out.cells3
         go_simp
         try (with_reducible rfl)
        go_simp
        refine lTakeW 3 ?va6 [[10,8,6,5],[11],[12]] rfl (by rfl) ?ya6 hHeld ?ra6
        case ya6=>
         intro w' hSw
         have hS1:Hid (Row w' w.heap.size 37 [.int .i64 c.inputs,.slice (some ad) gn gc,.slice OA on oc]):=hSw.1
         have hS2:Hid (Row w' ob 37 [.int .i64 c.inputs,.slice KB s.gates.length kc,.slice none 0 0]):=hSw.2.1
         obtain ⟨c0,c1,c2⟩:=hSw.2.2
         clear hSw
         obtain ⟨u0,u1,u2,ul⟩:=hS1.out.cells3
         obtain ⟨v0,v1,v2,vl⟩:=hS2.out.cells3
         go_simp
         try (with_reducible rfl)
        go_simp
        refine lTakeW 5 ?va7 [[10,8,6],[11],[12]] rfl (by rfl) ?ya7 hHeld ?ra7
        case ya7=>
         intro w' hSw
         have hS1:Hid (Row w' w.heap.size 37 [.int .i64 c.inputs,.slice (some ad) gn gc,.slice OA on oc]):=hSw.1
         have hS2:Hid (Row w' ob 37 [.int .i64 c.inputs,.slice KB s.gates.length kc,.slice none 0 0]):=hSw.2.1
         obtain ⟨c0,c1,c2⟩:=hSw.2.2
         clear hSw
         obtain ⟨u0,u1,u2,ul⟩:=hS1.out.cells3
         obtain ⟨v0,v1,v2,vl⟩:=hS2.out.cells3
         go_simp
         try (with_reducible rfl)
        go_simp
        refine lTakeW 6 ?va8 [[10,8],[11],[12]] rfl (by rfl) ?ya8 hHeld ?ra8
        case ya8=>
         intro w' hSw
         have hS1:Hid (Row w' w.heap.size 37 [.int .i64 c.inputs,.slice (some ad) gn gc,.slice OA on oc]):=hSw.1
         have hS2:Hid (Row w' ob 37 [.int .i64 c.inputs,.slice KB s.gates.length kc,.slice none 0 0]):=hSw.2.1
         obtain ⟨c0,c1,c2⟩:=hSw.2.2
         clear hSw
         obtain ⟨u0,u1,u2,ul⟩:=hS1.out.cells3
         obtain ⟨v0,v1,v2,vl⟩:=hS2.out.cells3
         go_simp
         try (with_reducible rfl)
        go_simp
        refine restL_one (i:=8) (by kernel_rfl) rfl (fun K hK=>?_)
        go_simp
        go_at_call 97
        have HC:=rRepl_any g (aliasL (rTrimTo c (k+1)) c.inputs (k+1) (gn - (k+1))) (some ⟨ga,0,none⟩) (c.inputs.toNat+gn) tc wq ASd.out.rd (by omega) HGA.out.1 HGA.out.2
        rw [HMV.out ()] at HC
        refine HC.mono ?_
        clear HC
        rintro e w7 ⟨rfl,hb⟩
        have RC7:=hiD (rowCells RCd.out hb)
        have RO7:=hiD (rowCells ROd.out hb)
        have OG7:Hid (World.ownsRow w7 wA.heap.size 77 3 (.slice KB s.gates.length kc) s.gates.length (gatesCells s.gates)):=own_below OGd.out hb (Nat.le_refl _)
        have AS7:Hid (ASt w7 wA.heap.size (some ⟨ga,0,none⟩) tc (c.inputs.toNat+gn) (aliasL (rTrimTo c (k+1)) c.inputs (k+1) (gn - (k+1)))):=own_below ASd.out hb (Nat.le_refl _)
        have BX7:=hiD (below_on2 BXd.out hb)
        clear hb RCd ROd OGd ASd BXd hHeld
        refine hK.out _ _ (fun _=>?keep) (fun hHeld=>?_)
        case keep=>exact ⟨RC7.out,RO7.out,HCELL.out _ BX7.out⟩
        have hHeld:=hHeld rfl
        clear hK K
        try go_simp
        refine restL_one (i:=9) (by kernel_rfl) rfl (fun K hK=>?_)
        go_simp
        refine hK.out _ _ (fun _=>?keep) (fun hHeld=>?_)
        case keep=>exact ⟨RC7.out.alloc _,RO7.out.alloc _,HCELL.out _ (BX7.out.alloc BX7.out.size _)⟩
        have hHeld:=hHeld rfl
        clear hK K
        try go_simp
        refine restL_one (i:=10) (by kernel_rfl) rfl (fun K hK=>?_)
        have hs7:=BX7.out.size
        refine step_app rfl (.tmp 114) (.tmp 122) 34 rfl wA.heap.size 77 (.agg #[.int .i64 0,.int .i64 0,.int .i64 0]) 3 24 Try.underlying34 gate_infoZ rfl (by decide) (by decide) (.slice KB s.gates.length kc) s.gates.length (gatesCells s.gates) rfl ?own (w7.heap.size+1) (some ⟨w7.heap.size,0,none⟩) 1 1 [.int .i64 op,.int .i64 x,.int .i64 y] rfl ?rd ?one ?hb ?hbase ?_
        case own=>exact OG7.out.alloc _
        case rd=>exact Rd.lit w7 #[.int .i64 op,.int .i64 x,.int .i64 y] 77 (sz:=3) (m:=1) rfl
        case one=>first | exact gate_oneZ _ _ _ | exact ⟨rfl,rfl,rfl⟩
        case hb=>omega
        case hbase=>first | (simp;omega) | omega
        intro v' w5 hown' hgrow' hat'
        obtain ⟨VA,vc,rfl,_⟩:=Rd.own hown'
        obtain ⟨r1,os6,as6,bx6⟩:=OSt.push (g:=⟨op,x,y⟩) (RO7.out.alloc _) (OG7.out.alloc _) (World.ownsRow.alloc AS7.out _) hob rfl (by simp;omega) hgrow' hown' (BX7.out.alloc hs7 _)
        have q1:=r1.cell 1
        have qf:=r1.frozen 1
        have ql:=r1.lt
        simp only [List.getElem?_cons_zero,List.getElem?_cons_succ] at q1
        have OS6:Hid (OSt (w5.setCell ⟨ob,1,none⟩ (.slice VA (s.gates.length+1) vc)) wA.heap.size ob c.inputs (rTrimTo c (k+1)).gates (.slice none 0 0)):=(by show OSt _ _ _ _ _ _;rw [HGT.out ()];exact os6)
        have AS6:=(show Hid (ASt _ _ _ _ _ _) from as6)
        have BX6:Hid (Below wA.heap.size wA (w5.setCell ⟨ob,1,none⟩ (.slice VA (s.gates.length+1) vc))):=bx6
        clear hown' hgrow' hat' os6 as6 bx6 r1 RC7 RO7 OG7 AS7 BX7 hHeld
        refine hK.out _ _ (fun h=>absurd h (by decide)) (fun _=>?_)
        clear hK K
        try go_simp
        refine lPureW 11 ?va9 rfl (by rfl) ?ya9 ?ra9
        case ya9=>intro w' hSw;clear hSw;go_simp;try (with_reducible rfl)
        go_simp
        refine restL_one (i:=12) (by kernel_rfl) rfl (fun K hK=>?_)
        go_simp
        refine hK.out _ _ (fun h=>absurd h (by decide)) (fun _=>?_)
        clear hK K
        try go_simp
        refine restL_done (by kernel_rfl) ?_ _
        go_wp2_with fail
        go_roundg (gn - (k+1))
        case measure=>omega
        case rel=>exact ⟨k+1,by omega,by omega,by go_num,OS6.out.blk.1,BX6.out,OS6.out,AS6.out⟩
      ·have hlz:¬ (k:Int) < (gn:Int):=by omega
       obtain rfl:gn=k:=by omega
       obtain ⟨l1,l2⟩:=rTrimTo_len c gn
       have HV:Hid (∀ _:Unit,trimC c=doneW c (rTrimTo c gn)):=fun _=>by rw [rTrimC_eq HR.out,HGL.out ()]
       generalize rTrimTo c gn=s at OS AS l1 l2 HV
       have HOB:Hid (∀ i,i < c.outs.length→0≤c.outs.getD i 0∧c.outs.getD i 0 < ((c.inputs.toNat+gn:Nat):Int)):=fun i hi=>by
        have:=outOk_at (rightC_parts HR.out).2.2 hi
        rw [HGL.out ()] at this
        omega
       have AS2:Hid (ASt wr wA.heap.size TA tc (c.inputs.toNat+gn) s.to):=(by show ASt _ _ _ _ _ _;have e:=alias_end (s:=s) (n:=c.inputs) (k:=gn);rw [Nat.sub_self,e] at AS;exact AS.out)
       obtain ⟨KA,kc,hro,hog⟩:=OS.out.op
       obtain ⟨rn,hrn⟩:∃ rn,s.gates.length=rn:=⟨_,rfl⟩
       rw [hrn] at hro hog l1
       clear hrn
       have ROr:Hid (Row wr ob 37 [.int .i64 c.inputs,.slice KA rn kc,.slice none 0 0]):=hro
       have OGr:Hid (World.ownsRow wr wA.heap.size 77 3 (.slice KA rn kc) rn (gatesCells s.gates)):=hog
       clear hro hog OS AS
       obtain ⟨k0,k1,k2,kl⟩:=RCn.out.cells3
       obtain ⟨o0,o1,o2,ol⟩:=ROr.out.cells3
       have of2:=ROr.out.frozen 2
       go_wp2_with fail
       have HC:=rOuts_any c.outs s.to OA TA on oc (c.inputs.toNat+gn) tc wr (HC0.out.up BW.out).outs AS2.out.rd (by omega) (by omega) HOB.out
       refine HC.mono ?_
       clear HC
       rintro e w4 ⟨OB,pc,rfl,hrd,hfr,hb⟩
       have RO4:=hiD (rowCells ROr.out hb)
       have RR4:Hid (Row w4 (w.heap.size+1) 37 [.int .i64 0,.slice none 0 0,.slice none 0 0]):=rowCells RRA.out (below_on2 BX.out hb)
       have OG4:Hid (World.ownsRow w4 wA.heap.size 77 3 (.slice KA rn kc) rn (gatesCells s.gates)):=own_below OGr.out hb (Nat.le_refl _)
       have HRO:Hid (Rd w4 w4.heap.size 1 OB on (ints (c.outs.map (toAt s.to)))):=hrd
       have HFO:Hid (CFrom OB on wr.heap.size):=hfr
       have BW4:=hiD (below_on2 BW.out hb)
       clear hrd hfr hb k0 k1 k2 kl o0 o1 o2 ol of2 ROr OGr RCn
       obtain ⟨o0,o1,o2,ol⟩:=RO4.out.cells3
       obtain ⟨of0,of1,of2⟩:=RO4.out.froz3
       go_upto_region 24 with fail
       have RO5:Hid (Row (World.setCell w4 ⟨ob,2,none⟩ (.slice OB on pc)) ob 37 [.int .i64 c.inputs,.slice KA rn kc,.slice OB on pc]):=RO4.out.set 2 _
       have RR5:Hid (Row (World.setCell w4 ⟨ob,2,none⟩ (.slice OB on pc)) (w.heap.size+1) 37 [.int .i64 0,.slice none 0 0,.slice none 0 0]):=RR4.out.far (p:=⟨ob,2,none⟩) (by show w.heap.size+1≠ob;omega) _
       have BW5:Hid (Below w.heap.size w (World.setCell w4 ⟨ob,2,none⟩ (.slice OB on pc))):=BW4.out.setCell (p:=⟨ob,2,none⟩) (by show w.heap.size≤ob;omega) _
       have OG5:Hid (World.ownsRow (World.setCell w4 ⟨ob,2,none⟩ (.slice OB on pc)) wA.heap.size 77 3 (.slice KA rn kc) rn (gatesCells s.gates)):=own_set (p:=⟨ob,2,none⟩) OG4.out RO4.out (by decide) _
       have HR5:Hid (Rd (World.setCell w4 ⟨ob,2,none⟩ (.slice OB on pc)) (World.setCell w4 ⟨ob,2,none⟩ (.slice OB on pc)).heap.size 1 OB on (ints (c.outs.map (toAt s.to)))):=(by
        show Rd _ _ _ _ _ _
        rw [World.size_setCell]
        exact HRO.out.farSet (p:=⟨ob,2,none⟩) (HFO.out.ne (by show ob < _;omega)) _)
       clear RO4 RR4 BW4 OG4 HRO o0 o1 o2 ol of0 of1 of2
       revert RO5 RR5 BW5 OG5 HR5
       generalize (World.setCell w4 ⟨ob,2,none⟩ (.slice OB on pc))=w5
       intro RO5 RR5 BW5 OG5 HR5
       have HF1:Hid (CFrom KA rn wA.heap.size):=own_from OG5.out
       have HF2:Hid (CFrom OB on wA.heap.size):=HFO.out.mono (by omega)
       have HCA:Hid (CAt w5 (trimC c) KA OB rn on):=(by
        show CAt _ _ _ _ _ _
        rw [HV.out ()]
        exact ⟨Rd.of_own OG5.out,HR5.out,by unfold maxLen;omega,by unfold maxLen;omega⟩)
       clear OG5 HR5 HFO
       obtain ⟨o0,o1,o2,ol⟩:=RO5.out.cells3
       obtain ⟨z0,z1,z2,zl⟩:=RR5.out.cells3
       obtain ⟨zf0,zf1,zf2⟩:=RR5.out.froz3
       go_wp2
       have Z9:=RR5.out.set3 (.int .i64 c.inputs) (.slice KA rn kc) (.slice OB on pc)
       have B9:=bSet3 BW5.out (w.heap.size+1) (by show _≤(w.heap.size+1);omega) (.int .i64 c.inputs) (.slice KA rn kc) (.slice OB on pc)
       obtain ⟨d0,d1,d2,-⟩:=Z9.cells3
       clear Z9
       refine bodyPost_ret (v:=.agg #[.int .i64 c.inputs,.slice KA rn kc,.slice OB on pc]) (by simp [results,Try.results63,go_sem,d0,d1,d2]) rfl ?_
       have HIN:(trimC c).inputs=c.inputs:=by rw [HV.out ()];rfl
       exact ⟨KA,OB,rn,kc,on,pc,by rw [HIN],(CAt.farSet (CAt.farSet (CAt.farSet HCA.out (p:=⟨(w.heap.size+1),0,none⟩) (HF1.out.ne (by show (w.heap.size+1) < _;omega)) (HF2.out.ne (by show (w.heap.size+1) < _;omega)) (.int .i64 c.inputs)) (p:=⟨(w.heap.size+1),1,none⟩) (HF1.out.ne (by show (w.heap.size+1) < _;omega)) (HF2.out.ne (by show (w.heap.size+1) < _;omega)) (.slice KA rn kc)) (p:=⟨(w.heap.size+1),2,none⟩) (HF1.out.ne (by show (w.heap.size+1) < _;omega)) (HF2.out.ne (by show (w.heap.size+1) < _;omega)) (.slice OB on pc)),HF1.out.mono (by omega),HF2.out.mono (by omega),B9⟩
end Go.Proofs.Ytiemhbogbaamlaa
