/-
  Lemmas for the law TopCircuits.
-/
import Derived.Test.YtbijfnbelkbofaaGreatDoorJZ7
import Derived.Test.YtbijfnbelkbofaaGreatDoorJZ9
import Derived.Test.YtbijfnbelkbofaaGreatDoorJZ2
set_option linter.unusedSimpArgs false
set_option linter.unusedVariables false
namespace Go.Proofs.YtbijfnbelkbofaaGreatDoor
open Go.RowKit
theorem bool_infoZ:(Tryz.prog.info? 4).map (fun i=>(i.zero,i.size,i.bytes))=some (some (.bool false),1,1):=by kernel_rfl
theorem boolsZ_set (l:List Bool) (i:Nat):(bools l).set i (.bool true)=bools (l.set i true):=by simp [bools,List.map_set]
theorem falseRow (w:World) (n:Nat) (T:TypeId):Row (w.alloc (.cells (likeRow (.bool false) n) T)) w.heap.size T (bools (List.replicate n false)):=by
 have h:=Row.new w T (List.replicate n (Value.bool false));have e:bools (List.replicate n false)=List.replicate n (Value.bool false):=by simp [bools]
 rw [e];exact h
theorem wk_pad {B b:Nat} {n:Int} {s:Wk} {w6 w5:World} {gv v':Value} {TA:Option Addr} {tc:Nat} {o:Obj} (R6:Row w6 b 144 [.int .i64 n,gv,.slice TA s.tq.length tc]) (O6:World.ownsRow w6 B 135 3 gv s.gates.length (gatesCells s.gates)) (T6:World.ownsRow w6 B 3 1 (.slice TA s.tq.length tc) s.tq.length (ints s.tq)) (hBb:B≤b) (hs6:B≤w6.heap.size)
 (hown':World.ownsRow w5 B 3 1 v' (s.tq.length+1) (ints s.tq ++ [.int .i64 0])) (hgrow':(w6.alloc o).grownBy w5 (Value.slice TA s.tq.length tc).ownBlock):
 Row w5 b 144 [.int .i64 n,gv,.slice TA s.tq.length tc]∧WkAt (w5.setCell ⟨b,2,none⟩ v') B b n ⟨s.gates,s.tq ++ [0]⟩∧WFr B w6 (w5.setCell ⟨b,2,none⟩ v'):=by
 have R5:Row w5 b 144 [.int .i64 n,gv,.slice TA s.tq.length tc]:=(R6.alloc _).grown hgrow' (fun e=>own_ne_row T6 R6 (by decide) e.symm);have O5:World.ownsRow w5 B 135 3 gv s.gates.length (gatesCells s.gates):=own_grown (O6.alloc _) hgrow' (fun k hk e=>(own_ne_own O6 T6 (by decide)).elim (fun h=>by rw [h] at hk;cases hk) (fun h=>h (hk.trans e.symm)));have F5:WFr B w6 w5:=WFr.grown ((WFr.refl B w6).alloc hs6 _) (T6.alloc _) (.inr rfl) (Nat.le_refl _) (by simp;omega) hgrow';have e:ints (s.tq ++ [0])=ints s.tq ++ [.int .i64 0]:=by simp [ints]
 refine ⟨R5,⟨gv,v',R5.set 2 v',own_set (p:=⟨b,2,none⟩) O5 R5 (by decide) _,?_,hBb⟩,WFr.set (p:=⟨b,2,none⟩) F5 R5 hBb _⟩;show World.ownsRow _ B _ 1 v' (s.tq ++ [(0:Int)]).length (ints (s.tq ++ [0]));rw [List.length_append,List.length_singleton,e];exact own_set (p:=⟨b,2,none⟩) hown' R5 (by decide) _
set_option maxRecDepth 100000 in
set_option maxHeartbeats 8000000 in
theorem ztrim_any (c:Circ) (GA OA:Option Addr) (gn gc on oc:Nat) (w:World) (hc:CAt w c GA OA gn on):
 Calls Tryz.prog 33 #[.agg #[.int .i64 c.inputs,.slice GA gn gc,.slice OA on oc]] w (CiPost (trimC c) w.heap.size w):=by
 have HC0:Hid (CAt w c GA OA gn on):=hc;have HGL:Hid (∀ _:Unit,c.gates.length=gn):=fun _=>hc.gl
 have HOL:Hid (∀ _:Unit,c.outs.length=on):=fun _=>hc.ol
 clear hc;go_enter Tryz.func33,Tryz.ntmps33;go_wp2_with fail;obtain ⟨wa,hW9,RC,RR,hgr9⟩:=laid2 w [.int .i64 c.inputs,.slice GA gn gc,.slice OA on oc] 36 [.int .i64 0,.slice none 0 0,.slice none 0 0] 36;rewrite [hW9];clear hW9;have B_w:=hiD hgr9;clear hgr9;have hwa:w.heap.size+1 < wa.heap.size:=RR.out.lt
 obtain ⟨q,hq⟩:∃ q,rightC c=q:=⟨_,rfl⟩
 have HQ:=hiU hq;have HC:=cright_at c GA OA gn gc on oc wa (HC0.out.up B_w.out);rw [hq] at HC;clear hq;refine HC.mono ?_;clear HC;rintro e w1 ⟨rfl,hb⟩;have hwb:wa.heap.size≤w1.heap.size:=hb.size;have B_w:=hiD (below_on2 B_w.out hb);have B_wa:Hid (Below wa.heap.size wa w1):=hb;clear hb;have RR1:=hiD (rowCells RR.out B_wa.out);have RC1:=hiD (rowCells RC.out B_wa.out);have BW1:Hid (Below w.heap.size w w1):=B_w;clear B_w B_wa RC RR
 cases q
 ·skip
  obtain ⟨z0,z1,z2,zl⟩:=RR1.out.cells3;obtain ⟨zf0,zf1,zf2⟩:=RR1.out.froz3;go_wp2;have Z9:=RR1.out.set3 (.int .i64 0) (.slice none 0 0) (.slice none 0 0);have B9:=bSet3 BW1.out (w.heap.size+1) (by show _≤(w.heap.size+1);omega) (.int .i64 0) (.slice none 0 0) (.slice none 0 0);obtain ⟨d0,d1,d2,-⟩:=Z9.cells3;clear Z9;refine bodyPost_ret (v:=.agg #[.int .i64 0,.slice none 0 0,.slice none 0 0]) (by simp [results,Tryz.results33,go_sem,d0,d1,d2]) rfl ?_;have HV:trimC c=noCirc:=by unfold trimC;rw [if_neg (by rw [HQ.out ()];decide)]
  rw [HV];exact ⟨none,none,0,0,0,0,rfl,noCirc_at _,.none,.none,B9⟩
 ·have HR:Hid (rightC c=true):=HQ.out ();obtain ⟨⟨hn0,hn1,hg0,ho0⟩,_⟩:=rightC_parts HR.out;rw [HGL.out ()] at hg0;rw [HOL.out ()] at ho0;clear HQ
  obtain ⟨NN,hNN⟩:∃ NN:Nat,c.inputs+(gn:Int)=(NN:Int):=⟨(c.inputs+(gn:Int)).toNat,by omega⟩
  have HNN:=hiU hNN;have hNb:NN≤21000:=by omega
  have hmk:=fun W=>make_like (P:=Tryz.prog) Tryz.underlying39 bool_infoZ rfl NN (c.inputs+(gn:Int)) hNN (by omega) (by omega) W
  clear hNN;obtain ⟨k0,k1,k2,kl⟩:=RC1.out.cells3;go_upto_region 4 with fail;clear k0 k1 k2 kl hmk
  have RN2:Hid (Row (World.alloc w1 (.cells (likeRow (.bool false) NN) 4)) w1.heap.size 4 (bools (needOuts c 0))):=(by
   show Row _ _ _ _;have e:needOuts c 0=List.replicate NN false:=by rw [needOuts,HGL.out (),HNN.out ()];rfl
   rw [e];exact falseRow w1 NN _)
  have RC2:Hid (Row (World.alloc w1 (.cells (likeRow (.bool false) NN) 4)) w.heap.size 36 [.int .i64 c.inputs,.slice GA gn gc,.slice OA on oc]):=RC1.out.alloc _;have RR2:Hid (Row (World.alloc w1 (.cells (likeRow (.bool false) NN) 4)) (w.heap.size+1) 36 [.int .i64 0,.slice none 0 0,.slice none 0 0]):=RR1.out.alloc _;have BW2:Hid (Below w.heap.size w (World.alloc w1 (.cells (likeRow (.bool false) NN) 4))):=BW1.out.alloc BW1.out.size _;have hs1:w.heap.size+1 < w1.heap.size:=RR1.out.lt;clear RC1 RR1 BW1;revert RN2 RC2 RR2 BW2;generalize (World.alloc w1 (.cells (likeRow (.bool false) NN) 4))=w2;intro RN2 RC2 RR2 BW2;obtain ⟨k0,k1,k2,kl⟩:=RC2.out.cells3;go_wp2_with fail;clear k0 k1 k2 kl;have HLN:Hid (∀ k,(needOuts c k).length=NN):=fun k=>by rw [needOuts_len,HGL.out (),HNN.out ()];rfl
  have HLT:Hid (∀ k,(needTo c k).length=NN):=fun k=>by rw [needTo_len,HGL.out (),HNN.out ()];rfl
  go_loopg [5,25] on (fun gg _ s25 wr=>∃ k:Nat,k≤on∧on - k≤gg∧s25=.int .i64 k∧Aside (Below w.heap.size w wr)∧Aside (Row wr w.heap.size 36 [.int .i64 c.inputs,.slice GA gn gc,.slice OA on oc])∧Aside (Row wr (w.heap.size+1) 36 [.int .i64 0,.slice none 0 0,.slice none 0 0])∧Aside (Row wr w1.heap.size 4 (bools (needOuts c k))))
  case atStart=>exact ⟨0,Nat.zero_le _,by omega,rfl,BW2.out,RC2.out,RR2.out,RN2.out⟩
  case round=>
   clear RC2 RR2 BW2 RN2;obtain ⟨k,hk,hgg,rfl,BW,RC,RR,RN⟩:=hrel;by_cases hlt:k < on
   ·have hlz:(k:Int) < (on:Int):=by omega
    have hko:k < c.outs.length:=by rw [HOL.out ()];exact hlt
    have hob:=outOk_at (rightC_parts HR.out).2.2 hko;rw [HGL.out (),HNN.out ()] at hob;obtain ⟨ad,rfl,hab,o0⟩:=(HC0.out.up BW.out).outs.int hlt;have HST:Hid (∀ _:Unit,needOuts c (k+1)=(needOuts c k).set (c.outs.getD k 0).toNat true):=fun _=>rfl
    generalize c.outs.getD k 0=z at hob o0 HST
    obtain ⟨p,rfl⟩:∃ p:Nat,z=(p:Int):=⟨z.toNat,by omega⟩
    have hp1:(p:Int) < (NN:Int):=hob.2;have hl:=HLN.out k;generalize needOuts c k=l at RN HST hl;have hcell:wr.cell? ⟨w1.heap.size,p,none⟩=some (.bool (l.getD p false)):=by rw [RN.out.cell];exact bools_get l p (by omega)
    have hfr:wr.frozen? ⟨w1.heap.size,p,none⟩=false:=RN.out.frozen p;have hbz:=RN.out.lt;clear hob hl hko;go_wp2_with fail;go_roundg (on - (k+1))
    case measure=>omega
    case rel=>
     exact ⟨k+1,by omega,by omega,by go_num,BW.out.setCell (p:=⟨w1.heap.size,p,none⟩) (by show w.heap.size≤w1.heap.size;omega) _,RC.out.far (p:=⟨w1.heap.size,p,none⟩) (by show w.heap.size≠w1.heap.size;omega) _,RR.out.far (p:=⟨w1.heap.size,p,none⟩) (by show w.heap.size+1≠w1.heap.size;omega) _,by rw [HST.out (),← boolsZ_set,Int.toNat_natCast];exact RN.out.set p _⟩
   ·have hlz:¬ (k:Int) < (on:Int):=by omega
    obtain rfl:on=k:=by omega
    have he0:needTo c 0=needOuts c on:=by rw [needTo,HOL.out ()]
    have RN2:Hid (Row wr w1.heap.size 4 (bools (needTo c 0))):=(by show Row _ _ _ _;rw [he0];exact RN.out)
    clear he0;have RC2:Hid (Row wr w.heap.size 36 [.int .i64 c.inputs,.slice GA gn gc,.slice OA on oc]):=RC.out;have RR2:Hid (Row wr (w.heap.size+1) 36 [.int .i64 0,.slice none 0 0,.slice none 0 0]):=RR.out;have BW2:Hid (Below w.heap.size w wr):=BW.out;clear RC RR BW RN hgg hlz HLN;revert RN2 RC2 RR2 BW2;generalize wr=w2;intro RN2 RC2 RR2 BW2;obtain ⟨k0,k1,k2,kl⟩:=RC2.out.cells3;go_wp2_with fail;clear k0 k1 k2 kl
    go_loopg [6,7] gn (fun gg s6 _ wr=>∃ (j:Nat) (z:Int),j≤gn∧gn - j≤gg∧s6=.int .i64 z∧z=(gn:Int) - 1 - (j:Int)∧Aside (Below w.heap.size w wr)∧Aside (Row wr w.heap.size 36 [.int .i64 c.inputs,.slice GA gn gc,.slice OA on oc])∧Aside (Row wr (w.heap.size+1) 36 [.int .i64 0,.slice none 0 0,.slice none 0 0])∧Aside (Row wr w1.heap.size 4 (bools (needTo c j))))
    case atStart=>exact ⟨0,_,Nat.zero_le _,by omega,rfl,by omega,BW2.out,RC2.out,RR2.out,RN2.out⟩
    case round=>
     clear RC2 RR2 BW2 RN2;obtain ⟨j,z,hj,hgg,rfl,hz,BW,RC,RR,RN⟩:=hrel;by_cases hlt:j < gn
     ·obtain ⟨i,rfl⟩:∃ i:Nat,z=(i:Int):=⟨z.toNat,by omega⟩
      have hij:i+j+1=gn:=by omega
      clear hz;have hig:i < gn:=by omega
      have hlz:(i:Int) < (gn:Int):=by omega
      have hge:(0:Int)≤(i:Int):=by omega
      have hkc:i < c.gates.length:=by rw [HGL.out ()];exact hig
      obtain ⟨ad,rfl,hab,c0,c1,c2⟩:=(HC0.out.up BW.out).gates.gate hig;have hgo:=gateAt_ok HR.out hkc
      have HST:Hid (∀ _:Unit,needTo c (j+1)=needG c.inputs (needTo c j) i (gateAt c i)):=fun _=>by
       rw [needTo,HGL.out (),show gn - 1 - j=i by omega]
      change wr.cell? _=some (.int .i64 (gateAt c i).op) at c0;change wr.cell? _=some (.int .i64 (gateAt c i).a) at c1;change wr.cell? _=some (.int .i64 (gateAt c i).b) at c2;have hl:=HLT.out j;have hNN2:=HNN.out ();generalize gateAt c i=g at c0 c1 c2 hgo HST;generalize needTo c j=l at RN HST hl;obtain ⟨op,x,y⟩:=g;obtain ⟨hop,hha,hhb,-,-⟩:=gateOk_parts hgo;have hoz:=operandsO_of hop;dsimp only at hop hha hhb hoz c0 c1 c2
      obtain ⟨ni,hni⟩:∃ ni:Nat,c.inputs+(i:Int)=(ni:Int):=⟨(c.inputs+(i:Int)).toNat,by omega⟩
      have hni1:(ni:Int) < (NN:Int):=by omega
      have hw1:IntKind.i64.wrap (c.inputs+(i:Int))=(ni:Int):=by rw [hni];exact IntWalk.i64_in _ (by omega)
      have HND:Hid (∀ _:Unit,needAt l (c.inputs+(i:Int))=l.getD ni false):=fun _=>by unfold needAt;rw [hni,Int.toNat_natCast]
      have hcell:wr.cell? ⟨w1.heap.size,ni,none⟩=some (.bool (l.getD ni false)):=by rw [RN.out.cell];exact bools_get l ni (by omega)
      obtain ⟨q,hq⟩:∃ q,l.getD ni false=q:=⟨_,rfl⟩
      rw [hq] at hcell HND;have hbz:=RN.out.lt;have HA:Hid (∀ _:Unit,2≤op→0≤x∧x < (NN:Int)):=fun _ h=>by have:=hha h;omega
      have HB2:Hid (∀ _:Unit,3≤op→0≤y∧y < (NN:Int)):=fun _ h=>by have:=hhb h;omega
      have HLL:=hiU hl;have HOP3:=hiU hoz;have hzz:operandsO op=0∨operandsO op=1∨operandsO op=2:=by have:=operandsO_bd op;omega
      clear hl hgo hop hha hhb hoz hNN2 hni hq hkc
      cases q
      ·have HS2:Hid (∀ _:Unit,needG c.inputs l i ⟨op,x,y⟩=l):=fun _=>by unfold needG;rw [HND.out (),if_neg (by decide)]
       have hsz:=RC.out.lt;have hs9:=BW.out.size;obtain ⟨k0,k1,k2,kl⟩:=RC.out.cells3;go_wp2_with fail;go_roundg (gn - (j+1))
       case measure=>omega
       case rel=>exact ⟨j+1,_,by omega,by omega,rfl,by omega,BW.out.alloc hs9 _,RC.out.alloc _,RR.out.alloc _,by rw [HST.out (),HS2.out ()];exact RN.out.alloc _⟩
      ·have HND:Hid (∀ _:Unit,needAt l (c.inputs+(i:Int))=true):=HND.out;have hs9:=BW.out.size;obtain ⟨k0,k1,k2,kl⟩:=RC.out.cells3;go_upto_region 14 with fail;clear k0 k1 k2 kl;have RB4:Hid (Row (World.alloc wr (.cells #[.int .i64 op,.int .i64 x,.int .i64 y] 135)) wr.heap.size 135 [.int .i64 op,.int .i64 x,.int .i64 y]):=Row.new wr 135 [.int .i64 op,.int .i64 x,.int .i64 y];have RC4:Hid (Row (World.alloc wr (.cells #[.int .i64 op,.int .i64 x,.int .i64 y] 135)) w.heap.size 36 [.int .i64 c.inputs,.slice (some ad) gn gc,.slice OA on oc]):=RC.out.alloc _;have RR4:Hid (Row (World.alloc wr (.cells #[.int .i64 op,.int .i64 x,.int .i64 y] 135)) (w.heap.size+1) 36 [.int .i64 0,.slice none 0 0,.slice none 0 0]):=RR.out.alloc _;have RN4:Hid (Row (World.alloc wr (.cells #[.int .i64 op,.int .i64 x,.int .i64 y] 135)) w1.heap.size 4 (bools (l))):=RN.out.alloc _;have BW4:Hid (Below w.heap.size w (World.alloc wr (.cells #[.int .i64 op,.int .i64 x,.int .i64 y] 135))):=BW.out.alloc hs9 _;clear RC RR RN BW hcell c0 c1 c2;revert RB4 RC4 RR4 RN4 BW4;generalize (World.alloc wr (.cells #[.int .i64 op,.int .i64 x,.int .i64 y] 135))=w4;intro RB4 RC4 RR4 RN4 BW4;obtain ⟨k0,k1,k2,kl⟩:=RB4.out.cells3;rcases hzz with hz | hz | hz
       ·have HOP:=hiU hz;have HS2:Hid (∀ _:Unit,needG c.inputs l i ⟨op,x,y⟩=l):=fun _=>by unfold needG;rw [HND.out (),if_pos rfl];dsimp only;rw [if_neg (by rw [HOP.out ()];decide),if_neg (by rw [HOP.out ()];decide)]
        clear hz;go_wp2_with fail;have HC:=operandsO_any op w4;rw [HOP.out ()] at HC;refine HC.mono ?_;clear HC;rintro e w5 ⟨rfl,rfl⟩;go_wp2_with fail;have HC:=operandsO_any op w4;rw [HOP.out ()] at HC;refine HC.mono ?_;clear HC;rintro e w5 ⟨rfl,rfl⟩;go_wp2_with fail;go_roundg (gn - (j+1))
        case measure=>omega
        case rel=>exact ⟨j+1,_,by omega,by omega,rfl,by omega,BW4.out,RC4.out,RR4.out,by rw [HST.out (),HS2.out ()];exact RN4.out⟩
       ·have HOP:=hiU hz;have h2:2≤op:=by have:=HOP3.out ();rw [hz] at this;split at this <;> (try split at this) <;> omega
        have hxx:=HA.out () h2
        obtain ⟨px,rfl⟩:∃ px:Nat,x=(px:Int):=⟨x.toNat,by omega⟩
        have hx1:(px:Int) < (NN:Int):=hxx.2;have HS2:Hid (∀ _:Unit,needG c.inputs l i ⟨op,(px:Int),y⟩=l.set px true):=fun _=>by unfold needG;rw [HND.out (),if_pos rfl];dsimp only;rw [if_neg (by rw [HOP.out ()];decide),if_pos (HOP.out ())];unfold setT;rw [Int.toNat_natCast]
        have HS2:Hid (∀ _:Unit,bools (needG c.inputs l i ⟨op,(px:Int),y⟩)=(bools l).set px (.bool true)):=fun _=>by rw [HS2.out (),boolsZ_set]
        have cx:w4.cell? ⟨w1.heap.size,px,none⟩=some (.bool (l.getD px false)):=by rw [RN4.out.cell];exact bools_get l px (by rw [HLL.out ()];omega)
        have cxf:w4.frozen? ⟨w1.heap.size,px,none⟩=false:=RN4.out.frozen px;have cxl:=RN4.out.lt;clear hz hxx h2;go_wp2_with fail;have HC:=operandsO_any op w4;rw [HOP.out ()] at HC;refine HC.mono ?_;clear HC;rintro e w5 ⟨rfl,rfl⟩;go_upto_region 16 with fail;have q0:(World.setCell w4 ⟨w1.heap.size,px,none⟩ (.bool true)).cell? ⟨wr.heap.size,0,none⟩=some (.int .i64 op):=(RB4.out.far (p:=⟨w1.heap.size,px,none⟩) (by show wr.heap.size≠w1.heap.size;omega) (.bool true)).cell 0;go_wp2_with fail;have HC:=operandsO_any op (World.setCell w4 ⟨w1.heap.size,px,none⟩ (.bool true));rw [HOP.out ()] at HC;refine HC.mono ?_;clear HC;rintro e w5 ⟨rfl,rfl⟩;go_wp2_with fail;go_roundg (gn - (j+1))
        case measure=>omega
        case rel=>exact ⟨j+1,_,by omega,by omega,rfl,by omega,(Below.setCell BW4.out (p:=⟨w1.heap.size,px,none⟩) (by show w.heap.size≤w1.heap.size;omega) (.bool true)),(Row.far RC4.out (p:=⟨w1.heap.size,px,none⟩) (by show w.heap.size≠w1.heap.size;omega) (.bool true)),(Row.far RR4.out (p:=⟨w1.heap.size,px,none⟩) (by show w.heap.size+1≠w1.heap.size;omega) (.bool true)),by rw [HST.out (),HS2.out ()];exact (Row.set RN4.out px (.bool true))⟩
       ·have HOP:=hiU hz;have h3:3≤op:=by have:=HOP3.out ();rw [hz] at this;split at this <;> (try split at this) <;> omega
        have hxx:=HA.out () (by omega);have hyy:=HB2.out () h3
        obtain ⟨px,rfl⟩:∃ px:Nat,x=(px:Int):=⟨x.toNat,by omega⟩
        obtain ⟨py,rfl⟩:∃ py:Nat,y=(py:Int):=⟨y.toNat,by omega⟩
        have hx1:(px:Int) < (NN:Int):=hxx.2;have hy1:(py:Int) < (NN:Int):=hyy.2;have HS2:Hid (∀ _:Unit,needG c.inputs l i ⟨op,(px:Int),(py:Int)⟩=(l.set px true).set py true):=fun _=>by unfold needG;rw [HND.out (),if_pos rfl];dsimp only;rw [if_pos (HOP.out ())];unfold setT;rw [Int.toNat_natCast,Int.toNat_natCast]
        have HS2:Hid (∀ _:Unit,bools (needG c.inputs l i ⟨op,(px:Int),(py:Int)⟩)=((bools l).set px (.bool true)).set py (.bool true)):=fun _=>by rw [HS2.out (),boolsZ_set,boolsZ_set]
        have cx:w4.cell? ⟨w1.heap.size,px,none⟩=some (.bool (l.getD px false)):=by rw [RN4.out.cell];exact bools_get l px (by rw [HLL.out ()];omega)
        have cxf:w4.frozen? ⟨w1.heap.size,px,none⟩=false:=RN4.out.frozen px;have cxl:=RN4.out.lt;clear hz hxx hyy h3;go_wp2_with fail;have HC:=operandsO_any op w4;rw [HOP.out ()] at HC;refine HC.mono ?_;clear HC;rintro e w5 ⟨rfl,rfl⟩;go_upto_region 16 with fail;have R5:Row (World.setCell w4 ⟨w1.heap.size,px,none⟩ (.bool true)) wr.heap.size 135 [.int .i64 op,.int .i64 (px:Int),.int .i64 (py:Int)]:=RB4.out.far (p:=⟨w1.heap.size,px,none⟩) (by show wr.heap.size≠w1.heap.size;omega) (.bool true);have N5:Row (World.setCell w4 ⟨w1.heap.size,px,none⟩ (.bool true)) w1.heap.size 4 ((bools l).set px (.bool true)):=RN4.out.set px (.bool true);have q0:(World.setCell w4 ⟨w1.heap.size,px,none⟩ (.bool true)).cell? ⟨wr.heap.size,0,none⟩=some (.int .i64 op):=R5.cell 0;have q2:(World.setCell w4 ⟨w1.heap.size,px,none⟩ (.bool true)).cell? ⟨wr.heap.size,2,none⟩=some (.int .i64 (py:Int)):=R5.cell 2;have q3:(World.setCell w4 ⟨w1.heap.size,px,none⟩ (.bool true)).cell? ⟨w1.heap.size,py,none⟩=some (.bool ((l.set px true).getD py false)):=by rw [N5.cell,boolsZ_set];exact bools_get _ py (by rw [List.length_set,HLL.out ()];omega)
        have q4:(World.setCell w4 ⟨w1.heap.size,px,none⟩ (.bool true)).frozen? ⟨w1.heap.size,py,none⟩=false:=N5.frozen py;clear R5 N5;go_wp2_with fail;have HC:=operandsO_any op (World.setCell w4 ⟨w1.heap.size,px,none⟩ (.bool true));rw [HOP.out ()] at HC;refine HC.mono ?_;clear HC;rintro e w5 ⟨rfl,rfl⟩;go_wp2_with fail;go_roundg (gn - (j+1))
        case measure=>omega
        case rel=>exact ⟨j+1,_,by omega,by omega,rfl,by omega,(Below.setCell (Below.setCell BW4.out (p:=⟨w1.heap.size,px,none⟩) (by show w.heap.size≤w1.heap.size;omega) (.bool true)) (p:=⟨w1.heap.size,py,none⟩) (by show w.heap.size≤w1.heap.size;omega) (.bool true)),(Row.far (Row.far RC4.out (p:=⟨w1.heap.size,px,none⟩) (by show w.heap.size≠w1.heap.size;omega) (.bool true)) (p:=⟨w1.heap.size,py,none⟩) (by show w.heap.size≠w1.heap.size;omega) (.bool true)),(Row.far (Row.far RR4.out (p:=⟨w1.heap.size,px,none⟩) (by show w.heap.size+1≠w1.heap.size;omega) (.bool true)) (p:=⟨w1.heap.size,py,none⟩) (by show w.heap.size+1≠w1.heap.size;omega) (.bool true)),by rw [HST.out (),HS2.out ()];exact (Row.set (Row.set RN4.out px (.bool true)) py (.bool true))⟩
     ·have hlz:¬ (0:Int)≤z:=by omega
      have hd0:decide ((0:Int)≤z)=false:=decide_eq_false hlz;obtain rfl:gn=j:=by omega
      have he0:needC c=needTo c gn:=by rw [needC,HGL.out ()]
      have RN3:Hid (Row wr w1.heap.size 4 (bools (needC c))):=(by show Row _ _ _ _;rw [he0];exact RN.out)
      have RC3:Hid (Row wr w.heap.size 36 [.int .i64 c.inputs,.slice GA gn gc,.slice OA on oc]):=RC.out;have RR3:Hid (Row wr (w.heap.size+1) 36 [.int .i64 0,.slice none 0 0,.slice none 0 0]):=RR.out;have BW3:Hid (Below w.heap.size w wr):=BW.out;have hl3:(needC c).length=NN:=by rw [he0];exact HLT.out gn
      clear he0;have HL3:=hiU hl3;clear RC RR BW RN hgg HLT hl3 hz;revert RN3 RC3 RR3 BW3;generalize wr=w3;intro RN3 RC3 RR3 BW3;obtain ⟨k0,k1,k2,kl⟩:=RC3.out.cells3;go_wp2_with fail;clear hlz hd0;refine (start_any c GA OA gn gc on oc w3 ⟨hn0,hn1⟩).mono ?_;rintro e w4 ⟨rfl,hwk,hb⟩;have HK:Hid (WkAt w4 w3.heap.size (w3.heap.size+1) c.inputs (trimTo c 0)):=hwk;have RR4:=hiD (rowCells RR3.out hb);have RC4:=hiD (rowCells RC3.out hb);have RN4:=hiD (rowCells RN3.out hb);have BW4:=hiD (below_on2 BW3.out hb);have hs4:w3.heap.size+1 < w4.heap.size:=hwk.blk.1;have hs3:w1.heap.size < w3.heap.size:=RN3.out.lt;clear hwk hb k0 k1 k2 kl RR3 RC3 BW3 RN3;obtain ⟨k0,k1,k2,kl⟩:=RC4.out.cells3;go_wp2_with fail;clear k0 k1 k2 kl
      go_loopg [9,10,75] gn (fun gg _ _ s75 wr=>∃ k:Nat,k≤gn∧gn - k≤gg∧s75=.int .i64 k∧w3.heap.size+1 < wr.heap.size∧Aside (Below w.heap.size w wr)∧Aside (Row wr w.heap.size 36 [.int .i64 c.inputs,.slice GA gn gc,.slice OA on oc])∧Aside (Row wr (w.heap.size+1) 36 [.int .i64 0,.slice none 0 0,.slice none 0 0])∧Aside (Row wr w1.heap.size 4 (bools (needC c)))∧Aside (WkAt wr w3.heap.size (w3.heap.size+1) c.inputs (trimTo c k)))
      case atStart=>exact ⟨0,Nat.zero_le _,by omega,rfl,hs4,BW4.out,RC4.out,RR4.out,RN4.out,HK.out⟩
      case round=>
       clear RC4 RR4 BW4 RN4 HK;obtain ⟨k,hk,hgg,rfl,hsz,BW,RC,RR,RN,HK⟩:=hrel;by_cases hlt:k < gn
       ·have hlz:(k:Int) < (gn:Int):=by omega
        have hkc:k < c.gates.length:=by rw [HGL.out ()];exact hlt
        obtain ⟨ad,rfl,hab,c0,c1,c2⟩:=(HC0.out.up BW.out).gates.gate hlt;obtain ⟨l1,l2⟩:=trimTo_len c k;have hgo:=gateAt_ok HR.out hkc;obtain ⟨g1,g2⟩:=gate_ok_ops hgo;have hNN2:=HNN.out ()
        obtain ⟨ni,hni⟩:∃ ni:Nat,c.inputs+(k:Int)=(ni:Int):=⟨(c.inputs+(k:Int)).toNat,by omega⟩
        have hni1:(ni:Int) < (NN:Int):=by omega
        have hw1:IntKind.i64.wrap (c.inputs+(k:Int))=(ni:Int):=by rw [hni];exact IntWalk.i64_in _ (by omega)
        have HND:Hid (∀ _:Unit,needAt (needC c) (c.inputs+(k:Int))=(needC c).getD ni false):=fun _=>by unfold needAt;rw [hni,Int.toNat_natCast]
        have hcell:wr.cell? ⟨w1.heap.size,ni,none⟩=some (.bool ((needC c).getD ni false)):=by rw [RN.out.cell];exact bools_get _ ni (by rw [HL3.out ()];omega)
        have hbz:=RN.out.lt
        obtain ⟨q,hq⟩:∃ q,(needC c).getD ni false=q:=⟨_,rfl⟩
        rw [hq] at hcell HND;have HST:Hid (∀ _:Unit,trimTo c (k+1)=if q=true then addW c.inputs (trimTo c k) (moveG (trimTo c k).tq (gateAt c k),-1) else ⟨(trimTo c k).gates,(trimTo c k).tq ++ [0]⟩):=fun _=>by rw [trimTo,HND.out ()]
        change wr.cell? _=some (.int .i64 (gateAt c k).op) at c0;change wr.cell? _=some (.int .i64 (gateAt c k).a) at c1;change wr.cell? _=some (.int .i64 (gateAt c k).b) at c2;generalize gateAt c k=g at c0 c1 c2 hgo g1 g2 HST;generalize trimTo c k=s at HK l1 l2 HST
        have HGA:Hid ((1≤operandsO g.op→0≤g.a∧g.a < (s.tq.length:Int))∧(operandsO g.op=2→0≤g.b∧g.b < (s.tq.length:Int))):=⟨fun q=>by have:=g1 q;omega,fun q=>by have:=g2 q;omega⟩
        have htl:s.tq.length≤30000:=by omega
        have hgl:s.gates.length≤20000:=by omega
        clear l1 l2 hgo g1 g2 hkc hNN2 hni hq;obtain ⟨k0,k1,k2,kl⟩:=RC.out.cells3;go_upto_region 22 with fail;clear c0 c1 c2 hab;have RB4:Hid (Row (World.alloc wr (.cells #[.int .i64 g.op,.int .i64 g.a,.int .i64 g.b] 135)) wr.heap.size 135 [.int .i64 g.op,.int .i64 g.a,.int .i64 g.b]):=Row.new wr 135 [.int .i64 g.op,.int .i64 g.a,.int .i64 g.b];have RC4:Hid (Row (World.alloc wr (.cells #[.int .i64 g.op,.int .i64 g.a,.int .i64 g.b] 135)) w.heap.size 36 [.int .i64 c.inputs,.slice (some ad) gn gc,.slice OA on oc]):=RC.out.alloc _;have RR4:Hid (Row (World.alloc wr (.cells #[.int .i64 g.op,.int .i64 g.a,.int .i64 g.b] 135)) (w.heap.size+1) 36 [.int .i64 0,.slice none 0 0,.slice none 0 0]):=RR.out.alloc _;have RN4:Hid (Row (World.alloc wr (.cells #[.int .i64 g.op,.int .i64 g.a,.int .i64 g.b] 135)) w1.heap.size 4 (bools (needC c))):=RN.out.alloc _;have BW4:Hid (Below w.heap.size w (World.alloc wr (.cells #[.int .i64 g.op,.int .i64 g.a,.int .i64 g.b] 135))):=BW.out.alloc BW.out.size _;have HK4:Hid (WkAt (World.alloc wr (.cells #[.int .i64 g.op,.int .i64 g.a,.int .i64 g.b] 135)) w3.heap.size (w3.heap.size+1) c.inputs s):=HK.out.alloc _;have BL4:Hid (Below wr.heap.size wr (World.alloc wr (.cells #[.int .i64 g.op,.int .i64 g.a,.int .i64 g.b] 135))):=(Below.refl _ _).alloc (Nat.le_refl _) _;have hs4:w3.heap.size+1 < (World.alloc wr (.cells #[.int .i64 g.op,.int .i64 g.a,.int .i64 g.b] 135)).heap.size:=by simp;omega
        have hcell4:Hid ((World.alloc wr (.cells #[.int .i64 g.op,.int .i64 g.a,.int .i64 g.b] 135)).cell? ⟨w1.heap.size,ni,none⟩=some (.bool q)):=(by
         show _=_
         rw [World.cell?_alloc_lt _ _ _ (by show w1.heap.size < _;omega)];exact hcell)
        clear hcell RC RR RN BW HK k0 k1 k2 kl;revert RB4 RC4 RR4 RN4 BW4 HK4 BL4 hs4 hcell4;generalize (World.alloc wr (.cells #[.int .i64 g.op,.int .i64 g.a,.int .i64 g.b] 135))=w6;intro RB4 RC4 RR4 RN4 BW4 HK4 BL4 hs4 hcell4;have hcell5:=hcell4.out;have hbz4:=RN4.out.lt;obtain ⟨k0,k1,k2,kl⟩:=RC4.out.cells3
        cases q
        ·have HST:Hid (∀ _:Unit,trimTo c (k+1)=⟨s.gates,s.tq ++ [0]⟩):=fun _=>HST.out ()
         obtain ⟨KA,kc,TA,tc,hrw,ho6,ht6,hBb⟩:=HK4.out.op;have RW6:Hid (Row w6 (w3.heap.size+1) 144 [.int .i64 c.inputs,.slice KA s.gates.length kc,.slice TA s.tq.length tc]):=hrw;have O6:Hid (World.ownsRow w6 w3.heap.size 135 3 (.slice KA s.gates.length kc) s.gates.length (gatesCells s.gates)):=ho6;have T6:Hid (World.ownsRow w6 w3.heap.size 3 1 (.slice TA s.tq.length tc) s.tq.length (ints s.tq)):=ht6;clear hrw ho6 ht6;go_upto_region 24 with fail;clear hcell5 k0 k1 k2 kl;obtain ⟨k0,k1,k2,kl⟩:=RW6.out.cells3
         go_wp2_with (at_builtin;refine wpList_app rfl (.tmp 96) (.tmp 97) 22 rfl w3.heap.size 3 (.int .i64 0) 1 8 Tryz.underlying22 int_infoZ rfl (by decide) (by decide) (.slice TA s.tq.length tc) s.tq.length (ints s.tq) rfl ?own (w6.heap.size+1) (some ⟨w6.heap.size,0,none⟩) 1 1 [.int .i64 0] rfl ?rd ?one ?hb ?hbase ?_)
         case own=>exact T6.out.alloc _
         case rd=>exact Rd.lit w6 #[.int .i64 0] 3 (sz:=1) (m:=1) rfl
         case one=>first | (intro u hu;simp at hu;subst hu;rfl) | rfl
         case hb=>omega
         case hbase=>first | (simp;omega) | omega
         intro v' w5 hown' hgrow' hat';obtain ⟨TB,td,rfl,_⟩:=Rd.own hown';obtain ⟨r5,hk5,f5⟩:=wk_pad RW6.out O6.out T6.out hBb (by omega) hown' hgrow';have q2:=r5.cell 2;have qf:=r5.frozen 2;have ql:=r5.lt;simp only [List.getElem?_cons_zero,List.getElem?_cons_succ] at q2
         have HK5:Hid (WkAt (w5.setCell ⟨w3.heap.size+1,2,none⟩ (.slice TB (s.tq.length+1) td)) w3.heap.size (w3.heap.size+1) c.inputs (trimTo c (k+1))):=(by show WkAt _ _ _ _ _;rw [HST.out ()];exact hk5)
         have F5:Hid (WFr w3.heap.size w6 (w5.setCell ⟨w3.heap.size+1,2,none⟩ (.slice TB (s.tq.length+1) td))):=f5;clear hown' hgrow' hat' hk5 f5 r5 k0 k1 k2 kl;go_wp2_with fail;go_roundg (gn - (k+1))
         case measure=>omega
         case rel=>exact ⟨k+1,by omega,by omega,by go_num,HK5.out.blk.1,BW4.out.trans (F5.out.below.mono (by omega)),F5.out.row RC4.out (by decide) (by decide) (by decide),F5.out.row RR4.out (by decide) (by decide) (by decide),F5.out.row RN4.out (by decide) (by decide) (by decide),HK5.out⟩
        ·have HST:Hid (∀ _:Unit,trimTo c (k+1)=addW c.inputs s (moveG s.tq g,-1)):=fun _=>HST.out ()
         go_upto_region 23 with fail;clear hcell5 k0 k1 k2 kl
         obtain ⟨h,hh⟩:∃ h,moveG s.tq g=h:=⟨_,rfl⟩
         have HMV:=hiU hh;clear hh;obtain ⟨k0,k1,k2,kl⟩:=RB4.out.cells3;have HC:=moved_any w3.heap.size (w3.heap.size+1) c.inputs s g w6 HK4.out htl HGA.out.1 HGA.out.2;rw [HMV.out ()] at HC;go_wp2_with fail;refine HC.mono ?_;clear HC;rintro e w7 ⟨rfl,hb⟩;have HK7:Hid (WkAt w7 w3.heap.size (w3.heap.size+1) c.inputs s):=HK4.out.below hb;have RC7:=hiD (rowCells RC4.out hb);have RR7:=hiD (rowCells RR4.out hb);have RN7:=hiD (rowCells RN4.out hb);have BW7:=hiD (below_on2 BW4.out hb);have hs7:w3.heap.size+1 < w7.heap.size:=Nat.lt_of_lt_of_le hs4 hb.size;clear hb k0 k1 k2 kl RC4 RR4 RN4 BW4 HK4;obtain ⟨op,x,y⟩:=h;go_wp2_with fail;refine (add_any w3.heap.size (w3.heap.size+1) c.inputs s ⟨op,x,y⟩ (-1) w7 HK7.out (by omega) ⟨hn0,hn1⟩ hgl htl).mono ?_;rintro e w9 ⟨rfl,hwk,hfr⟩
         have HK5:Hid (WkAt w9 w3.heap.size (w3.heap.size+1) c.inputs (trimTo c (k+1))):=(by show WkAt _ _ _ _ _;rw [HST.out (),HMV.out ()];exact hwk)
         have F5:Hid (WFr w3.heap.size w7 w9):=hfr;clear hwk hfr;go_wp2_with fail;go_roundg (gn - (k+1))
         case measure=>omega
         case rel=>exact ⟨k+1,by omega,by omega,by go_num,HK5.out.blk.1,BW7.out.trans (F5.out.below.mono (by omega)),F5.out.row RC7.out (by decide) (by decide) (by decide),F5.out.row RR7.out (by decide) (by decide) (by decide),F5.out.row RN7.out (by decide) (by decide) (by decide),HK5.out⟩
       ·have hlz:¬ (k:Int) < (gn:Int):=by omega
        obtain rfl:gn=k:=by omega
        obtain ⟨l1,l2⟩:=trimTo_len c gn;have HV:Hid (∀ _:Unit,trimC c=doneW c (trimTo c gn)):=fun _=>by unfold trimC;rw [if_pos HR.out,HGL.out ()]
        have HOB:Hid (∀ i,i < c.outs.length→0≤c.outs.getD i 0∧c.outs.getD i 0 < ((trimTo c gn).tq.length:Int)):=fun i hi=>by
         have:=outOk_at (rightC_parts HR.out).2.2 hi;rw [HGL.out ()] at this;omega
        have hone:0 < (trimTo c gn).tq.length∨on=0:=by
         rcases Nat.eq_zero_or_pos on with h0 | h0
         ·exact .inr h0
         ·have:=HOB.out 0 (by rw [HOL.out ()];exact h0);exact .inl (by omega)
        obtain ⟨k0,k1,k2,kl⟩:=RC.out.cells3;go_wp2_with fail;refine (done_any w3.heap.size (w3.heap.size+1) c.inputs (trimTo c gn) c GA OA gn gc on oc wr HK.out (by omega) (HC0.out.up BW.out) hone (by omega) (by omega) (by omega) HOB.out).mono ?_;rintro e w8 ⟨GB,OB,hn,hc,pn,pc,he,hca,hf1,hf2,hb⟩;have he2:e=.returned (.agg #[.int .i64 c.inputs,.slice GB hn hc,.slice OB pn pc]):=he;subst he2;clear he
        have HCA:Hid (CAt w8 (trimC c) GB OB hn pn):=(by show CAt _ _ _ _ _ _;rw [HV.out ()];exact hca)
        have HF1:Hid (CFrom GB hn w3.heap.size):=hf1;have HF2:Hid (CFrom OB pn w3.heap.size):=hf2;have RR3:=hiD (rowCells RR.out hb);have BW3:=hiD (below_on2 BW.out hb);clear hca hf1 hf2 hb k0 k1 k2 kl HOB hone RC RR BW HK RN;obtain ⟨z0,z1,z2,zl⟩:=RR3.out.cells3;obtain ⟨zf0,zf1,zf2⟩:=RR3.out.froz3;go_wp2;have Z9:=RR3.out.set3 (.int .i64 c.inputs) (.slice GB hn hc) (.slice OB pn pc);have B9:=bSet3 BW3.out (w.heap.size+1) (by show _≤(w.heap.size+1);omega) (.int .i64 c.inputs) (.slice GB hn hc) (.slice OB pn pc);obtain ⟨d0,d1,d2,-⟩:=Z9.cells3;clear Z9;refine bodyPost_ret (v:=.agg #[.int .i64 c.inputs,.slice GB hn hc,.slice OB pn pc]) (by simp [results,Tryz.results33,go_sem,d0,d1,d2]) rfl ?_;have HIN:(trimC c).inputs=c.inputs:=by rw [HV.out ()];rfl
        exact ⟨GB,OB,hn,hc,pn,pc,by rw [HIN],(CAt.farSet (CAt.farSet (CAt.farSet HCA.out (p:=⟨(w.heap.size+1),0,none⟩) (HF1.out.ne (by show (w.heap.size+1) < _;omega)) (HF2.out.ne (by show (w.heap.size+1) < _;omega)) (.int .i64 c.inputs)) (p:=⟨(w.heap.size+1),1,none⟩) (HF1.out.ne (by show (w.heap.size+1) < _;omega)) (HF2.out.ne (by show (w.heap.size+1) < _;omega)) (.slice GB hn hc)) (p:=⟨(w.heap.size+1),2,none⟩) (HF1.out.ne (by show (w.heap.size+1) < _;omega)) (HF2.out.ne (by show (w.heap.size+1) < _;omega)) (.slice OB pn pc)),HF1.out.mono (by omega),HF2.out.mono (by omega),B9⟩
end Go.Proofs.YtbijfnbelkbofaaGreatDoor
