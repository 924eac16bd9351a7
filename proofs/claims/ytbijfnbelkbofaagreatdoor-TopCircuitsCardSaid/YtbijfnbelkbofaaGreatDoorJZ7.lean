/-
  Lemmas for the law TopCircuits.
-/
import Derived.Test.YtbijfnbelkbofaaGreatDoorJZ6
import Derived.Test.YtbijfnbelkbofaaGreatDoorJZ1
import Derived.Test.YtbijfnbelkbofaaGreatDoorJZ4
import Derived.Test.YtbijfnbelkbofaaGreatDoorJZ5
set_option linter.unusedSimpArgs false
set_option linter.unusedVariables false
namespace Go.Proofs.YtbijfnbelkbofaaGreatDoor
open Go.RowKit
set_option maxHeartbeats 400000 in
theorem operands_any (op:Int) (w:World):
 Calls Tryz.prog 77 #[.int .i64 op] w fun e w'=>e=.returned (.int .i64 (operandsF op))∧w=w':=by
 go_enter Tryz.func77,Tryz.ntmps77;go_wp2
 all_goals go_ret
 all_goals (refine ⟨?_,rfl⟩;simp_all [operandsF])
set_option maxHeartbeats 400000 in
theorem wire_any (x k n inputs i:Int) (pn pc pi:Nat) (w:World)
 (hn:w.cell? ⟨pn,0,none⟩=some (.int .i64 n)) (hc:w.cell? ⟨pc,0,none⟩=some (.int .i64 inputs)) (hi:w.cell? ⟨pi,0,none⟩=some (.int .i64 i))
 (h0:0≤inputs) (h1:inputs≤1000) (h2:0≤i) (h3:i≤20000):
 Calls Tryz.prog 78 #[.int .i64 x,.int .i64 k,.pointer (some ⟨pn,0,none⟩),.pointer (some ⟨pc,0,none⟩),.pointer (some ⟨pi,0,none⟩)] w fun e w'=>e=.returned (.bool (wireOk n x k (inputs+i)))∧w=w':=by
 go_enter Tryz.func78,Tryz.ntmps78;go_wp2
 all_goals go_ret
 all_goals refine ⟨ret_bool ?_,rfl⟩
 all_goals unfold wireOk
 all_goals (rw [Bool.eq_iff_iff];simp;omega)
set_option maxHeartbeats 400000 in
theorem outs_any (x inputs:Int) (pc:Nat) (A:Option Addr) (n c:Nat) (w:World)
 (hc:w.cell? ⟨pc,0,none⟩=some (.int .i64 inputs)) (hg:w.cell? ⟨pc,1,none⟩=some (.slice A n c))
 (h0:0≤inputs) (h1:inputs≤1000) (h3:n≤20000):
 Calls Tryz.prog 79 #[.int .i64 x,.pointer (some ⟨pc,0,none⟩)] w fun e w'=>e=.returned (.bool (!outOk (inputs+n) x))∧w=w':=by
 go_enter Tryz.func79,Tryz.ntmps79;go_wp2
 all_goals go_ret
 all_goals refine ⟨ret_bool ?_,rfl⟩
 all_goals unfold outOk
 all_goals first | (rw [Bool.eq_iff_iff];simp;omega) | (rw [Bool.eq_iff_iff];simp;done)
set_option maxHeartbeats 400000 in
theorem cright_any (inputs:Int) (GA OA:Option Addr) (gn gc on oc:Nat) (gs:List Gt) (os:List Int) (w:World)
 (hG:Rd w w.heap.size 3 GA gn (gatesCells gs)) (hO:Rd w w.heap.size 1 OA on (ints os)) (hm1:gn≤maxLen) (hm2:on≤maxLen):
 Calls Tryz.prog 32 #[.agg #[.int .i64 inputs,.slice GA gn gc,.slice OA on oc]] w fun e w'=>e=.returned (.bool (rightC ⟨inputs,gs,os⟩))∧Below w.heap.size w w':=by
 unfold maxLen at hm1 hm2;have HN:Hid (gs.length=gn):=by have:=hG.1;simp [gatesCells_length] at this;show gs.length=gn;omega
 have HM:Hid (os.length=on):=by have:=hO.1;simp at this;show os.length=on;omega
 have HG:=hiD hG;have HO:=hiD hO;clear hG hO;by_cases hok:0≤inputs∧inputs≤1000∧gn≤20000∧on≤1000
 ·obtain ⟨h0,h1,h2,h3⟩:=hok;go_enter Tryz.func32,Tryz.ntmps32;go_wp2
  go_loopg [30] gn (fun gg s30 wr=>∃ kk:Nat,kk≤gn∧gn - kk≤gg∧s30=.int .i64 kk∧Aside (Below (w.heap.size+1) (w.alloc (.cells #[.int .i64 inputs,.slice GA gn gc,.slice OA on oc] 36)) wr)∧Aside (∀ j,j < kk→gateOk (inputs+j) (gs.getD j default)=true))
  case atStart=>exact ⟨0,Nat.zero_le _,by omega,rfl,Below.refl _ _,fun j hj=>absurd hj (Nat.not_lt_zero _)⟩
  case round=>
   obtain ⟨kk,hkk,hg,rfl,BW,AA⟩:=hrel;have hc0:wr.cell? ⟨w.heap.size,0,none⟩=some (.int .i64 inputs):=(BW.out.cell (p:=⟨w.heap.size,0,none⟩) (by simp)).trans (by simp);have hc1:wr.cell? ⟨w.heap.size,1,none⟩=some (.slice GA gn gc):=(BW.out.cell (p:=⟨w.heap.size,1,none⟩) (by simp)).trans (by simp);have hc2:wr.cell? ⟨w.heap.size,2,none⟩=some (.slice OA on oc):=(BW.out.cell (p:=⟨w.heap.size,2,none⟩) (by simp)).trans (by simp);have hsz:w.heap.size < wr.heap.size:=by have:=BW.out.size;simp at this;omega
   by_cases hlt:kk < gn
   ·have hltz:(kk:Int) < (gn:Int):=by omega
    obtain ⟨ad,rfl,hb,hg0,hg1,hg2⟩:=((HG.out.alloc (Nat.le_refl _) _).below BW.out (by omega)).gate hlt;generalize hy:gs.getD kk default=g at hg0 hg1 hg2;have HY:Aside (gs.getD kk default=g):=hy;clear hy;go_wp2_with fail;refine (operands_any _ _).mono ?_;rintro e w' ⟨rfl,rfl⟩;have b0:=operandsF_bd g.op;go_wp2_with fail
    ·refine (wire_any g.a 1 (operandsF g.op) inputs kk _ _ _ _ (by go_cell) (by simp (disch:=(simp;omega)) only [World.cell?_alloc_lt];exact hc0) (by go_cell) h0 h1 (by omega) (by omega)).mono ?_;rintro e w' ⟨rfl,rfl⟩;go_wp2_with fail
     ·refine (wire_any g.b 2 (operandsF g.op) inputs kk _ _ _ _ (by go_cell) (by simp (disch:=(simp;omega)) only [World.cell?_alloc_lt];exact hc0) (by go_cell) h0 h1 (by omega) (by omega)).mono ?_;rintro e w' ⟨rfl,rfl⟩;have BB:=BW.out;have B0:=below_box (k:=1) BW.out;have hA:wireOk (operandsF g.op) g.a 1 (inputs+kk)=true:=by assumption
      have hgo:gateOk (inputs+kk) g=wireOk (operandsF g.op) g.b 2 (inputs+kk):=by unfold gateOk;rw [hA,decide_eq_true (by assumption)];simp
      have HGO:Aside (gateOk (inputs+kk) g=wireOk (operandsF g.op) g.b 2 (inputs+kk)):=hgo;clear hgo
      cases hB:wireOk (operandsF g.op) g.b 2 (inputs+kk)
      ·have h0':¬ operandsF g.op < 0:=by omega
       go_wp2;go_ret;refine ⟨ret_bool ?_,?_⟩
       ·exact (right_false_gate ⟨inputs,gs,os⟩ kk (by rw [HN.out];exact hlt) (by rw [HY.out,HGO.out,hB])).symm
       ·go_grown
      ·have h0':¬ operandsF g.op < 0:=by omega
       go_wp2;go_roundg (gn - (kk+1))
       case measure=>omega
       case rel=>
        refine ⟨kk+1,by omega,by omega,by go_num,?_,(show Aside _ from fun j hj=>?_)⟩
        ·show Below _ _ _;go_grown
        ·by_cases e:j=kk
         ·subst e;rw [HY.out,HGO.out,hB]
         ·exact AA.out j (by omega)
     ·have BB:=BW.out;have B0:=below_box (k:=1) BW.out;have hA:¬ wireOk (operandsF g.op) g.a 1 (inputs+kk)=true:=by assumption
      go_ret;refine ⟨ret_bool ?_,?_⟩
      ·exact (right_false_gate ⟨inputs,gs,os⟩ kk (by rw [HN.out];exact hlt) (by rw [HY.out];unfold gateOk;simp [hA])).symm
      ·go_grown
    ·have BB:=BW.out;have B0:=below_box (k:=1) BW.out;go_ret;refine ⟨ret_bool ?_,?_⟩
     ·exact (right_false_gate ⟨inputs,gs,os⟩ kk (by rw [HN.out];exact hlt) (by rw [HY.out];unfold gateOk;rw [decide_eq_false (by omega)];rfl)).symm
     ·go_grown
   ·have hltz:¬ (kk:Int) < (gn:Int):=by omega
    obtain rfl:kk=gn:=by omega
    have BB:=BW.out;have B0:=below_box (k:=1) BW.out;go_wp2_with fail;refine (containsFunc_ints OA on oc os _ _ (fun x=>!outOk (inputs+kk) x) _ (enters Tryz.func79 (by kernel_rfl) rfl) (((HO.out.alloc (Nat.le_refl _) _).below BW.out (by omega)).more (by omega)) hm2 ?_).mono ?_
    ·intro W x hx hb;refine (outs_any x inputs w.heap.size GA kk gc W ((hb.cell (by show w.heap.size < _;omega)).trans hc0) ((hb.cell (by show w.heap.size < _;omega)).trans hc1) h0 h1 h2).mono ?_;rintro e w' ⟨rfl,rfl⟩;exact ⟨rfl,hb⟩
    ·rintro e w' ⟨rfl,hb'⟩;go_wp2;go_ret;refine ⟨ret_bool ?_,B0.trans (hb'.mono (by omega))⟩;rw [right_true_gates ⟨inputs,gs,os⟩ ⟨h0,h1,by rw [HN.out];exact h2,by rw [HM.out];exact h3⟩ (fun j hj=>AA.out j (by rw [HN.out] at hj;exact hj)),HN.out]
     simp [List.all_eq_not_any_not]
 ·have h':¬ (((0≤inputs∧inputs≤1000)∧(gn:Int)≤20000)∧(on:Int)≤1000):=by omega
  have HK:Aside (rightC ⟨inputs,gs,os⟩=false):=by
   show _=_;unfold rightC;rw [decide_eq_false (by simp only [HN.out,HM.out];exact hok)];rfl
  clear hok;go_enter Tryz.func32,Tryz.ntmps32;go_wp2
  all_goals go_ret
  all_goals (rw [HK.out];exact ⟨rfl,by go_grown⟩)
end Go.Proofs.YtbijfnbelkbofaaGreatDoor
namespace Go.Proofs.YtbijfnbelkbofaaGreatDoor
open Go.RowKit
theorem cright_at (c:Circ) (GA OA:Option Addr) (gn gc on oc:Nat) (w:World) (h:CAt w c GA OA gn on):
 Calls Tryz.prog 32 #[.agg #[.int .i64 c.inputs,.slice GA gn gc,.slice OA on oc]] w fun e w'=>e=.returned (.bool (rightC c))∧Below w.heap.size w w':=
 cright_any c.inputs GA OA gn gc on oc c.gates c.outs w h.gates h.outs h.g63 h.o63
theorem gate_ok_ops {lim:Int} {g:Gt} (h:gateOk lim g=true):(1≤operandsO g.op→0≤g.a∧g.a < lim)∧(operandsO g.op=2→0≤g.b∧g.b < lim):=by
 obtain ⟨ho,ha,hb,_,_⟩:=gateOk_parts h;have hop:=operandsO_of ho
 constructor
 ·intro h1;rw [hop] at h1;exact ha (by split at h1 <;> omega)
 ·intro h1;rw [hop] at h1;exact hb (by split at h1 <;> (try split at h1) <;> omega)
set_option maxRecDepth 100000 in
set_option maxHeartbeats 8000000 in
theorem fold_any (c:Circ) (GA OA:Option Addr) (gn gc on oc:Nat) (w:World) (hc:CAt w c GA OA gn on):
 Calls Tryz.prog 35 #[.agg #[.int .i64 c.inputs,.slice GA gn gc,.slice OA on oc]] w (CiPost (foldC c) w.heap.size w):=by
 have HC0:Hid (CAt w c GA OA gn on):=hc;have HGL:Hid (∀ _:Unit,c.gates.length=gn):=fun _=>hc.gl
 have HOL:Hid (∀ _:Unit,c.outs.length=on):=fun _=>hc.ol
 clear hc;go_enter Tryz.func35,Tryz.ntmps35;go_wp2_with fail;obtain ⟨wa,hW9,RC,RR,hgr9⟩:=laid2 w [.int .i64 c.inputs,.slice GA gn gc,.slice OA on oc] 36 [.int .i64 0,.slice none 0 0,.slice none 0 0] 36;rewrite [hW9];clear hW9;have B_w:=hiD hgr9;clear hgr9;have hwa:w.heap.size+1 < wa.heap.size:=RR.out.lt
 obtain ⟨q,hq⟩:∃ q,rightC c=q:=⟨_,rfl⟩
 have HQ:=hiU hq;have HC:=cright_at c GA OA gn gc on oc wa (HC0.out.up B_w.out);rw [hq] at HC;clear hq;refine HC.mono ?_;clear HC;rintro e w1 ⟨rfl,hb⟩;have hwb:wa.heap.size≤w1.heap.size:=hb.size;have B_w:=hiD (below_on2 B_w.out hb);have B_wa:Hid (Below wa.heap.size wa w1):=hb;clear hb;have RR1:=hiD (rowCells RR.out B_wa.out);have RC1:=hiD (rowCells RC.out B_wa.out);have BW1:Hid (Below w.heap.size w w1):=B_w;clear B_w B_wa RC RR
 cases q
 ·skip
  obtain ⟨z0,z1,z2,zl⟩:=RR1.out.cells3;obtain ⟨zf0,zf1,zf2⟩:=RR1.out.froz3;go_wp2;have Z9:=RR1.out.set3 (.int .i64 0) (.slice none 0 0) (.slice none 0 0);have B9:=bSet3 BW1.out (w.heap.size+1) (by show _≤(w.heap.size+1);omega) (.int .i64 0) (.slice none 0 0) (.slice none 0 0);obtain ⟨d0,d1,d2,-⟩:=Z9.cells3;clear Z9;refine bodyPost_ret (v:=.agg #[.int .i64 0,.slice none 0 0,.slice none 0 0]) (by simp [results,Tryz.results35,go_sem,d0,d1,d2]) rfl ?_;have HV:foldC c=noCirc:=by unfold foldC;rw [if_neg (by rw [HQ.out ()];decide)]
  rw [HV];exact ⟨none,none,0,0,0,0,rfl,noCirc_at _,.none,.none,B9⟩
 ·have HR:Hid (rightC c=true):=HQ.out ();obtain ⟨⟨hn0,hn1,hg0,ho0⟩,_⟩:=rightC_parts HR.out;rw [HGL.out ()] at hg0;rw [HOL.out ()] at ho0;clear HQ;obtain ⟨k0,k1,k2,kl⟩:=RC1.out.cells3;go_wp2_with fail;refine (start_any c GA OA gn gc on oc w1 ⟨hn0,hn1⟩).mono ?_;rintro e w2 ⟨rfl,hwk,hb⟩;have HK:Hid (WkAt w2 w1.heap.size (w1.heap.size+1) c.inputs (foldTo c 0)):=hwk;have RR2:=hiD (rowCells RR1.out hb);have RC2:=hiD (rowCells RC1.out hb);have BW2:=hiD (below_on2 BW1.out hb);have hs2:w1.heap.size+1 < w2.heap.size:=hwk.blk.1;clear hwk hb k0 k1 k2 kl RR1 RC1 BW1;obtain ⟨k0,k1,k2,kl⟩:=RC2.out.cells3;go_wp2_with fail;clear k0 k1 k2 kl
  go_loopg [5,15] gn (fun gg _ s15 wr=>∃ k:Nat,k≤gn∧gn - k≤gg∧s15=.int .i64 k∧w1.heap.size+1 < wr.heap.size∧Aside (Below w.heap.size w wr)∧Aside (Row wr w.heap.size 36 [.int .i64 c.inputs,.slice GA gn gc,.slice OA on oc])∧Aside (Row wr (w.heap.size+1) 36 [.int .i64 0,.slice none 0 0,.slice none 0 0])∧Aside (WkAt wr w1.heap.size (w1.heap.size+1) c.inputs (foldTo c k)))
  case atStart=>exact ⟨0,Nat.zero_le _,by omega,rfl,hs2,BW2.out,RC2.out,RR2.out,HK.out⟩
  case round=>
   clear RC2 RR2 BW2 HK;obtain ⟨k,hk,hgg,rfl,hsz,BW,RC,RR,HK⟩:=hrel;by_cases hlt:k < gn
   ·have hlz:(k:Int) < (gn:Int):=by omega
    have hkc:k < c.gates.length:=by rw [HGL.out ()];exact hlt
    obtain ⟨ad,rfl,hab,c0,c1,c2⟩:=(HC0.out.up BW.out).gates.gate hlt;obtain ⟨l1,l2⟩:=foldTo_len c k;have hso:=foldTo_ok HR.out k (by omega);have hgo:=gateAt_ok HR.out hkc;have hmo:=moveG_ok hso hgo (by omega) (fun _=>trivial) (fun _=>trivial);obtain ⟨g1,g2⟩:=gate_ok_ops hgo;have HST:Hid (∀ _:Unit,foldTo c (k+1)=addW c.inputs (foldTo c k) (foldG c.inputs (foldTo c k).gates (moveG (foldTo c k).tq (gateAt c k)))):=fun _=>rfl
    change wr.cell? _=some (.int .i64 (gateAt c k).op) at c0;change wr.cell? _=some (.int .i64 (gateAt c k).a) at c1;change wr.cell? _=some (.int .i64 (gateAt c k).b) at c2;generalize gateAt c k=g at c0 c1 c2 hgo hmo g1 g2 HST;generalize foldTo c k=s at HK l1 l2 hso hmo HST
    obtain ⟨h,hh⟩:∃ h,moveG s.tq g=h:=⟨_,rfl⟩
    rw [hh] at hmo;have HMV:=hiU hh;have HMO:Hid (gateOk (c.inputs+(s.gates.length:Int)) h=true):=hmo
    have HGA:Hid ((1≤operandsO g.op→0≤g.a∧g.a < (s.tq.length:Int))∧(operandsO g.op=2→0≤g.b∧g.b < (s.tq.length:Int))):=⟨fun q=>by have:=g1 q;omega,fun q=>by have:=g2 q;omega⟩
    have htl:s.tq.length≤30000:=by omega
    have hgl:s.gates.length≤20000:=by omega
    have HLG:=hiU l1;clear l1 l2 hso hgo hmo g1 g2 hh hkc;go_wp2_with fail;clear c0 c1 c2 hab;obtain ⟨wx,hW9,RB,hgr9⟩:=laid1 wr [.int .i64 g.op,.int .i64 g.a,.int .i64 g.b] 135;rewrite [hW9];clear hW9;have B_wr:=hiD hgr9;clear hgr9;have HC:=moved_any w1.heap.size (w1.heap.size+1) c.inputs s g wx (HK.out.below B_wr.out) htl HGA.out.1 HGA.out.2;rw [HMV.out ()] at HC;refine HC.mono ?_;clear HC;rintro e w3 ⟨rfl,hb⟩;have hszx:wr.heap.size < wx.heap.size:=RB.out.lt;have B_wr:=hiD (below_on2 B_wr.out hb);have B_wx:Hid (Below wx.heap.size wx w3):=hb;clear hb;have RB3:=hiD (rowCells RB.out B_wx.out);obtain ⟨hop,hha,hhb,-,-⟩:=gateOk_parts HMO.out;obtain ⟨op,x,y⟩:=h;dsimp only at hop hha hhb;have HHA:=hiU hha;have HHB:=hiU hhb;clear hha hhb HMO;rcases hop with rfl | rfl | rfl | rfl | rfl | rfl
    ·skip
     have HFG:Hid (∀ _:Unit,foldG c.inputs s.gates ⟨0,x,y⟩=(⟨0,x,y⟩,-1)):=fun _=>rfl
     obtain ⟨k0,k1,k2,kl⟩:=RB3.out.cells3;obtain ⟨kf0,kf1,kf2⟩:=RB3.out.froz3;go_wp2_with fail;have BL:=hiD (bSet3 B_wr.out wr.heap.size (Nat.le_refl _) (.int .i64 0) (.int .i64 x) (.int .i64 y));clear k0 k1 k2 kl kf0 kf1 kf2 RB3 B_wr B_wx RB;revert BL;generalize (World.setCell (World.setCell (World.setCell w3 ⟨wr.heap.size,0,none⟩ (.int .i64 0)) ⟨wr.heap.size,1,none⟩ (.int .i64 x)) ⟨wr.heap.size,2,none⟩ (.int .i64 y))=w4;intro BL;have HK4:Hid (WkAt w4 w1.heap.size (w1.heap.size+1) c.inputs s):=HK.out.below BL.out;have hs4:wr.heap.size≤w4.heap.size:=BL.out.size;refine (add_any w1.heap.size (w1.heap.size+1) c.inputs s ⟨0,x,y⟩ (-1) w4 HK4.out (by omega) ⟨hn0,hn1⟩ hgl htl).mono ?_;rintro e w5 ⟨rfl,hwk,hfr⟩
     have HK5:Hid (WkAt w5 w1.heap.size (w1.heap.size+1) c.inputs (foldTo c (k+1))):=(by show WkAt _ _ _ _ _;rw [HST.out (),HMV.out (),HFG.out ()];exact hwk)
     have RC5:=hiD (hfr.row (rowCells RC.out BL.out) (by decide) (by decide) (by decide));have RR5:=hiD (hfr.row (rowCells RR.out BL.out) (by decide) (by decide) (by decide));have BW5:Hid (Below w.heap.size w w5):=BW.out.trans ((BL.out.mono (by omega)).trans (hfr.below.mono (by omega)));have hs5:w1.heap.size+1 < w5.heap.size:=hwk.blk.1;clear hwk hfr BL HK4;go_wp2_with fail;go_roundg (gn - (k+1))
     case measure=>omega
     case rel=>exact ⟨k+1,by omega,by omega,by go_num,hs5,BW5.out,RC5.out,RR5.out,HK5.out⟩
    ·skip
     have HFG:Hid (∀ _:Unit,foldG c.inputs s.gates ⟨1,x,y⟩=(⟨1,x,y⟩,-1)):=fun _=>rfl
     obtain ⟨k0,k1,k2,kl⟩:=RB3.out.cells3;obtain ⟨kf0,kf1,kf2⟩:=RB3.out.froz3;go_wp2_with fail;have BL:=hiD (bSet3 B_wr.out wr.heap.size (Nat.le_refl _) (.int .i64 1) (.int .i64 x) (.int .i64 y));clear k0 k1 k2 kl kf0 kf1 kf2 RB3 B_wr B_wx RB;revert BL;generalize (World.setCell (World.setCell (World.setCell w3 ⟨wr.heap.size,0,none⟩ (.int .i64 1)) ⟨wr.heap.size,1,none⟩ (.int .i64 x)) ⟨wr.heap.size,2,none⟩ (.int .i64 y))=w4;intro BL;have HK4:Hid (WkAt w4 w1.heap.size (w1.heap.size+1) c.inputs s):=HK.out.below BL.out;have hs4:wr.heap.size≤w4.heap.size:=BL.out.size;refine (add_any w1.heap.size (w1.heap.size+1) c.inputs s ⟨1,x,y⟩ (-1) w4 HK4.out (by omega) ⟨hn0,hn1⟩ hgl htl).mono ?_;rintro e w5 ⟨rfl,hwk,hfr⟩
     have HK5:Hid (WkAt w5 w1.heap.size (w1.heap.size+1) c.inputs (foldTo c (k+1))):=(by show WkAt _ _ _ _ _;rw [HST.out (),HMV.out (),HFG.out ()];exact hwk)
     have RC5:=hiD (hfr.row (rowCells RC.out BL.out) (by decide) (by decide) (by decide));have RR5:=hiD (hfr.row (rowCells RR.out BL.out) (by decide) (by decide) (by decide));have BW5:Hid (Below w.heap.size w w5):=BW.out.trans ((BL.out.mono (by omega)).trans (hfr.below.mono (by omega)));have hs5:w1.heap.size+1 < w5.heap.size:=hwk.blk.1;clear hwk hfr BL HK4;go_wp2_with fail;go_roundg (gn - (k+1))
     case measure=>omega
     case rel=>exact ⟨k+1,by omega,by omega,by go_num,hs5,BW5.out,RC5.out,RR5.out,HK5.out⟩
    ·skip
     have HFG:Hid (∀ _:Unit,foldG c.inputs s.gates ⟨2,x,y⟩=notF c.inputs s.gates x):=fun _=>rfl
     obtain ⟨k0,k1,k2,kl⟩:=RB3.out.cells3;obtain ⟨kf0,kf1,kf2⟩:=RB3.out.froz3;go_wp2_with fail;have BL:=hiD (bSet3 B_wr.out wr.heap.size (Nat.le_refl _) (.int .i64 2) (.int .i64 x) (.int .i64 y));clear k0 k1 k2 kl kf0 kf1 kf2 RB3 B_wr B_wx RB;revert BL;generalize (World.setCell (World.setCell (World.setCell w3 ⟨wr.heap.size,0,none⟩ (.int .i64 2)) ⟨wr.heap.size,1,none⟩ (.int .i64 x)) ⟨wr.heap.size,2,none⟩ (.int .i64 y))=w4;intro BL;have HK4:Hid (WkAt w4 w1.heap.size (w1.heap.size+1) c.inputs s):=HK.out.below BL.out;have hs4:wr.heap.size≤w4.heap.size:=BL.out.size;refine (notO_any w1.heap.size (w1.heap.size+1) c.inputs s x w4 HK4.out (by omega) ⟨hn0,hn1⟩ hgl htl (HHA.out () (by omega))).mono ?_;rintro e w5 ⟨rfl,hwk,hfr⟩
     have HK5:Hid (WkAt w5 w1.heap.size (w1.heap.size+1) c.inputs (foldTo c (k+1))):=(by show WkAt _ _ _ _ _;rw [HST.out (),HMV.out (),HFG.out ()];exact hwk)
     have RC5:=hiD (hfr.row (rowCells RC.out BL.out) (by decide) (by decide) (by decide));have RR5:=hiD (hfr.row (rowCells RR.out BL.out) (by decide) (by decide) (by decide));have BW5:Hid (Below w.heap.size w w5):=BW.out.trans ((BL.out.mono (by omega)).trans (hfr.below.mono (by omega)));have hs5:w1.heap.size+1 < w5.heap.size:=hwk.blk.1;clear hwk hfr BL HK4;go_wp2_with fail;go_roundg (gn - (k+1))
     case measure=>omega
     case rel=>exact ⟨k+1,by omega,by omega,by go_num,hs5,BW5.out,RC5.out,RR5.out,HK5.out⟩
    ·skip
     have HFG:Hid (∀ _:Unit,foldG c.inputs s.gates ⟨3,x,y⟩=eitherF c.inputs s.gates ⟨3,x,y⟩ 0 1):=fun _=>rfl
     obtain ⟨k0,k1,k2,kl⟩:=RB3.out.cells3;obtain ⟨kf0,kf1,kf2⟩:=RB3.out.froz3;go_wp2_with fail;have BL:=hiD (bSet3 B_wr.out wr.heap.size (Nat.le_refl _) (.int .i64 3) (.int .i64 x) (.int .i64 y));clear k0 k1 k2 kl kf0 kf1 kf2 RB3 B_wr B_wx RB;revert BL;generalize (World.setCell (World.setCell (World.setCell w3 ⟨wr.heap.size,0,none⟩ (.int .i64 3)) ⟨wr.heap.size,1,none⟩ (.int .i64 x)) ⟨wr.heap.size,2,none⟩ (.int .i64 y))=w4;intro BL;have HK4:Hid (WkAt w4 w1.heap.size (w1.heap.size+1) c.inputs s):=HK.out.below BL.out;have hs4:wr.heap.size≤w4.heap.size:=BL.out.size;refine (either_any w1.heap.size (w1.heap.size+1) c.inputs s ⟨3,x,y⟩ 0 1 w4 HK4.out (by omega) ⟨hn0,hn1⟩ hgl htl (HHA.out () (by omega)) (HHB.out () (by omega))).mono ?_;rintro e w5 ⟨rfl,hwk,hfr⟩
     have HK5:Hid (WkAt w5 w1.heap.size (w1.heap.size+1) c.inputs (foldTo c (k+1))):=(by show WkAt _ _ _ _ _;rw [HST.out (),HMV.out (),HFG.out ()];exact hwk)
     have RC5:=hiD (hfr.row (rowCells RC.out BL.out) (by decide) (by decide) (by decide));have RR5:=hiD (hfr.row (rowCells RR.out BL.out) (by decide) (by decide) (by decide));have BW5:Hid (Below w.heap.size w w5):=BW.out.trans ((BL.out.mono (by omega)).trans (hfr.below.mono (by omega)));have hs5:w1.heap.size+1 < w5.heap.size:=hwk.blk.1;clear hwk hfr BL HK4;go_wp2_with fail;go_roundg (gn - (k+1))
     case measure=>omega
     case rel=>exact ⟨k+1,by omega,by omega,by go_num,hs5,BW5.out,RC5.out,RR5.out,HK5.out⟩
    ·skip
     have HFG:Hid (∀ _:Unit,foldG c.inputs s.gates ⟨4,x,y⟩=eitherF c.inputs s.gates ⟨4,x,y⟩ 1 0):=fun _=>rfl
     obtain ⟨k0,k1,k2,kl⟩:=RB3.out.cells3;obtain ⟨kf0,kf1,kf2⟩:=RB3.out.froz3;go_wp2_with fail;have BL:=hiD (bSet3 B_wr.out wr.heap.size (Nat.le_refl _) (.int .i64 4) (.int .i64 x) (.int .i64 y));clear k0 k1 k2 kl kf0 kf1 kf2 RB3 B_wr B_wx RB;revert BL;generalize (World.setCell (World.setCell (World.setCell w3 ⟨wr.heap.size,0,none⟩ (.int .i64 4)) ⟨wr.heap.size,1,none⟩ (.int .i64 x)) ⟨wr.heap.size,2,none⟩ (.int .i64 y))=w4;intro BL;have HK4:Hid (WkAt w4 w1.heap.size (w1.heap.size+1) c.inputs s):=HK.out.below BL.out;have hs4:wr.heap.size≤w4.heap.size:=BL.out.size;refine (either_any w1.heap.size (w1.heap.size+1) c.inputs s ⟨4,x,y⟩ 1 0 w4 HK4.out (by omega) ⟨hn0,hn1⟩ hgl htl (HHA.out () (by omega)) (HHB.out () (by omega))).mono ?_;rintro e w5 ⟨rfl,hwk,hfr⟩
     have HK5:Hid (WkAt w5 w1.heap.size (w1.heap.size+1) c.inputs (foldTo c (k+1))):=(by show WkAt _ _ _ _ _;rw [HST.out (),HMV.out (),HFG.out ()];exact hwk)
     have RC5:=hiD (hfr.row (rowCells RC.out BL.out) (by decide) (by decide) (by decide));have RR5:=hiD (hfr.row (rowCells RR.out BL.out) (by decide) (by decide) (by decide));have BW5:Hid (Below w.heap.size w w5):=BW.out.trans ((BL.out.mono (by omega)).trans (hfr.below.mono (by omega)));have hs5:w1.heap.size+1 < w5.heap.size:=hwk.blk.1;clear hwk hfr BL HK4;go_wp2_with fail;go_roundg (gn - (k+1))
     case measure=>omega
     case rel=>exact ⟨k+1,by omega,by omega,by go_num,hs5,BW5.out,RC5.out,RR5.out,HK5.out⟩
    ·skip
     have HFG:Hid (∀ _:Unit,foldG c.inputs s.gates ⟨5,x,y⟩=xorF c.inputs s.gates ⟨5,x,y⟩):=fun _=>rfl
     obtain ⟨k0,k1,k2,kl⟩:=RB3.out.cells3;obtain ⟨kf0,kf1,kf2⟩:=RB3.out.froz3;go_wp2_with fail;have BL:=hiD (bSet3 B_wr.out wr.heap.size (Nat.le_refl _) (.int .i64 5) (.int .i64 x) (.int .i64 y));clear k0 k1 k2 kl kf0 kf1 kf2 RB3 B_wr B_wx RB;revert BL;generalize (World.setCell (World.setCell (World.setCell w3 ⟨wr.heap.size,0,none⟩ (.int .i64 5)) ⟨wr.heap.size,1,none⟩ (.int .i64 x)) ⟨wr.heap.size,2,none⟩ (.int .i64 y))=w4;intro BL;have HK4:Hid (WkAt w4 w1.heap.size (w1.heap.size+1) c.inputs s):=HK.out.below BL.out;have hs4:wr.heap.size≤w4.heap.size:=BL.out.size;refine (xor_any w1.heap.size (w1.heap.size+1) c.inputs s ⟨5,x,y⟩ w4 HK4.out (by omega) ⟨hn0,hn1⟩ hgl htl (HHA.out () (by omega)) (HHB.out () (by omega))).mono ?_;rintro e w5 ⟨rfl,hwk,hfr⟩
     have HK5:Hid (WkAt w5 w1.heap.size (w1.heap.size+1) c.inputs (foldTo c (k+1))):=(by show WkAt _ _ _ _ _;rw [HST.out (),HMV.out (),HFG.out ()];exact hwk)
     have RC5:=hiD (hfr.row (rowCells RC.out BL.out) (by decide) (by decide) (by decide));have RR5:=hiD (hfr.row (rowCells RR.out BL.out) (by decide) (by decide) (by decide));have BW5:Hid (Below w.heap.size w w5):=BW.out.trans ((BL.out.mono (by omega)).trans (hfr.below.mono (by omega)));have hs5:w1.heap.size+1 < w5.heap.size:=hwk.blk.1;clear hwk hfr BL HK4;go_wp2_with fail;go_roundg (gn - (k+1))
     case measure=>omega
     case rel=>exact ⟨k+1,by omega,by omega,by go_num,hs5,BW5.out,RC5.out,RR5.out,HK5.out⟩
   ·have hlz:¬ (k:Int) < (gn:Int):=by omega
    obtain rfl:gn=k:=by omega
    obtain ⟨l1,l2⟩:=foldTo_len c gn;have HV:Hid (∀ _:Unit,foldC c=doneW c (foldTo c gn)):=fun _=>by unfold foldC;rw [if_pos HR.out,HGL.out ()]
    have HOB:Hid (∀ i,i < c.outs.length→0≤c.outs.getD i 0∧c.outs.getD i 0 < ((foldTo c gn).tq.length:Int)):=fun i hi=>by
     have:=outOk_at (rightC_parts HR.out).2.2 hi;rw [HGL.out ()] at this;omega
    have hone:0 < (foldTo c gn).tq.length∨on=0:=by
     rcases Nat.eq_zero_or_pos on with h0 | h0
     ·exact .inr h0
     ·have:=HOB.out 0 (by rw [HOL.out ()];exact h0);exact .inl (by omega)
    obtain ⟨k0,k1,k2,kl⟩:=RC.out.cells3;go_wp2_with fail;refine (done_any w1.heap.size (w1.heap.size+1) c.inputs (foldTo c gn) c GA OA gn gc on oc wr HK.out (by omega) (HC0.out.up BW.out) hone (by omega) (by omega) (by omega) HOB.out).mono ?_;rintro e w3 ⟨GB,OB,hn,hc,pn,pc,he,hca,hf1,hf2,hb⟩;have he2:e=.returned (.agg #[.int .i64 c.inputs,.slice GB hn hc,.slice OB pn pc]):=he;subst he2;clear he
    have HCA:Hid (CAt w3 (foldC c) GB OB hn pn):=(by show CAt _ _ _ _ _ _;rw [HV.out ()];exact hca)
    have HF1:Hid (CFrom GB hn w1.heap.size):=hf1;have HF2:Hid (CFrom OB pn w1.heap.size):=hf2;have RR3:=hiD (rowCells RR.out hb);have BW3:=hiD (below_on2 BW.out hb);clear hca hf1 hf2 hb k0 k1 k2 kl HOB hone RC RR BW HK;obtain ⟨z0,z1,z2,zl⟩:=RR3.out.cells3;obtain ⟨zf0,zf1,zf2⟩:=RR3.out.froz3;go_wp2;have Z9:=RR3.out.set3 (.int .i64 c.inputs) (.slice GB hn hc) (.slice OB pn pc);have B9:=bSet3 BW3.out (w.heap.size+1) (by show _≤(w.heap.size+1);omega) (.int .i64 c.inputs) (.slice GB hn hc) (.slice OB pn pc);obtain ⟨d0,d1,d2,-⟩:=Z9.cells3;clear Z9;refine bodyPost_ret (v:=.agg #[.int .i64 c.inputs,.slice GB hn hc,.slice OB pn pc]) (by simp [results,Tryz.results35,go_sem,d0,d1,d2]) rfl ?_;have HIN:(foldC c).inputs=c.inputs:=by rw [HV.out ()];rfl
    exact ⟨GB,OB,hn,hc,pn,pc,by rw [HIN],(CAt.farSet (CAt.farSet (CAt.farSet HCA.out (p:=⟨(w.heap.size+1),0,none⟩) (HF1.out.ne (by show (w.heap.size+1) < _;omega)) (HF2.out.ne (by show (w.heap.size+1) < _;omega)) (.int .i64 c.inputs)) (p:=⟨(w.heap.size+1),1,none⟩) (HF1.out.ne (by show (w.heap.size+1) < _;omega)) (HF2.out.ne (by show (w.heap.size+1) < _;omega)) (.slice GB hn hc)) (p:=⟨(w.heap.size+1),2,none⟩) (HF1.out.ne (by show (w.heap.size+1) < _;omega)) (HF2.out.ne (by show (w.heap.size+1) < _;omega)) (.slice OB pn pc)),HF1.out.mono (by omega),HF2.out.mono (by omega),B9⟩
end Go.Proofs.YtbijfnbelkbofaaGreatDoor
namespace Go.Proofs.YtbijfnbelkbofaaGreatDoor
open Go.RowKit
structure Pt where
 x:Int
 y:Int
instance:Inhabited Pt:=⟨⟨0,0⟩⟩
structure Nd where
 level:Int
 next:List Int
instance:Inhabited Nd:=⟨⟨0,[]⟩⟩
structure Tre where
 states:Int
 hood:List Pt
 nodes:List Nd
structure Sl where
 at_:Option Addr
 len:Nat
 cap:Nat
instance:Inhabited Sl:=⟨⟨none,0,0⟩⟩
def ptCells (p:Pt):List Value:=[.int .i64 p.x,.int .i64 p.y]
def hoodCells (l:List Pt):List Value:=l.flatMap ptCells
def ndCells (p:Nd × Sl):List Value:=[.int .i64 p.1.level,.slice p.2.at_ p.2.len p.2.cap]
def nodesCells (ns:List Nd) (sl:List Sl):List Value:=(ns.zip sl).flatMap ndCells
theorem flat2_length {α:Type} (f:α→List Value) (hf:∀ x,(f x).length=2) (l:List α):(l.flatMap f).length=l.length * 2:=by
 induction l with
 | nil=>rfl
 | cons x l ih=>simp only [List.flatMap_cons,List.length_append,List.length_cons,hf,ih];omega
theorem flat2_get {α:Type} [Inhabited α] (f:α→List Value) (hf:∀ x,(f x).length=2) (l:List α) (k:Nat) (hk:k < l.length):
 (l.flatMap f)[k * 2]?=(f (l.getD k default))[0]?∧(l.flatMap f)[k * 2+1]?=(f (l.getD k default))[1]?:=by
 induction l generalizing k with
 | nil=>simp at hk
 | cons x l ih=>
  cases k with
  | zero=>
   simp only [List.flatMap_cons,Nat.zero_mul,Nat.zero_add,List.getD_cons_zero];rw [List.getElem?_append_left (by rw [hf];omega),List.getElem?_append_left (by rw [hf];omega)];exact ⟨rfl,rfl⟩
  | succ k=>
   have:=ih k (by simpa using hk);simp only [List.flatMap_cons,List.getD_cons_succ];rw [List.getElem?_append_right (by rw [hf];omega),List.getElem?_append_right (by rw [hf];omega),hf];rw [show (k+1) * 2 - 2=k * 2 by omega,show (k+1) * 2+1 - 2=k * 2+1 by omega];exact this
theorem Rd.row2 {w:World} {B n:Nat} {A:Option Addr} {xs:List Value} (h:Rd w B 2 A n xs) {k:Nat} (hk:k < n) {x0 x1:Value}
 (h0:xs[k * 2]?=some x0) (h1:xs[k * 2+1]?=some x1):
 ∃ ad,A=some ad∧ad.block < B∧w.cell? (ad.add (k * 2))=some x0∧w.cell? ⟨(ad.add (k * 2)).block,(ad.add (k * 2)).off+1,none⟩=some x1:=by
 obtain ⟨ad,e,hb,hc⟩:=h.2 (by omega);exact ⟨ad,e,hb,hc _ _ h0,(congrArg w.cell? (add_add' ad (k * 2) 1)).trans (hc _ _ h1)⟩
structure TAt (w:World) (t:Tre) (HA NA:Option Addr) (hn nn:Nat) (sl:List Sl):Prop where
 hood:Rd w w.heap.size 2 HA hn (hoodCells t.hood)
 nodes:Rd w w.heap.size 2 NA nn (nodesCells t.nodes sl)
 sll:sl.length=t.nodes.length
 next:∀ i,i < t.nodes.length→Rd w w.heap.size 1 (sl.getD i default).at_ (sl.getD i default).len (ints (t.nodes.getD i default).next)∧(sl.getD i default).len≤maxLen
 h63:hn≤maxLen
 n63:nn≤maxLen
theorem TAt.up {w w':World} {t:Tre} {HA NA:Option Addr} {hn nn:Nat} {sl:List Sl} (h:TAt w t HA NA hn nn sl) (hb:Below w.heap.size w w'):TAt w' t HA NA hn nn sl:=
 ⟨h.hood.up hb,h.nodes.up hb,h.sll,fun i hi=>⟨(h.next i hi).1.up hb,(h.next i hi).2⟩,h.h63,h.n63⟩
theorem TAt.hl {w:World} {t:Tre} {HA NA:Option Addr} {hn nn:Nat} {sl:List Sl} (h:TAt w t HA NA hn nn sl):t.hood.length=hn:=by
 have:=h.hood.1;rw [hoodCells,flat2_length _ (fun _=>rfl)] at this;omega
theorem TAt.nl {w:World} {t:Tre} {HA NA:Option Addr} {hn nn:Nat} {sl:List Sl} (h:TAt w t HA NA hn nn sl):t.nodes.length=nn:=by
 have h1:=h.nodes.1;have h2:=h.sll;rw [nodesCells,flat2_length _ (fun _=>rfl),List.length_zip] at h1;omega
theorem TAt.node {w:World} {t:Tre} {HA NA:Option Addr} {hn nn:Nat} {sl:List Sl} (h:TAt w t HA NA hn nn sl) {k:Nat} (hk:k < nn):
 ∃ ad,NA=some ad∧ad.block < w.heap.size∧w.cell? (ad.add (k * 2))=some (.int .i64 (t.nodes.getD k default).level) ∧
  w.cell? ⟨(ad.add (k * 2)).block,(ad.add (k * 2)).off+1,none⟩=some (.slice (sl.getD k default).at_ (sl.getD k default).len (sl.getD k default).cap):=by
 have hl:=h.nl;have hs:=h.sll;have hz:k < (t.nodes.zip sl).length:=by rw [List.length_zip];omega
 have hg:(t.nodes.zip sl).getD k default=(t.nodes.getD k default,sl.getD k default):=by
  simp only [List.getD_eq_getElem?_getD,List.getElem?_eq_getElem hz,List.getElem?_eq_getElem (show k < t.nodes.length by omega),List.getElem?_eq_getElem (show k < sl.length by omega),Option.getD_some,List.getElem_zip]
 obtain ⟨h0,h1⟩:=flat2_get ndCells (fun _=>rfl) (t.nodes.zip sl) k hz;rw [hg] at h0 h1;exact h.nodes.row2 hk h0 h1
end Go.Proofs.YtbijfnbelkbofaaGreatDoor
namespace Go.Proofs.YtbijfnbelkbofaaGreatDoor
open Go.RowKit
def radius:Int:=2
def ptOk (p:Pt):Bool:=decide ((-radius≤p.x∧p.x≤radius)∧(-radius≤p.y∧p.y≤radius))
def beforeP (a b:Pt):Bool:=decide (a.y < b.y∨a.y=b.y∧a.x < b.x)
def hoodPts (l:List Pt):Bool:=decide (∀ k,k < l.length→ptOk (l.getD k default)=true∧(k=0∨beforeP (l.getD (k - 1) default) (l.getD k default)=true))
def hoodOk (l:List Pt):Bool:=decide (1≤l.length∧l.length≤25) && hoodPts l
def linkOk (t:Tre) (i:Nat) (x:Nd) (k:Int):Bool:=decide (0≤k∧(x.level=1→k < t.states)∧(1 < x.level→k < i∧(t.nodes.getD k.toNat default).level=x.level - 1))
def nodeOk (t:Tre) (i:Nat):Bool:=
 decide (1≤(t.nodes.getD i default).level∧(t.nodes.getD i default).level≤t.hood.length∧((t.nodes.getD i default).next.length:Int)=t.states) && (t.nodes.getD i default).next.all (linkOk t i (t.nodes.getD i default))
def nodesOk (t:Tre):Bool:=decide (∀ i,i < t.nodes.length→nodeOk t i=true)
def headOk (t:Tre):Bool:=decide ((2≤t.states∧t.states≤8)∧1≤t.nodes.length∧t.nodes.length≤4096∧(t.nodes.getD (t.nodes.length - 1) default).level=t.hood.length)
def rightT (t:Tre):Bool:=hoodOk t.hood && (headOk t && nodesOk t)
theorem rightT_parts {t:Tre} (h:rightT t=true):hoodOk t.hood=true∧((2≤t.states∧t.states≤8)∧1≤t.nodes.length∧t.nodes.length≤4096∧(t.nodes.getD (t.nodes.length - 1) default).level=t.hood.length)∧(∀ i,i < t.nodes.length→nodeOk t i=true):=by
 simpa [rightT,headOk,nodesOk] using h
theorem nodeOk_parts {t:Tre} {i:Nat} (h:nodeOk t i=true):(1≤(t.nodes.getD i default).level∧(t.nodes.getD i default).level≤t.hood.length∧((t.nodes.getD i default).next.length:Int)=t.states) ∧
 ∀ s,s < (t.nodes.getD i default).next.length→linkOk t i (t.nodes.getD i default) ((t.nodes.getD i default).next.getD s 0)=true:=by
 simp only [nodeOk,Bool.and_eq_true,decide_eq_true_eq] at h;refine ⟨h.1,fun s hs=>?_⟩;have h2:=h.2;rw [List.all_eq_true] at h2;have:=h2 _ (List.getElem_mem hs);generalize (t.nodes.getD i default)=x at hs this ⊢;rw [List.getD_eq_getElem?_getD,List.getElem?_eq_getElem hs];exact this
def stepT (t:Tre) (k s:Int):Int:=(t.nodes.getD k.toNat default).next.getD s.toNat 0
def walkT (t:Tre) (k:Int) (ins:List Int):Int:=ins.foldl (stepT t) k
def valueT (t:Tre) (ins:List Int):Int:=walkT t ((t.nodes.length:Int) - 1) ins
def stateIn (t:Tre) (s:Int):Bool:=decide (0≤s∧s < t.states)
def evalErr (t:Tre) (ins:List Int):Int:=if rightT t=true then (if ins.length=t.hood.length then (if ins.all (stateIn t)=true then 0 else 10) else 2) else 11
def evalV (t:Tre) (ins:List Int):Int:=if evalErr t ins=0 then valueT t ins else 0
theorem walkT_snoc (t:Tre) (k:Int) (l:List Int) (s:Int):walkT t k (l ++ [s])=stepT t (walkT t k l) s:=by simp [walkT,List.foldl_append]
theorem walkT_at {t:Tre} (hr:rightT t=true) (ins:List Int) (hl:ins.length=t.hood.length) (hs:∀ j,j < ins.length→0≤ins.getD j 0∧ins.getD j 0 < t.states) (j:Nat) (hj:j≤ins.length):
 (j < ins.length→0≤walkT t ((t.nodes.length:Int) - 1) (ins.take j)∧walkT t ((t.nodes.length:Int) - 1) (ins.take j) < t.nodes.length∧(t.nodes.getD (walkT t ((t.nodes.length:Int) - 1) (ins.take j)).toNat default).level=(t.hood.length:Int) - j) ∧
 (j=ins.length→0 < j→0≤walkT t ((t.nodes.length:Int) - 1) (ins.take j)∧walkT t ((t.nodes.length:Int) - 1) (ins.take j) < t.states):=by
 obtain ⟨_,⟨h1,h2,h3,h4⟩,hn⟩:=rightT_parts hr
 induction j with
 | zero=>
  refine ⟨fun _=>?_,fun _ h=>absurd h (by omega)⟩;simp only [List.take_zero,walkT,List.foldl_nil];rw [show ((t.nodes.length:Int) - 1).toNat=t.nodes.length - 1 by omega,h4];omega
 | succ j ih=>
  have hjl:j < ins.length:=by omega
  obtain ⟨i1,i2,i3⟩:=(ih (by omega)).1 hjl;have hsj:=hs j hjl;rw [show ins.take (j+1)=ins.take j ++ [ins.getD j 0] from by rw [List.take_succ_eq_append_getElem hjl,List.getD_eq_getElem?_getD,List.getElem?_eq_getElem hjl];rfl,walkT_snoc];generalize walkT t ((t.nodes.length:Int) - 1) (ins.take j)=k at i1 i2 i3;generalize ins.getD j 0=s at hsj;have hk:k.toNat < t.nodes.length:=by omega
  obtain ⟨⟨n1,n2,n3⟩,n4⟩:=nodeOk_parts (hn _ hk);have hlk:=n4 s.toNat (by omega);simp only [linkOk,decide_eq_true_eq] at hlk;unfold stepT;generalize (t.nodes.getD k.toNat default).next.getD s.toNat 0=u at hlk;obtain ⟨l1,l2,l3⟩:=hlk;refine ⟨fun hlt=>?_,fun he _=>?_⟩
  ·have hlev:1 < (t.nodes.getD k.toNat default).level:=by omega
   obtain ⟨a1,a2⟩:=l3 hlev;refine ⟨l1,by omega,?_⟩;rw [a2];omega
  ·exact ⟨l1,l2 (by omega)⟩
theorem stateIn_at {t:Tre} {ins:List Int} (h:ins.all (stateIn t)=true) {j:Nat} (hj:j < ins.length):0≤ins.getD j 0∧ins.getD j 0 < t.states:=by
 rw [List.all_eq_true] at h;have:=h _ (List.getElem_mem hj);rw [List.getD_eq_getElem?_getD,List.getElem?_eq_getElem hj]
 simpa [stateIn] using this
end Go.Proofs.YtbijfnbelkbofaaGreatDoor
