/-
  Lemmas for the law TopCircuits.
-/
import Derived.Test.YtbijfnbelkbofaaGreatDoorJZ41
import Derived.BigRegion
import Derived.StillTailTactics
set_option linter.unusedSimpArgs false
set_option linter.unusedVariables false
namespace Go.Proofs.YtbijfnbelkbofaaGreatDoor
open Go.RowKit
def CPost (c:Circ) (err:Int) (w:World) (e:Ending) (w':World):Prop:=
 ∃ (GA OA:Option Addr) (gn gc on oc:Nat),e=.returned (.tuple #[.agg #[.int .i64 c.inputs,.slice GA gn gc,.slice OA on oc],.int .i64 err])∧CAt w' c GA OA gn on∧Below w.heap.size w w'
theorem cpost_err {c:Circ} {err k:Int} {w w':World} (hc:c=noCirc) (hk:err=k) (hb:Below w.heap.size w w'):CPost c err w (.returned (.tuple #[.agg #[.int .i64 0,.slice none 0 0,.slice none 0 0],.int .i64 k])) w':=by
 subst hc hk;exact ⟨none,none,0,0,0,0,rfl,noCirc_at _,hb⟩
theorem lowR_none {t:Tre} (h:rightT t=false):lowR t=noCirc:=by rw [lowR,if_neg (by rw [h];simp)]
theorem lowErr_bad {t:Tre} (h:rightT t=false):lowErr t=11:=by rw [lowErr,if_neg (by rw [h];simp)]
theorem Rows2At.push {w w':World} {base:Nat} {E I:TypeId} {v v' u:Value} {rows:List (List Int)} {vs:List Value} {r:List Int} (h1:w.ownsRow base E 1 v rows.length vs) (h2:vs.length=rows.length)
 (h3:∀ i,i < rows.length→w.ownsRow base I 1 (vs.getD i undef) (rows.getD i []).length (ints (rows.getD i []))) (hu:w.ownsRow base I 1 u r.length (ints r)) (hg:w.grownBy w' v.ownBlock)
 (hn:w'.ownsRow base E 1 v' (rows.length+1) (vs ++ [u])) (hne:I≠E):Rows2At w' base E I v' (rows ++ [r]):=by
 have key:∀ (x:Value) (ys:List Int),w.ownsRow base I 1 x ys.length (ints ys)→w'.ownsRow base I 1 x ys.length (ints ys):=fun x ys hx=>
  own_grown hx hg (fun k hk e=>by
   rcases own_ne_own hx h1 hne with e1 | e1
   ·rw [e1] at hk;cases hk
   ·rw [hk,e] at e1;exact e1 rfl)
 refine ⟨vs ++ [u],by simpa using hn,by simp [h2],fun i hi=>?_⟩;simp only [List.length_append,List.length_singleton] at hi;by_cases e:i < rows.length
 ·rw [getD_snoc_lt _ _ _ _ (by omega),getD_snoc_lt _ _ _ _ e];exact key _ _ (h3 i e)
 ·obtain rfl:i=rows.length:=by omega
  rw [getD_snoc_eq];have:(vs ++ [u]).getD rows.length undef=u:=by rw [← h2,getD_snoc_eq]
  rw [this];exact key _ _ hu
theorem ints_infoL:(Tryz.prog.info? 22).map (fun i=>(i.zero,i.size,i.bytes))=some (some (.slice none 0 0),1,24):=by kernel_rfl
theorem testRow_len (N bb S i s:Nat) (hb:bb≤3) (g:List Gt):(scan (fun g _ s=>testS N bb g i s) g s).1.length≤g.length+2 * s:=
 scan_bd _ g s 2 (fun k g acc hk hl=>by simp only [testS];rw [allS_len,litsF_length];omega)
theorem testRows_len (N bb S i:Nat) (hb:bb≤3) (hS:S≤8) (g:List Gt):(testRows N bb S g i).1.length≤g.length+16 * i:=
 scan_bd _ g i 16 (fun k g acc hk hl=>by have:=testRow_len N bb S k S hb g;simp only [testRow];omega)
theorem resRow_len (N S:Nat) (up:Bool) (T:List Int) (res:List (List Int)) (next:List Int) (k:Nat) (hS:1≤S) (hS8:S≤8) (g:List Gt):(scan (fun g _ k=>resS N up T res next S g k) g k).1.length≤g.length+16 * k:=
 scan_bd _ g k 16 (fun j g acc hk hl=>by have:=resS_len N up T res next g j S hS;omega)
set_option maxRecDepth 100000 in
set_option maxHeartbeats 4000000 in
theorem lower_any (t:Tre) (HA NA:Option Addr) (hn hc nn nc:Nat) (sl:List Sl) (w:World) (h:TAt w t HA NA hn nn sl) (h400:nn≤400):
 Calls Tryz.prog 8 #[.agg #[.int .i64 t.states,.slice HA hn hc,.slice NA nn nc]] w (CPost (lowR t) (lowErr t) w):=by
 have H:=hiD h;have HLH:Hid (t.hood.length=hn):=h.hl;have HLN:Hid (t.nodes.length=nn):=h.nl;have hm1:=h.h63;have hm2:=h.n63;clear h;unfold maxLen at hm1 hm2
 cases hr:rightT t
 ·have HR:=hiD hr
  have HCE:Hid (lowR t=noCirc∧lowErr t=11):=⟨lowR_none hr,lowErr_bad hr⟩
  clear hr;go_enter Tryz.func8,Tryz.ntmps8;go_wp2_with fail;refine (treeRight_any t HA NA hn hc nn nc sl _ (H.out.up (by go_grown))).mono ?_;rw [HR.out];rintro e w1 ⟨rfl,hb⟩;have HB:Hid (Below w.heap.size w w1):=below_next hb (by go_grown);have RA:Hid (Row w1 w.heap.size 27 [.int .i64 t.states,.slice HA hn hc,.slice NA nn nc]):=rowCells ((Row.new w 27 [.int .i64 t.states,.slice HA hn hc,.slice NA nn nc]).alloc _) hb;have RC:Hid (Row w1 (w.heap.size+1) 36 [.int .i64 0,.slice none 0 0,.slice none 0 0]):=rowCells (rowNew1 w _ 36 [.int .i64 0,.slice none 0 0,.slice none 0 0]) hb;clear hb;obtain ⟨k0,k1,k2,kl⟩:=RA.out.cells3;obtain ⟨d0,d1,d2,dl⟩:=RC.out.cells3;obtain ⟨f0,f1,f2⟩:=RC.out.froz3;have B1:=HB.out;go_wp2;exact bodyPost_ret (v:=.tuple #[.agg #[.int .i64 0,.slice none 0 0,.slice none 0 0],.int .i64 11]) (by simp [results,Tryz.results8,go_sem,d0,d1,d2]) rfl (cpost_err HCE.out.1 HCE.out.2 (by go_grown))
 have HR:=hiD hr;clear hr
 obtain ⟨nad,rfl⟩:∃ nad,NA=some nad:=by
  have h1:=(rightT_parts HR.out).2.1.2.1;rw [HLN.out] at h1;obtain ⟨nad,e,_⟩:=H.out.node (k:=0) (by omega);exact ⟨nad,e⟩
 go_enter Tryz.func8,Tryz.ntmps8;go_wp2_with fail;refine (treeRight_any t HA (some nad) hn hc nn nc sl _ (H.out.up (by go_grown))).mono ?_;rw [HR.out];rintro e w1 ⟨rfl,hb⟩;have HB:Hid (Below w.heap.size w w1):=below_next hb (by go_grown);have RA:Hid (Row w1 w.heap.size 27 [.int .i64 t.states,.slice HA hn hc,.slice (some nad) nn nc]):=rowCells ((Row.new w 27 [.int .i64 t.states,.slice HA hn hc,.slice (some nad) nn nc]).alloc _) hb;have RC:Hid (Row w1 (w.heap.size+1) 36 [.int .i64 0,.slice none 0 0,.slice none 0 0]):=rowCells (rowNew1 w _ 36 [.int .i64 0,.slice none 0 0,.slice none 0 0]) hb;clear hb;obtain ⟨k0,k1,k2,kl⟩:=RA.out.cells3;obtain ⟨d0,d1,d2,dl⟩:=RC.out.cells3;obtain ⟨f0,f1,f2⟩:=RC.out.froz3;obtain ⟨hh,⟨hst,hn1,_,_⟩,_⟩:=rightT_parts HR.out
 have hn25:hn≤25:=by
  simp only [hoodOk,Bool.and_eq_true,decide_eq_true_eq] at hh;rw [HLH.out] at hh;omega
 have hb3:=bitsF_bd t.states;have hb1:=bitsF_pos hst;generalize hbb:bitsF t.states=bb at hb3 hb1;have HBB:=hiD hbb
 obtain ⟨N,hN⟩:∃ N:Nat,N=hn * bb:=⟨_,rfl⟩
 have HNN:Hid (lowN t=N):=by show _=_;rw [lowN,HLH.out,hbb,hN]
 have hmul:(hn:Int) * (bb:Int)=(N:Int):=by rw [hN];simp
 have hN75:N≤75:=by have:=Nat.mul_le_mul hn25 hb3;omega
 have HMUL:=hiD hN;clear hh hn1 hbb hN;go_wp2_with fail;refine wp_region_still_tail 5 (by kernel_rfl) (by kernel_rfl) ?_;simp only [List.take_succ_cons,List.take_zero,List.drop_succ_cons,List.drop_zero]
 still_step
 still_step
 still_step
 still_call ((lBits_any t.states _).mono (fun e w2 h2=>⟨h2.1.trans (by rw [HBB.out]),h2.2.symm⟩))
 still_step
 refine wpStill_nil ?_;go_wp2_with fail;have RL:Hid (Row (World.drew (World.alloc w1 _)) w1.heap.size 74 [.int .i64 0,.slice none 0 0,.slice none 0 0,.int .i64 t.states,.slice HA hn hc,.slice (some nad) nn nc,.int .i64 bb,.slice none 0 0,.slice none 0 0,.slice none 0 0]):=(Row.new w1 74 [.int .i64 0,.slice none 0 0,.slice none 0 0,.int .i64 t.states,.slice HA hn hc,.slice (some nad) nn nc,.int .i64 bb,.slice none 0 0,.slice none 0 0,.slice none 0 0]).drew;have RAn:Hid (Row (World.drew (World.alloc w1 (.cells #[.int .i64 0,.slice none 0 0,.slice none 0 0,.int .i64 t.states,.slice HA hn hc,.slice (some nad) nn nc,.int .i64 bb,.slice none 0 0,.slice none 0 0,.slice none 0 0] 74))) w.heap.size 27 [.int .i64 t.states,.slice HA hn hc,.slice (some nad) nn nc]):=(RA.out.alloc _).drew;have HBn:Hid (Below w1.heap.size w1 (World.drew (World.alloc w1 (.cells #[.int .i64 0,.slice none 0 0,.slice none 0 0,.int .i64 t.states,.slice HA hn hc,.slice (some nad) nn nc,.int .i64 bb,.slice none 0 0,.slice none 0 0,.slice none 0 0] 74)))):=by show Below _ _ _;go_grown
 clear k0 k1 k2 kl d0 d1 d2 dl f0 f1 f2;revert RL RAn HBn;generalize World.drew (World.alloc w1 (.cells #[.int .i64 0,.slice none 0 0,.slice none 0 0,.int .i64 t.states,.slice HA hn hc,.slice (some nad) nn nc,.int .i64 bb,.slice none 0 0,.slice none 0 0,.slice none 0 0] 74))=w2;intro RL RAn HBn;obtain ⟨k0,k1,k2,kl⟩:=RAn.out.cells3;obtain ⟨c0,c1,c2,c3,c4,c5,c6,c7,c8,c9,cl⟩:=RL.out.cells10;have f0:=RL.out.frozen 0;have hnn:hn≤9223372036854775807:=by omega
 have hwN:IntKind.i64.wrap (N:Int)=(N:Int):=IntWalk.i64_in _ (by omega)
 go_still_tail 13,(by kernel_rfl)
 go_wp2_with fail
 have LS0:Hid (LSt (World.drew (World.setCell w2 ⟨w1.heap.size,0,none⟩ (.int .i64 N))) w1.heap.size w1.heap.size N [] [.slice none 0 0,.int .i64 t.states,.slice HA hn hc,.slice (some nad) nn nc,.int .i64 bb,.slice none 0 0,.slice none 0 0,.slice none 0 0]):=
  ⟨.slice none 0 0,(RL.out.set 0 (.int .i64 N)).drew,World.ownsRow_nil _ _ _ _,Nat.le_refl _⟩
 have HB3:Hid (Below w1.heap.size w1 (World.drew (World.setCell w2 ⟨w1.heap.size,0,none⟩ (.int .i64 N)))):=by
  have B1:=HBn.out;show Below _ _ _;go_grown
 clear k0 k1 k2 kl c0 c1 c2 c3 c4 c5 c6 c7 c8 c9 cl f0 RL RAn HBn hwN hmul hnn;revert LS0 HB3;generalize World.drew (World.setCell w2 ⟨w1.heap.size,0,none⟩ (.int .i64 N))=w3;intro LS0 HB3;have hb13:Hid (w1.heap.size≤w3.heap.size):=HB3.out.size
 go_loopg [5,42] N (fun gg _ s42 wr=>∃ (kk:Nat) (nv:Value),kk≤N∧N - kk≤gg∧s42=.int .i64 kk∧Aside (LFrm w1.heap.size w3 wr)∧Aside (LSt wr w1.heap.size w1.heap.size N (notsG kk) [.slice none 0 0,.int .i64 t.states,.slice HA hn hc,.slice (some nad) nn nc,.int .i64 bb,nv,.slice none 0 0,.slice none 0 0])∧Aside (wr.ownsRow w3.heap.size 3 1 nv kk (ints ((List.range kk).map (fun (j:Nat)=>(N:Int)+j)))))
 case atStart=>exact ⟨0,.slice none 0 0,Nat.zero_le _,by omega,rfl,Frm.refl _ _ _ _,LS0.out,World.ownsRow_nil _ _ _ _⟩
 case round=>
  obtain ⟨kk,nv,hkk,hgg,rfl,FF,LS,OW⟩:=hrel;have hsz:w3.heap.size≤wr.heap.size:=FF.out.below.size;by_cases hlt:kk < N
  ·have hltz:(kk:Int) < (N:Int):=by omega
   have c7:=LS.out.cs 5;simp only [List.getElem?_cons_zero,List.getElem?_cons_succ] at c7;have hbl:=LS.out.blk.1;go_wp2_with fail
   go_region_law (first
    | (go_simp; go_at_call 28
       refine (lgate_any w1.heap.size w1.heap.size N (notsG kk) [.slice none 0 0,.int .i64 t.states,.slice HA hn hc,.slice (some nad) nn nc,.int .i64 bb,nv,.slice none 0 0,.slice none 0 0] 2 kk 0 _ (by exact LS.out) (by omega) (by rw [notsG_length];omega)).mono ?_;rw [wireF,notsG_length,← notsG_succ];rintro e w4 ⟨rfl,hl2,hf2⟩;have LS2:=hiD hl2;have FF2:Hid (LFrm w1.heap.size w3 w4):=Frm.trans (Frm.drew FF.out) hf2;have OW2:Hid (w4.ownsRow w3.heap.size 3 1 nv kk (ints ((List.range kk).map (fun (j:Nat)=>(N:Int)+j)))):=Frm.own hf2 (by exact OW.out) (by decide) (by decide);have hls:=LS2.out.blk;have hsz2:w3.heap.size≤w4.heap.size:=FF2.out.below.size;clear hl2 hf2;have e6:=LS2.out.cs 5
       simp only [List.getElem?_cons_zero,List.getElem?_cons_succ] at e6)
    | (refine step_app rfl (.tmp 49) (.tmp 55) 22 rfl w3.heap.size 3 (.int .i64 0) 1 8 Tryz.underlying22 int_infoL rfl (by decide) (by decide) nv kk (ints ((List.range kk).map (fun (j : Nat) => (N : Int) + j))) rfl ?own (w4.heap.size + 1) (some ⟨w4.heap.size, 0, none⟩) 1 1 [.int .i64 ((N : Int) + kk)] rfl ?rd ?one ?hb ?hbase ?_
       case own=>exact OW2.out.alloc _
       case rd=>exact Rd.lit w4 #[.int .i64 ((N:Int)+kk)] 3 (sz:=1) (m:=1) rfl
       case one=>intro u hu;simp at hu;subst hu;rfl
       case hb=>omega
       case hbase=>simp;omega
       intro v' w' hown' hgrow' hat';obtain ⟨VA,vc,rfl,_⟩:=Rd.own hown';have FF3:Hid (LFrm w1.heap.size w3 w'):=Frm.grownNew (FF2.out.alloc (Nat.le_trans hb13.out hsz2) _) hgrow' (fun k hk=>(OW2.out.lt k hk).1) hb13.out;have LS3:Hid (LSt w' w1.heap.size w1.heap.size N (notsG (kk+1)) [.slice none 0 0,.int .i64 t.states,.slice HA hn hc,.slice (some nad) nn nc,.int .i64 bb,nv,.slice none 0 0,.slice none 0 0]):=(LS2.out.alloc _).grownT (OW2.out.alloc _) hgrow' (by decide) (by decide)
       have OW3:Hid (w'.ownsRow w3.heap.size 3 1 (.slice VA (kk+1) vc) (kk+1) (ints ((List.range (kk+1)).map (fun (j:Nat)=>(N:Int)+j)))):=(by
        show w'.ownsRow _ _ _ _ _ _;rw [notsW_upto,iint_snoc]
        exact hown')
       clear hown' hgrow' hat';obtain ⟨gv9,hrow9,hog9,hB9⟩:=LS3.out;have HROW:=hiD hrow9;have e7:=HROW.out.cell 7;have g7:=HROW.out.frozen 7;clear hrow9 hog9 hB9
       simp only [List.getElem?_cons_zero,List.getElem?_cons_succ] at e7))
   all_goals
    go_wp2;go_roundg (N - (kk+1))
    case measure=>omega
    case rel=>
     exact ⟨kk+1,.slice VA (kk+1) vc,by omega,by omega,by go_num,Frm.set (p:=⟨w1.heap.size,7,none⟩) FF3.out HROW.out (Nat.le_refl _) _,LS3.out.set 5 _,own_set (p:=⟨w1.heap.size,7,none⟩) OW3.out HROW.out (by decide) _⟩
  ·have hltz:¬ (kk:Int) < (N:Int):=by omega
   obtain rfl:kk=N:=by omega
   have hbA:Hid (w1.heap.size≤wr.heap.size):=Nat.le_trans hb13.out hsz;have HBA:Hid (Below w1.heap.size w1 wr):=HB3.out.trans FF.out.below;have LSA:Hid (LSt wr w1.heap.size w1.heap.size kk (notsG kk) [.slice none 0 0,.int .i64 t.states,.slice HA hn hc,.slice (some nad) nn nc,.int .i64 bb,nv,.slice none 0 0,.slice none 0 0]):=LS.out;have ONV:Hid (wr.ownsRow w3.heap.size 3 1 nv kk (ints (notsW kk))):=OW.out;have RTa:=hiD (rowCells RA.out HBA.out);clear LS OW FF hsz;obtain ⟨k0,k1,k2,kl⟩:=RTa.out.cells3;go_wp2;clear k0 k1 k2 kl RTa
   obtain ⟨wA,rfl⟩:∃ wA:World,wA=wr:=⟨_,rfl⟩
   obtain ⟨S,hS⟩:∃ S:Nat,t.states.toNat=S:=⟨_,rfl⟩
   have HSS:=hiD hS;have hSz:Hid (t.states=(S:Int)):=by show _=_;omega
   have hS2:2≤S∧S≤8:=by omega
   clear hS
   go_loopg [6,7,8,63,68] hn (fun gg _ _ _ s63 _ wr=>∃ (i:Nat) (tv:Value),i≤hn∧hn - i≤gg∧s63=.int .i64 i∧Aside (LFrm w1.heap.size wA wr)∧Aside (LSt wr w1.heap.size w1.heap.size kk (testRows kk bb S (notsG kk) i).1 [.slice none 0 0,.int .i64 t.states,.slice HA hn hc,.slice (some nad) nn nc,.int .i64 bb,nv,tv,.slice none 0 0])∧Aside (Rows2At wr wA.heap.size 22 3 tv (testRows kk bb S (notsG kk) i).2))
   case atStart=>exact ⟨0,.slice none 0 0,Nat.zero_le _,by omega,rfl,Frm.refl _ _ _ _,LSA.out,Rows2At.nil _ _ _ _⟩
   case round=>
    obtain ⟨i,tv,hi,hgg,rfl,FF,LS,RR⟩:=hrel;have HBr:Hid (Below w1.heap.size w1 wr):=HBA.out.trans FF.out.below;have RTa:=hiD (rowCells RA.out HBr.out);obtain ⟨k0,k1,k2,kl⟩:=RTa.out.cells3;have hsz:wA.heap.size≤wr.heap.size:=FF.out.below.size;have hlen:=testRows_len kk bb S i hb3 hS2.2 (notsG kk);rw [notsG_length] at hlen;by_cases hlt:i < hn
    ·have hltz:(i:Int) < (hn:Int):=by omega
     have HSU:Hid (testRows kk bb S (notsG kk) (i+1)=((testRow kk bb S (testRows kk bb S (notsG kk) i).1 i).1,(testRows kk bb S (notsG kk) i).2 ++ [(testRow kk bb S (testRows kk bb S (notsG kk) i).1 i).2])):=scan_succ _ _ _;generalize testRows kk bb S (notsG kk) i=p at LS RR HSU hlen;obtain ⟨g,rows⟩:=p;dsimp only at hlen;have HSU':Hid (testRows kk bb S (notsG kk) (i+1)=((testRow kk bb S g i).1,rows ++ [(testRow kk bb S g i).2])):=HSU.out;have LS1:Hid (LSt wr w1.heap.size w1.heap.size kk g [.slice none 0 0,.int .i64 t.states,.slice HA hn hc,.slice (some nad) nn nc,.int .i64 bb,nv,tv,.slice none 0 0]):=LS.out;have RR1:Hid (Rows2At wr wA.heap.size 22 3 tv rows):=RR.out
     have hbd:Hid (i * bb+bb≤kk):=by
      have h1:=Nat.mul_le_mul_right bb (show i+1≤hn by omega);rw [Nat.add_mul,← HMUL.out] at h1;show _≤_;omega
     clear LS RR HSU;go_wp2;clear k0 k1 k2 kl RTa
     obtain ⟨wB,rfl⟩:∃ wB:World,wB=wr:=⟨_,rfl⟩
     go_loopg [7,8,68] S (fun gg s7 _ s68 wr=>∃ (s:Nat),s≤S∧S - s≤gg∧s68=.int .i64 s∧Aside (LFrm w1.heap.size wB wr)∧Aside (LSt wr w1.heap.size w1.heap.size kk (scan (fun g _ s=>testS kk bb g i s) g s).1 [.slice none 0 0,.int .i64 t.states,.slice HA hn hc,.slice (some nad) nn nc,.int .i64 bb,nv,tv,.slice none 0 0])∧Aside (wr.ownsRow wB.heap.size 3 1 s7 s (ints (scan (fun g _ s=>testS kk bb g i s) g s).2)))
     case atStart=>exact ⟨0,Nat.zero_le _,by omega,rfl,Frm.refl _ _ _ _,LS1.out,World.ownsRow_nil _ _ _ _⟩
     case round=>
      obtain ⟨s,hs,hgs,rfl,FI,LI,OI⟩:=hrel;have hszi:wB.heap.size≤wr.heap.size:=FI.out.below.size;have hleni:=testRow_len kk bb S i s hb3 g;have FAi:Hid (LFrm w1.heap.size wA wr):=Frm.trans FF.out FI.out;have LI1:=LI.out.blk;by_cases hlts:s < S
      ·have hltsz:(s:Int) < t.states:=by have:=hSz.out;omega
       have HSI:Hid (scan (fun g _ s=>testS kk bb g i s) g (s+1)=((testS kk bb (scan (fun g _ s=>testS kk bb g i s) g s).1 i s).1,(scan (fun g _ s=>testS kk bb g i s) g s).2 ++ [(testS kk bb (scan (fun g _ s=>testS kk bb g i s) g s).1 i s).2])):=scan_succ _ _ _;generalize scan (fun g _ s=>testS kk bb g i s) g s=q at LI OI HSI hleni;obtain ⟨gi,row⟩:=q;dsimp only at hleni;have HSI':Hid (scan (fun g _ s=>testS kk bb g i s) g (s+1)=((testS kk bb gi i s).1,row ++ [(testS kk bb gi i s).2])):=HSI.out;have LI':Hid (LSt wr w1.heap.size w1.heap.size kk gi [.slice none 0 0,.int .i64 t.states,.slice HA hn hc,.slice (some nad) nn nc,.int .i64 bb,nv,tv,.slice none 0 0]):=LI.out;have OI':Hid (wr.ownsRow wB.heap.size 3 1 u7 s (ints row)):=OI.out;have ONr:Hid (wr.ownsRow w3.heap.size 3 1 nv kk (ints (notsW kk))):=Frm.own FAi.out ONV.out (by decide) (by decide);clear LI OI HSI;generalize hts:testS kk bb gi i s=ts at HSI';have HTS:=hiD hts;obtain ⟨tg,tw⟩:=ts;clear hts;go_wp2_with fail;refine (ltest_any w1.heap.size w1.heap.size kk bb i s w3.heap.size gi [.slice none 0 0,.int .i64 t.states,.slice HA hn hc,.slice (some nad) nn nc,.int .i64 bb,nv,tv,.slice none 0 0] nv _ LI'.out (by omega) (by omega) rfl rfl ONr.out hb1 hb3 hbd.out (by omega)).mono ?_;rw [HTS.out];rintro e w4 ⟨rfl,hl2,hf2⟩;have LS2:=hiD hl2;have FI2:Hid (LFrm w1.heap.size wB w4):=Frm.trans FI.out hf2;have OI2:Hid (w4.ownsRow wB.heap.size 3 1 u7 s (ints row)):=Frm.own hf2 OI'.out (by decide) (by decide);have hls:=LS2.out.blk;have hsz2:wB.heap.size≤w4.heap.size:=FI2.out.below.size;clear hl2 hf2
       go_wp2_with (at_builtin;refine wpList_app rfl (.tmp 71) (.tmp 76) 22 rfl wB.heap.size 3 (.int .i64 0) 1 8 Tryz.underlying22 int_infoL rfl (by decide) (by decide) u7 (s) (ints row) rfl ?own (w4.heap.size+1) (some ⟨w4.heap.size,0,none⟩) 1 1 [.int .i64 tw] rfl ?rd ?one ?hb ?hbase ?_)
       case own=>exact (OI2.out).alloc _
       case rd=>exact Rd.lit w4 #[.int .i64 tw] 3 (sz:=1) (m:=1) rfl
       case one=>first | (intro u hu;simp at hu;subst hu;rfl) | rfl
       case hb=>omega
       case hbase=>first | (simp;omega) | omega
       intro v' w' hown' hgrow' hat';have FI3:Hid (LFrm w1.heap.size wB w'):=Frm.grownNew (FI2.out.alloc (Nat.le_trans hbA.out (Nat.le_trans hsz hsz2)) _) hgrow' (fun k hk=>(OI2.out.lt k hk).1) (Nat.le_trans hbA.out hsz);have LS3:Hid (LSt w' w1.heap.size w1.heap.size kk tg [.slice none 0 0,.int .i64 t.states,.slice HA hn hc,.slice (some nad) nn nc,.int .i64 bb,nv,tv,.slice none 0 0]):=(LS2.out.alloc _).grownT (OI2.out.alloc _) hgrow' (by decide) (by decide)
       have OI3:Hid (w'.ownsRow wB.heap.size 3 1 v' (s+1) (ints (row ++ [tw]))):=by
        show w'.ownsRow _ _ _ _ _ _;rw [iint_snoc];exact hown'
       clear hown' hgrow' hat';go_wp2;go_roundg (S - (s+1))
       case measure=>omega
       case rel=>
        refine ⟨s+1,by omega,by omega,by go_num,FI3.out,?_,?_⟩
        ·show LSt _ _ _ _ _ _;rw [HSI'.out];exact LS3.out
        ·show World.ownsRow _ _ _ _ _ _ _;rw [HSI'.out];exact OI3.out
      ·have hltsz:¬ (s:Int) < t.states:=by have:=hSz.out;omega
       obtain rfl:s=S:=by omega
       have HTR:Hid (testRow kk bb s g i=scan (fun g _ s=>testS kk bb g i s) g s):=rfl;rw [← HTR.out] at LI OI hleni;have hrl:(testRow kk bb s g i).2.length=s:=scan_length _ _ _;generalize testRow kk bb s g i=q at LI OI hleni HSU' hrl;obtain ⟨gi,row⟩:=q;dsimp only at hleni hrl;have HRL:=hiD hrl;have HSU'':Hid (testRows kk bb s (notsG kk) (i+1)=(gi,rows ++ [row])):=HSU'.out;have LI':Hid (LSt wr w1.heap.size w1.heap.size kk gi [.slice none 0 0,.int .i64 t.states,.slice HA hn hc,.slice (some nad) nn nc,.int .i64 bb,nv,tv,.slice none 0 0]):=LI.out;have OI':Hid (wr.ownsRow wB.heap.size 3 1 u7 s (ints row)):=OI.out;have RRi:Hid (Rows2At wr wA.heap.size 22 3 tv rows):=RR1.out.frm FI.out (by decide) (by decide) (by decide) (by decide)
       have HRW:Hid (rows.length=i):=by
        have:=scan_length (fun g _ i=>testRow kk bb s g i) (notsG kk) (i+1);have h2:(testRows kk bb s (notsG kk) (i+1)).2.length=i+1:=this;rw [HSU''.out] at h2
        simp at h2
        exact h2
       clear LI OI HSU' hrl;obtain ⟨vs,r1,r2,r3⟩:=RRi.out;rw [HRW.out] at r1;have R1:=hiD r1
       have R23:Hid (vs.length=rows.length∧∀ j,j < rows.length→wr.ownsRow wA.heap.size 3 1 (vs.getD j undef) (rows.getD j []).length (ints (rows.getD j []))):=⟨r2,r3⟩
       obtain ⟨UA,uc,rfl,_⟩:=Rd.own OI'.out;have c8:=LI'.out.cs 6;simp only [List.getElem?_cons_zero,List.getElem?_cons_succ] at c8;clear r1 r2 r3
       go_wp2_with (at_builtin;refine wpList_app rfl (.tmp 83) (.tmp 85) 57 rfl wA.heap.size 22 (.slice none 0 0) 1 24 Tryz.underlying57 ints_infoL rfl (by decide) (by decide) tv i vs rfl ?own (wr.heap.size+1) (some ⟨wr.heap.size,0,none⟩) 1 1 [.slice UA s uc] rfl ?rd ?one ?hb ?hbase ?_)
       case own=>exact R1.out.alloc _
       case rd=>exact Rd.lit wr #[.slice UA s uc] 22 (sz:=1) (m:=1) rfl
       case one=>first | (intro u hu;simp at hu;subst hu;rfl) | rfl
       case hb=>omega
       case hbase=>first | (simp;omega) | omega
       intro v' w' hown' hgrow' hat';obtain ⟨VA,vc,rfl,_⟩:=Rd.own hown';have FI3:Hid (LFrm w1.heap.size wA w'):=Frm.grownNew (FAi.out.alloc (Nat.le_trans hbA.out (Nat.le_trans hsz hszi)) _) hgrow' (fun k hk=>(R1.out.lt k hk).1) hbA.out;have LS3:Hid (LSt w' w1.heap.size w1.heap.size kk gi [.slice none 0 0,.int .i64 t.states,.slice HA hn hc,.slice (some nad) nn nc,.int .i64 bb,nv,tv,.slice none 0 0]):=(LI'.out.alloc _).grownT (R1.out.alloc _) hgrow' (by decide) (by decide)
       have RR3:Hid (Rows2At w' wA.heap.size 22 3 (.slice VA (i+1) vc) (rows ++ [row])):=by
        refine Rows2At.push (vs:=vs) (u:=.slice UA s uc) (v:=tv) (by rw [HRW.out];exact R1.out.alloc _) R23.out.1 (fun j hj=>(R23.out.2 j hj).alloc _) ?_ hgrow' ?_ (by decide)
        ·rw [HRL.out];exact own_base (OI'.out.alloc _) hsz
        ·rw [HRW.out];exact hown'
       clear hown' hgrow' hat' c8;obtain ⟨gv9,hrow9,hog9,hB9⟩:=LS3.out;have HROW:=hiD hrow9;have e8:=HROW.out.cell 8;have g8:=HROW.out.frozen 8;clear hrow9 hog9 hB9;simp only [List.getElem?_cons_zero,List.getElem?_cons_succ] at e8;go_wp2;go_roundg (hn - (i+1))
       case measure=>omega
       case rel=>
        refine ⟨i+1,.slice VA (i+1) vc,by omega,by omega,by go_num,Frm.set (p:=⟨w1.heap.size,8,none⟩) FI3.out HROW.out (Nat.le_refl _) _,?_,?_⟩
        ·show LSt _ _ _ _ _ _;rw [HSU''.out];exact LS3.out.set 6 _
        ·show Rows2At _ _ _ _ _ _;rw [HSU''.out];obtain ⟨vs',q1,q2,q3⟩:=RR3.out;exact ⟨vs',own_set (p:=⟨w1.heap.size,8,none⟩) q1 HROW.out (by decide) _,q2,fun j hj=>own_set (p:=⟨w1.heap.size,8,none⟩) (q3 j hj) HROW.out (by decide) _⟩
    ·have hltz:¬ (i:Int) < (hn:Int):=by omega
     obtain rfl:hn=i:=by omega
     have HLT:Hid (lowT t=testRows kk bb S (notsG kk) hn):=by show _=_;rw [lowT,HNN.out,HBB.out,HSS.out,HLH.out]
     have LSC:Hid (LSt wr w1.heap.size w1.heap.size kk (lowM t 0).1 [.slice none 0 0,.int .i64 t.states,.slice HA hn hc,.slice (some nad) nn nc,.int .i64 bb,nv,tv,.slice none 0 0]):=by
      have e:(lowM t 0).1=(testRows kk bb S (notsG kk) hn).1:=by rw [← HLT.out];rfl
      show LSt _ _ _ _ _ _;rw [e];exact LS.out
     have RRC:Hid (Rows2At wr wA.heap.size 22 3 tv (lowT t).2):=by
      show Rows2At _ _ _ _ _ _;rw [HLT.out];exact RR.out
     have hbC:Hid (w1.heap.size≤wr.heap.size):=Nat.le_trans hbA.out hsz;have HBC:Hid (Below w1.heap.size w1 wr):=HBr.out;have hAC:=hiD hsz;clear LS RR FF hsz hlen HBr;go_wp2;clear k0 k1 k2 kl RTa
     obtain ⟨wC,rfl⟩:∃ wC:World,wC=wr:=⟨_,rfl⟩
     go_loopg [11,12,93,101] nn (fun gg _ _ s93 _ wr=>∃ (m:Nat) (rv:Value),m≤nn∧nn - m≤gg∧s93=.int .i64 m∧Aside (LFrm w1.heap.size wC wr)∧Aside (LSt wr w1.heap.size w1.heap.size kk (lowM t m).1 [.slice none 0 0,.int .i64 t.states,.slice HA hn hc,.slice (some nad) nn nc,.int .i64 bb,nv,tv,rv])∧Aside (Rows2At wr wC.heap.size 22 3 rv (lowM t m).2))
     case atStart=>exact ⟨0,.slice none 0 0,Nat.zero_le _,by omega,rfl,Frm.refl _ _ _ _,LSC.out,Rows2At.nil _ _ _ _⟩
     case round=>
      obtain ⟨m,rv,hm,hgg,rfl,FF,LS,RR⟩:=hrel;have HBr:Hid (Below w1.heap.size w1 wr):=HBC.out.trans FF.out.below;have hsz:wC.heap.size≤wr.heap.size:=FF.out.below.size;have hlenm:=lowM_len HR.out m;have hmlen:(lowM t m).2.length=m:=by unfold lowM nodesS;exact scan_length _ _ _
      have HROWL:Hid (∀ j,j < m→((lowM t m).2.getD j []).length=bb):=fun j hj=>by rw [lowM_row m j hj,HBB.out]
      by_cases hlt:m < nn
      ·have hltz:(m:Int) < (nn:Int):=by omega
       have e0:lowM t (m+1)=((nodeS t (lowN t) (bitsF t.states) t.states.toNat (lowT t).2 (lowM t m).1 (lowM t m).2 m).1,(lowM t m).2 ++ [(nodeS t (lowN t) (bitsF t.states) t.states.toNat (lowT t).2 (lowM t m).1 (lowM t m).2 m).2]):=scan_succ _ _ _;rw [HNN.out,HBB.out,HSS.out] at e0;obtain ⟨nad',ena,nb,g0,g1⟩:=(H.out.up (below_on2 HB.out HBr.out)).node hlt
       cases ena
       obtain ⟨hnx,hql⟩:=(H.out.up HB.out).next m (by rw [HLN.out];exact hlt);obtain ⟨⟨l1,l2,l3⟩,hlink⟩:=nodeOk_parts ((rightT_parts HR.out).2.2 m (by rw [HLN.out];exact hlt))
       have HND:Hid (nodeS t kk bb S (lowT t).2 (lowM t m).1 (lowM t m).2 m=scan (fun g _ k=>resS kk (upN (t.nodes.getD m default)) ((lowT t).2.getD ((hn:Int) - (t.nodes.getD m default).level).toNat []) (lowM t m).2 (t.nodes.getD m default).next S g k) (lowM t m).1 bb):=by
        show _=_;rw [nodeS,HLH.out]
       generalize t.nodes.getD m default=x at g0 hnx l1 l2 l3 hlink HND;generalize sl.getD m default=q at g1 hnx hql;obtain ⟨qa,ql,qc⟩:=q;obtain ⟨lev,nx⟩:=x;dsimp only at g0 g1 hnx hql l1 l2 l3;rw [HLH.out] at l2
       obtain ⟨pos,hpos⟩:∃ pos:Nat,(hn:Int) - lev=pos:=⟨((hn:Int) - lev).toNat,by omega⟩
       have hpl:pos < hn:=by omega
       have HTR:Hid (((lowT t).2.getD pos []).length=S):=by show _=_;rw [lowT_row pos (by rw [HLH.out];exact hpl),HSS.out]
       have HTL:Hid ((lowT t).2.length=hn):=by
        show _=_;rw [HLT.out];exact scan_length _ _ _
       have hqS:ql=S:=by
        have h1:=hnx.1;rw [ints_length,Nat.mul_one] at h1;have h2:=hSz.out;omega
       subst hqS;have HLINK:Hid (∀ s,s < ql→linkOk t m ⟨lev,nx⟩ (nx.getD s 0)=true):=fun s hs=>hlink s (by have h1:=hnx.1;rw [ints_length,Nat.mul_one] at h1;show s < nx.length;omega)
       have HNX:=hiD hnx
       have HND':Hid (nodeS t kk bb ql (lowT t).2 (lowM t m).1 (lowM t m).2 m=scan (fun g _ k=>resS kk (decide (1 < lev)) ((lowT t).2.getD pos []) (lowM t m).2 nx ql g k) (lowM t m).1 bb):=by
        have h1:=HND.out;rw [hpos,Int.toNat_natCast] at h1;exact h1
       have HPOS:=hiD hpos;generalize lowM t m=p at LS RR e0 hlenm hmlen HROWL HND';obtain ⟨g,res⟩:=p;dsimp only at hlenm hmlen;have HE0:=hiD e0;have HND2:Hid (nodeS t kk bb ql (lowT t).2 g res m=scan (fun g _ k=>resS kk (decide (1 < lev)) ((lowT t).2.getD pos []) res nx ql g k) g bb):=HND'.out;have HRL:Hid (∀ j,j < m→(res.getD j []).length=bb):=HROWL.out;have LS1:Hid (LSt wr w1.heap.size w1.heap.size kk g [.slice none 0 0,.int .i64 t.states,.slice HA hn hc,.slice (some nad) nn nc,.int .i64 bb,nv,tv,rv]):=LS.out;have RR1:Hid (Rows2At wr wC.heap.size 22 3 rv res):=RR.out;have hmlen':Hid (res.length=m):=hmlen;clear e0 HND HND' hnx hlink hpos hmlen HROWL LS RR l3;have c6:=LS1.out.cs 4;simp only [List.getElem?_cons_zero,List.getElem?_cons_succ] at c6;have hblk:=LS1.out.blk.1;go_wp2;have RN:Hid (Row (World.alloc wr _) wr.heap.size 65 [.int .i64 lev,.slice qa ql qc]):=Row.new wr 65 [.int .i64 lev,.slice qa ql qc];have FD:Hid (LFrm w1.heap.size wC (World.alloc wr (.cells #[.int .i64 lev,.slice qa ql qc] 65))):=FF.out.alloc (Nat.le_trans hbC.out hsz) _;have LSD:Hid (LSt (World.alloc wr (.cells #[.int .i64 lev,.slice qa ql qc] 65)) w1.heap.size w1.heap.size kk g [.slice none 0 0,.int .i64 t.states,.slice HA hn hc,.slice (some nad) nn nc,.int .i64 bb,nv,tv,rv]):=LS1.out.alloc _;have RRD:Hid (Rows2At (World.alloc wr (.cells #[.int .i64 lev,.slice qa ql qc] 65)) wC.heap.size 22 3 rv res):=RR1.out.frm ((Frm.refl w1.heap.size 74 135 wr).alloc (Nat.le_trans hbC.out hsz) _) (by decide) (by decide) (by decide) (by decide);clear g0 g1 c6 hblk LS1 RR1 HBr hsz;revert RN FD LSD RRD;generalize World.alloc wr (.cells #[.int .i64 lev,.slice qa ql qc] 65)=wD;intro RN FD LSD RRD;have hszD:wC.heap.size≤wD.heap.size:=FD.out.below.size
       obtain ⟨wo,rfl⟩:∃ wo:World,wo=wr:=⟨_,rfl⟩
       go_loopg [11,12,101] bb (fun gg s11 _ s101 wr=>∃ (k:Nat),k≤bb∧bb - k≤gg∧s101=.int .i64 k∧Aside (LFrm w1.heap.size wD wr)∧Aside (LSt wr w1.heap.size w1.heap.size kk (scan (fun g _ k=>resS kk (decide (1 < lev)) ((lowT t).2.getD pos []) res nx ql g k) g k).1 [.slice none 0 0,.int .i64 t.states,.slice HA hn hc,.slice (some nad) nn nc,.int .i64 bb,nv,tv,rv])∧Aside (wr.ownsRow wD.heap.size 3 1 s11 k (ints (scan (fun g _ k=>resS kk (decide (1 < lev)) ((lowT t).2.getD pos []) res nx ql g k) g k).2)))
       case atStart=>exact ⟨0,Nat.zero_le _,by omega,rfl,Frm.refl _ _ _ _,LSD.out,World.ownsRow_nil _ _ _ _⟩
       case round=>
        obtain ⟨k,hk,hgk,rfl,FI,LI,OI⟩:=hrel;have hszi:wD.heap.size≤wr.heap.size:=FI.out.below.size;have hleni:=resRow_len kk ql (decide (1 < lev)) ((lowT t).2.getD pos []) res nx k (by omega) hS2.2 g;have FCi:Hid (LFrm w1.heap.size wC wr):=Frm.trans FD.out FI.out;have RNi:Hid (Row wr wo.heap.size 65 [.int .i64 lev,.slice qa ql qc]):=Frm.row FI.out RN.out (by decide) (by decide);obtain ⟨n0,n1,nl⟩:=RNi.out.cells2;by_cases hltk:k < bb
        ·have hltkz:(k:Int) < (bb:Int):=by omega
         have HSI:Hid (scan (fun g _ k=>resS kk (decide (1 < lev)) ((lowT t).2.getD pos []) res nx ql g k) g (k+1)=((resS kk (decide (1 < lev)) ((lowT t).2.getD pos []) res nx ql (scan (fun g _ k=>resS kk (decide (1 < lev)) ((lowT t).2.getD pos []) res nx ql g k) g k).1 k).1,(scan (fun g _ k=>resS kk (decide (1 < lev)) ((lowT t).2.getD pos []) res nx ql g k) g k).2 ++ [(resS kk (decide (1 < lev)) ((lowT t).2.getD pos []) res nx ql (scan (fun g _ k=>resS kk (decide (1 < lev)) ((lowT t).2.getD pos []) res nx ql g k) g k).1 k).2])):=scan_succ _ _ _;generalize scan (fun g _ k=>resS kk (decide (1 < lev)) ((lowT t).2.getD pos []) res nx ql g k) g k=q at LI OI HSI hleni;obtain ⟨gi,row⟩:=q;dsimp only at hleni;have HSI':Hid (scan (fun g _ k=>resS kk (decide (1 < lev)) ((lowT t).2.getD pos []) res nx ql g k) g (k+1)=((resS kk (decide (1 < lev)) ((lowT t).2.getD pos []) res nx ql gi k).1,row ++ [(resS kk (decide (1 < lev)) ((lowT t).2.getD pos []) res nx ql gi k).2])):=HSI.out;have LI':Hid (LSt wr w1.heap.size w1.heap.size kk gi [.slice none 0 0,.int .i64 t.states,.slice HA hn hc,.slice (some nad) nn nc,.int .i64 bb,nv,tv,rv]):=LI.out;have OI':Hid (wr.ownsRow wD.heap.size 3 1 u11 k (ints row)):=OI.out
         have HLR:Hid (LRes wr w1.heap.size [.slice none 0 0,.int .i64 t.states,.slice HA hn hc,.slice (some nad) nn nc,.int .i64 bb,nv,tv,rv] hn (lowT t).2 res):=⟨⟨HA,hc,rfl⟩,⟨tv,_,rfl,RRC.out.frm FCi.out (by decide) (by decide) (by decide) (by decide)⟩,rv,_,rfl,RRD.out.frm FI.out (by decide) (by decide) (by decide) (by decide)⟩
         have HXi:Hid (Rd wr w1.heap.size 1 qa ql (ints nx)):=HNX.out.keep (fun p hp=>(HBC.out.trans FCi.out.below).cell hp)
         have hup:Hid (1 < lev→∀ s,s < ql→0≤nx.getD s 0∧(nx.getD s 0).toNat < res.length∧k < (res.getD (nx.getD s 0).toNat []).length):=fun hl s hs=>by
          have h1:=HLINK.out s hs;simp only [linkOk,decide_eq_true_eq] at h1;obtain ⟨a1,a2,a3⟩:=h1;have h2:=(a3 hl).1;have h3:(nx.getD s 0).toNat < m:=by omega
          exact ⟨a1,by rw [hmlen'.out];exact h3,by rw [HRL.out _ h3];exact hltk⟩
         have hdn:Hid (lev=1→∀ s,s < ql→0≤nx.getD s 0∧nx.getD s 0≤7):=fun hl s hs=>by
          have h1:=HLINK.out s hs;simp only [linkOk,decide_eq_true_eq] at h1;obtain ⟨a1,a2,a3⟩:=h1;have h2:=a2 hl;exact ⟨a1,by omega⟩
         clear LI OI HSI;generalize hts:resS kk (decide (1 < lev)) ((lowT t).2.getD pos []) res nx ql gi k=ts at HSI';have HTS:=hiD hts;obtain ⟨tg,tw⟩:=ts;clear hts;go_wp2_with fail;refine (lresult_any w1.heap.size w1.heap.size kk hn pos k ql qc gi [.slice none 0 0,.int .i64 t.states,.slice HA hn hc,.slice (some nad) nn nc,.int .i64 bb,nv,tv,rv] (lowT t).2 res lev nx qa _ LI'.out (by omega) (by omega) HLR.out HXi.out l1 l2 HPOS.out hn25 (by omega) (by omega) hS2.2 HTL.out HTR.out hup.out hdn.out (Nat.le_trans hbC.out (Nat.le_trans hszD hszi))).mono ?_;rw [HTS.out];rintro e w4 ⟨rfl,hl2,hf2⟩;have LS2:=hiD hl2;have FI2:Hid (LFrm w1.heap.size wD w4):=Frm.trans FI.out hf2;have OI2:Hid (w4.ownsRow wD.heap.size 3 1 u11 k (ints row)):=Frm.own hf2 OI'.out (by decide) (by decide);have hls:=LS2.out.blk;have hsz2:wD.heap.size≤w4.heap.size:=FI2.out.below.size;have hbD:Hid (w1.heap.size≤wD.heap.size):=Nat.le_trans hbC.out hszD;clear hl2 hf2 n0 n1 nl
         go_wp2_with (at_builtin;refine wpList_app rfl (.tmp 104) (.tmp 109) 22 rfl wD.heap.size 3 (.int .i64 0) 1 8 Tryz.underlying22 int_infoL rfl (by decide) (by decide) u11 (k) (ints row) rfl ?own (w4.heap.size+1) (some ⟨w4.heap.size,0,none⟩) 1 1 [.int .i64 tw] rfl ?rd ?one ?hb ?hbase ?_)
         case own=>exact (OI2.out).alloc _
         case rd=>exact Rd.lit w4 #[.int .i64 tw] 3 (sz:=1) (m:=1) rfl
         case one=>first | (intro u hu;simp at hu;subst hu;rfl) | rfl
         case hb=>omega
         case hbase=>first | (simp;omega) | omega
         intro v' w' hown' hgrow' hat';have FI3:Hid (LFrm w1.heap.size wD w'):=Frm.grownNew (FI2.out.alloc (Nat.le_trans hbD.out hsz2) _) hgrow' (fun k hk=>(OI2.out.lt k hk).1) hbD.out;have LS3:Hid (LSt w' w1.heap.size w1.heap.size kk tg [.slice none 0 0,.int .i64 t.states,.slice HA hn hc,.slice (some nad) nn nc,.int .i64 bb,nv,tv,rv]):=(LS2.out.alloc _).grownT (OI2.out.alloc _) hgrow' (by decide) (by decide)
         have OI3:Hid (w'.ownsRow wD.heap.size 3 1 v' (k+1) (ints (row ++ [tw]))):=by
          show w'.ownsRow _ _ _ _ _ _;rw [iint_snoc];exact hown'
         clear hown' hgrow' hat';go_wp2;go_roundg (bb - (k+1))
         case measure=>omega
         case rel=>
          refine ⟨k+1,by omega,by omega,by go_num,FI3.out,?_,?_⟩
          ·show LSt _ _ _ _ _ _;rw [HSI'.out];exact LS3.out
          ·show World.ownsRow _ _ _ _ _ _ _;rw [HSI'.out];exact OI3.out
        ·have hltkz:¬ (k:Int) < (bb:Int):=by omega
         obtain rfl:bb=k:=by omega
         have hrl:(nodeS t kk bb ql (lowT t).2 g res m).2.length=bb:=by rw [HND2.out];exact scan_length _ _ _
         rw [← HND2.out] at LI OI hleni;generalize nodeS t kk bb ql (lowT t).2 g res m=q at LI OI hleni HE0 hrl;obtain ⟨gi,row⟩:=q;dsimp only at hleni hrl;have HRLl:=hiD hrl;have HE0':Hid (lowM t (m+1)=(gi,res ++ [row])):=HE0.out;have LI':Hid (LSt wr w1.heap.size w1.heap.size kk gi [.slice none 0 0,.int .i64 t.states,.slice HA hn hc,.slice (some nad) nn nc,.int .i64 bb,nv,tv,rv]):=LI.out;have OI':Hid (wr.ownsRow wD.heap.size 3 1 u11 bb (ints row)):=OI.out;have RRi:Hid (Rows2At wr wC.heap.size 22 3 rv res):=RRD.out.frm FI.out (by decide) (by decide) (by decide) (by decide);clear LI OI HE0 hrl n0 n1 nl;obtain ⟨vs,r1,r2,r3⟩:=RRi.out;rw [hmlen'.out] at r1;have R1:=hiD r1
         have R23:Hid (vs.length=res.length∧∀ j,j < res.length→wr.ownsRow wC.heap.size 3 1 (vs.getD j undef) (res.getD j []).length (ints (res.getD j []))):=⟨r2,r3⟩
         obtain ⟨UA,uc,rfl,_⟩:=Rd.own OI'.out;have c9:=LI'.out.cs 7;simp only [List.getElem?_cons_zero,List.getElem?_cons_succ] at c9;have hbD:Hid (w1.heap.size≤wD.heap.size):=Nat.le_trans hbC.out hszD;clear r1 r2 r3
         go_wp2_with (at_builtin;refine wpList_app rfl (.tmp 116) (.tmp 118) 57 rfl wC.heap.size 22 (.slice none 0 0) 1 24 Tryz.underlying57 ints_infoL rfl (by decide) (by decide) rv m vs rfl ?own (wr.heap.size+1) (some ⟨wr.heap.size,0,none⟩) 1 1 [.slice UA bb uc] rfl ?rd ?one ?hb ?hbase ?_)
         case own=>exact R1.out.alloc _
         case rd=>exact Rd.lit wr #[.slice UA bb uc] 22 (sz:=1) (m:=1) rfl
         case one=>first | (intro u hu;simp at hu;subst hu;rfl) | rfl
         case hb=>omega
         case hbase=>first | (simp;omega) | omega
         intro v' w' hown' hgrow' hat';obtain ⟨VA,vc,rfl,_⟩:=Rd.own hown';have FI3:Hid (LFrm w1.heap.size wC w'):=Frm.grownNew (FCi.out.alloc (Nat.le_trans hbD.out hszi) _) hgrow' (fun k hk=>(R1.out.lt k hk).1) hbC.out;have LS3:Hid (LSt w' w1.heap.size w1.heap.size kk gi [.slice none 0 0,.int .i64 t.states,.slice HA hn hc,.slice (some nad) nn nc,.int .i64 bb,nv,tv,rv]):=(LI'.out.alloc _).grownT (R1.out.alloc _) hgrow' (by decide) (by decide)
         have RR3:Hid (Rows2At w' wC.heap.size 22 3 (.slice VA (m+1) vc) (res ++ [row])):=by
          refine Rows2At.push (vs:=vs) (u:=.slice UA bb uc) (v:=rv) (by rw [hmlen'.out];exact R1.out.alloc _) R23.out.1 (fun j hj=>(R23.out.2 j hj).alloc _) ?_ hgrow' ?_ (by decide)
          ·rw [HRLl.out];exact own_base (OI'.out.alloc _) hszD
          ·rw [hmlen'.out];exact hown'
         clear hown' hgrow' hat' c9;obtain ⟨gv9,hrow9,hog9,hB9⟩:=LS3.out;obtain ⟨GA9,gc9,rfl,_⟩:=Rd.own hog9;have HROW:=hiD hrow9;have e9:=HROW.out.cell 9;have g9:=HROW.out.frozen 9;have e1:=HROW.out.cell 1;clear hrow9 hog9 hB9;simp only [List.getElem?_cons_zero,List.getElem?_cons_succ] at e9 e1;have hgl:¬ (20000:Int) < (gi.length:Int):=by omega
         generalize gi.length=gl at e1 hgl;go_wp2;go_roundg (nn - (m+1))
         case measure=>omega
         case rel=>
          refine ⟨m+1,.slice VA (m+1) vc,by omega,by omega,by go_num,Frm.set (p:=⟨w1.heap.size,9,none⟩) FI3.out HROW.out (Nat.le_refl _) _,?_,?_⟩
          ·show LSt _ _ _ _ _ _;rw [HE0'.out];exact LS3.out.set 7 _
          ·show Rows2At _ _ _ _ _ _;rw [HE0'.out];obtain ⟨vs',q1,q2,q3⟩:=RR3.out;exact ⟨vs',own_set (p:=⟨w1.heap.size,9,none⟩) q1 HROW.out (by decide) _,q2,fun j hj=>own_set (p:=⟨w1.heap.size,9,none⟩) (q3 j hj) HROW.out (by decide) _⟩
      ·have hltz:¬ (m:Int) < (nn:Int):=by omega
       obtain rfl:nn=m:=by omega
       have HLR:Hid (lowR t=⟨(kk:Int),(lowM t nn).1,(lowM t nn).2.getD (nn - 1) []⟩∧lowErr t=0):=⟨by rw [lowR,if_pos HR.out,HNN.out,HLN.out],by rw [lowErr,if_pos HR.out]⟩
       have hn1:=(rightT_parts HR.out).2.1.2.1;rw [HLN.out] at hn1;have hrl:=lowM_row (t:=t) nn (nn - 1) (by omega);rw [HBB.out] at hrl;obtain ⟨rg,rc,ru,rfl,hrc,hro⟩:=RR.out.get (nn - 1) (by rw [hmlen];omega);rw [hmlen] at LS;rw [hrl] at hro;obtain ⟨OA,oc,rfl,_⟩:=Rd.own hro;obtain ⟨gv9,hrow9,hog9,hB9⟩:=LS.out;obtain ⟨GA9,gc9,rfl,_⟩:=Rd.own hog9;have hrgl:=World.block_lt_of_cell? wr _ hrc;have HROW:=hiD hrow9;have HOG:=hiD hog9;have HRO:=hiD hro;have RCr:=hiD (rowCells RC.out HBr.out);have hcb:w.heap.size+1 < w1.heap.size:=RC.out.lt
       obtain ⟨n',rfl⟩:∃ n',nn=n'+1:=⟨nn - 1,by omega⟩
       rw [Nat.add_sub_cancel] at hrc HRO HLR hrl;have hgl:(lowM t (n'+1)).1.length≤20000:=by omega
       generalize hG:(lowM t (n'+1)).1=G at HROW HOG HLR hgl;generalize (lowM t (n'+1)).2.getD n' []=R at HRO HLR hrl;have e0:=HROW.out.cell 0;have e1:=HROW.out.cell 1;have e2:=HROW.out.cell 2;have e9:=HROW.out.cell 9;have g2:=HROW.out.frozen 2;have hbl:=HROW.out.lt;simp only [List.getElem?_cons_zero,List.getElem?_cons_succ] at e0 e1 e2 e9;have hj1:(0:Int)≤(n':Int):=by omega
       have hjn:(n':Int) < (n':Int)+1:=by omega
       have hwj:IntKind.i64.wrap (n':Int)=(n':Int):=IntWalk.i64_in _ (by omega);clear LS RR hlenm hmlen HROWL hrow9 hog9 hB9 hro hG;go_wp2_with fail
       go_still_tail 17,(by kernel_rfl)
       change wpList _ _ _ _ _ wr.drew;have HROWd:Hid (Row wr.drew w1.heap.size 74 (.int .i64 kk :: .slice GA9 G.length gc9 :: [.slice none 0 0,.int .i64 t.states,.slice HA hn hc,.slice (some nad) (n'+1) nc,.int .i64 bb,nv,tv,.slice (some ⟨rg,0,none⟩) (n'+1) rc])):=HROW.out.drew;have HOGd:Hid (wr.drew.ownsRow w1.heap.size 135 3 (.slice GA9 G.length gc9) G.length (gatesCells G)):=HOG.out;have HROd:Hid (wr.drew.ownsRow wC.heap.size 3 1 (.slice OA bb oc) bb (ints R)):=HRO.out;have RCd:Hid (Row wr.drew (w.heap.size+1) 36 [.int .i64 0,.slice none 0 0,.slice none 0 0]):=RCr.out.drew;have HBd:Hid (Below w.heap.size w wr.drew):=below_on2 HB.out (below_drewN HBr.out 1);clear e0 e1 e2 e9 g2 hbl hrc hrgl hj1 hjn hwj HROW HOG HRO RCr FF;revert HROWd HOGd HROd RCd HBd;generalize wr.drew=w9;intro HROWd HOGd HROd RCd HBd;have e0:=HROWd.out.cell 0;have e1:=HROWd.out.cell 1;have e2:=HROWd.out.cell 2;have g2:=HROWd.out.frozen 2;simp only [List.getElem?_cons_zero,List.getElem?_cons_succ] at e0 e1 e2;obtain ⟨d0,d1,d2,dl⟩:=RCd.out.cells3;obtain ⟨f0,f1,f2⟩:=RCd.out.froz3;have hcne:¬ w1.heap.size=w.heap.size+1:=by omega
       have hcne2:¬ w.heap.size+1=w1.heap.size:=by omega
       go_wp2;clear e0 e1 e2 g2 d0 d1 d2 dl f0 f1 f2;have c1:=RCd.out.far (p:=⟨w1.heap.size,2,none⟩) (fun e=>hcne2 e) (.slice OA bb oc);have c2:=c1.set 0 (.int .i64 kk);have c3:=c2.set 1 (.slice GA9 G.length gc9);have c4:=c3.set 2 (.slice OA bb oc);have p1:=own_set (p:=⟨w1.heap.size,2,none⟩) HOGd.out HROWd.out (by decide) (.slice OA bb oc);have p2:=own_set (p:=⟨w.heap.size+1,0,none⟩) p1 c1 (by decide) (.int .i64 kk);have p3:=own_set (p:=⟨w.heap.size+1,1,none⟩) p2 c2 (by decide) (.slice GA9 G.length gc9);have p4:=own_set (p:=⟨w.heap.size+1,2,none⟩) p3 c3 (by decide) (.slice OA bb oc);have q1:=own_set (p:=⟨w1.heap.size,2,none⟩) HROd.out HROWd.out (by decide) (.slice OA bb oc);have q2:=own_set (p:=⟨w.heap.size+1,0,none⟩) q1 c1 (by decide) (.int .i64 kk);have q3:=own_set (p:=⟨w.heap.size+1,1,none⟩) q2 c2 (by decide) (.slice GA9 G.length gc9);have q4:=own_set (p:=⟨w.heap.size+1,2,none⟩) q3 c3 (by decide) (.slice OA bb oc);have r0:=c4.cell 0;have r1:=c4.cell 1;have r2:=c4.cell 2;have hbl:=(((HBd.out.setCell (p:=⟨w1.heap.size,2,none⟩) (by show w.heap.size≤w1.heap.size;omega) (.slice OA bb oc)).setCell (p:=⟨w.heap.size+1,0,none⟩) (by show w.heap.size≤w.heap.size+1;omega) (.int .i64 kk)).setCell (p:=⟨w.heap.size+1,1,none⟩) (by show w.heap.size≤w.heap.size+1;omega) (.slice GA9 G.length gc9)).setCell (p:=⟨w.heap.size+1,2,none⟩) (by show w.heap.size≤w.heap.size+1;omega) (.slice OA bb oc);clear c1 c2 c3 c4 p1 p2 p3 q1 q2 q3;simp only [List.set_cons_zero,List.set_cons_succ,List.getElem?_cons_zero,List.getElem?_cons_succ] at r0 r1 r2;revert p4 q4 r0 r1 r2 hbl;generalize (World.setCell (World.setCell (World.setCell (World.setCell w9 ⟨w1.heap.size,2,none⟩ (.slice OA bb oc)) ⟨w.heap.size+1,0,none⟩ (.int .i64 kk)) ⟨w.heap.size+1,1,none⟩ (.slice GA9 G.length gc9)) ⟨w.heap.size+1,2,none⟩ (.slice OA bb oc))=wz;intro p4 q4 r0 r1 r2 hbl;refine bodyPost_ret (v:=.tuple #[.agg #[.int .i64 kk,.slice GA9 G.length gc9,.slice OA bb oc],.int .i64 0]) (by simp [results,Tryz.results8,go_sem,r0,r1,r2]) rfl ?_;rw [HLR.out.1,HLR.out.2];exact ⟨GA9,OA,G.length,gc9,bb,oc,rfl,⟨Rd.of_own p4,Rd.of_own q4,by unfold maxLen;omega,by unfold maxLen;omega⟩,hbl⟩
end Go.Proofs.YtbijfnbelkbofaaGreatDoor
