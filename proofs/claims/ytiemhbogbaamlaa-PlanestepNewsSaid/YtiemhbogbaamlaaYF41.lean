/-
 A part.
-/
import Derived.Test.YtiemhbogbaamlaaYF1
import Derived.Test.YtiemhbogbaamlaaYF40
import Derived.Test.YtiemhbogbaamlaaYF11
set_option linter.unusedSimpArgs false
set_option linter.unusedVariables false
namespace Go.Proofs.Ytiemhbogbaamlaa
open Go.RowKit
theorem gt_one (a b c:Int):∀ u ∈ [Value.int .i64 a,Value.int .i64 b,Value.int .i64 c],u.oneCell'=true:=by
 intro u hu
 simp only [List.mem_cons,List.not_mem_nil,or_false] at hu
 rcases hu with rfl | rfl | rfl <;> rfl
theorem testRows_rows (N bb S:Nat) (g:List Gt) (i:Nat):∀ r ∈ (testRows N bb S g i).2,r.length=S:=
 scan_all (fun g _ i=>testRow N bb S g i) g i (fun (r:List Int)=>r.length=S) (fun k g acc hk=>by unfold testRow;exact scan_length _ _ _)
theorem lowM_rows (t:Tre) (m:Nat):∀ r ∈ (lowM t m).2,r.length=bitsF t.states:=
 scan_all (fun g res i=>nodeS t (lowN t) (bitsF t.states) t.states.toNat (lowT t).2 g res i) (lowT t).1 m (fun (r:List Int)=>r.length=bitsF t.states) (fun k g acc hk=>by unfold nodeS;exact scan_length _ _ _)
def CPostF (c:Circ) (err:Int) (w:World) (e:Ending) (w':World):Prop:=
 ∃ (GA OA:Option Addr) (gn gc on oc:Nat),e=.returned (.tuple #[.agg #[.int .i64 c.inputs,.slice GA gn gc,.slice OA on oc],.int .i64 err])∧CAt w' c GA OA gn on∧(CFrom GA gn w.heap.size∧CFrom OA on w.heap.size)∧Below w.heap.size w w'
set_option maxRecDepth 100000 in
set_option maxHeartbeats 8000000 in
theorem rLower_from (t:Tre) (HA NA:Option Addr) (hn hc nn nc:Nat) (sl:List Sl) (w:World) (h:TAt w t HA NA hn nn sl) (h400:nn≤400):
 Calls Try.prog 33 #[.agg #[.int .i64 t.states,.slice HA hn hc,.slice NA nn nc]] w (CPostF (lowR t) (lowErr t) w):=by
 have H:Hid (TAt w t HA NA hn nn sl):=h
 have HLH:Hid (t.hood.length=hn):=h.hl
 have HLN:Hid (t.nodes.length=nn):=h.nl
 have hm1:=h.h63
 have hm2:=h.n63
 clear h
 unfold maxLen at hm1 hm2
 cases hr:rightT t
 ·have HR:Hid (rightT t=false):=hr
  have HCE:Hid (lowR t=noCirc∧lowErr t=11):=⟨lowR_none hr,lowErr_bad hr⟩
  clear hr
  go_enter Try.func33,Try.ntmps33
  go_wp2_with fail
  refine (rTreeRight_any t HA NA hn hc nn nc sl _ (H.out.up (by go_grown))).mono ?_
  rw [HR.out]
  rintro e w1 ⟨rfl,hb⟩
  have HB:Hid (Below w.heap.size w w1):=below_next hb (by go_grown)
  have RA:Hid (Row w1 w.heap.size 25 [.int .i64 t.states,.slice HA hn hc,.slice NA nn nc]):=rowCells ((Row.new w 25 [.int .i64 t.states,.slice HA hn hc,.slice NA nn nc]).alloc _) hb
  have RC:Hid (Row w1 (w.heap.size+1) 37 [.int .i64 0,.slice none 0 0,.slice none 0 0]):=rowCells (rowNew1 w _ 37 [.int .i64 0,.slice none 0 0,.slice none 0 0]) hb
  clear hb
  obtain ⟨k0,k1,k2,kl⟩:=RA.out.cells3
  obtain ⟨d0,d1,d2,dl⟩:=RC.out.cells3
  obtain ⟨f0,f1,f2⟩:=RC.out.froz3
  have B1:=HB.out
  go_wp2
  exact bodyPost_ret (v:=.tuple #[.agg #[.int .i64 0,.slice none 0 0,.slice none 0 0],.int .i64 11]) (by simp [results,Try.results33,go_sem,d0,d1,d2]) rfl (by rw [HCE.out.1,HCE.out.2];exact ⟨none,none,0,0,0,0,rfl,noCirc_at _,⟨CFrom.none,CFrom.none⟩,by go_grown⟩)
 have HR:Hid (rightT t=true):=hr
 clear hr
 obtain ⟨nad,rfl⟩:∃ nad,NA=some nad:=by
  have h1:=(rightT_parts HR.out).2.1.2.1
  rw [HLN.out] at h1
  obtain ⟨nad,e,_⟩:=H.out.node (k:=0) (by omega)
  exact ⟨nad,e⟩
 obtain ⟨hh,⟨hst,hn1,_,_⟩,_⟩:=rightT_parts HR.out
 have hn25:hn≤25:=by
  simp only [hoodOk,Bool.and_eq_true,decide_eq_true_eq] at hh
  rw [HLH.out] at hh;omega
 have hb3:=bitsF_bd t.states
 have hb1:=bitsF_pos hst
 generalize hbb:bitsF t.states=bb at hb3 hb1
 have HBB:Hid (bitsF t.states=bb):=hbb
 obtain ⟨N,hN⟩:∃ N:Nat,N=hn * bb:=⟨_,rfl⟩
 have HNN:Hid (lowN t=N):=by show _=_;rw [lowN,HLH.out,hbb,hN]
 have hmul:(hn:Int) * (bb:Int)=(N:Int):=by rw [hN];simp
 have hN75:N≤75:=by have:=Nat.mul_le_mul hn25 hb3;omega
 have HMUL:Hid (N=hn * bb):=hN
 obtain ⟨S,hS⟩:∃ S:Nat,t.states.toNat=S:=⟨_,rfl⟩
 have HSS:Hid (t.states.toNat=S):=hS
 have hSz:Hid (t.states=(S:Int)):=by show _=_;omega
 have hS2:2≤S∧S≤8:=by omega
 have hwN:IntKind.i64.wrap (N:Int)=(N:Int):=IntWalk.i64_in _ (by omega)
 clear hh hn1 hbb hN hS
 go_enter Try.func33,Try.ntmps33
 go_wp2_with fail
 refine (rTreeRight_any t HA (some nad) hn hc nn nc sl _ (H.out.up (by go_grown))).mono ?_
 rw [HR.out]
 rintro e w1 ⟨rfl,hb⟩
 have HB:Hid (Below w.heap.size w w1):=below_next hb (by go_grown)
 have RA:Hid (Row w1 w.heap.size 25 [.int .i64 t.states,.slice HA hn hc,.slice (some nad) nn nc]):=rowCells ((Row.new w 25 [.int .i64 t.states,.slice HA hn hc,.slice (some nad) nn nc]).alloc _) hb
 have RC:Hid (Row w1 (w.heap.size+1) 37 [.int .i64 0,.slice none 0 0,.slice none 0 0]):=rowCells (rowNew1 w _ 37 [.int .i64 0,.slice none 0 0,.slice none 0 0]) hb
 clear hb
 obtain ⟨k0,k1,k2,kl⟩:=RA.out.cells3
 obtain ⟨d0,d1,d2,dl⟩:=RC.out.cells3
 obtain ⟨f0,f1,f2⟩:=RC.out.froz3
 go_wp2_with (go_at_call 25;refine (rBits_any t.states _).mono ?_;rw [HBB.out];rintro e w2 ⟨rfl,rfl⟩)
 have RS0:Hid (RSt (World.alloc w1 (.cells #[.int .i64 N,.slice none 0 0,.slice none 0 0] 37)) w1.heap.size w1.heap.size N [] (.slice none 0 0)):=
  ⟨.slice none 0 0,Row.new w1 37 [.int .i64 N,.slice none 0 0,.slice none 0 0],World.ownsRow_nil _ _ _ _,Nat.le_refl _⟩
 have HB3:Hid (Below w1.heap.size w1 (World.alloc w1 (.cells #[.int .i64 N,.slice none 0 0,.slice none 0 0] 37))):=by show Below _ _ _;go_grown
 clear k0 k1 k2 kl d0 d1 d2 dl f0 f1 f2 hwN
 revert RS0 HB3
 generalize World.alloc w1 (.cells #[.int .i64 N,.slice none 0 0,.slice none 0 0] 37)=w3
 intro RS0 HB3
 have hb13:Hid (w1.heap.size≤w3.heap.size):=HB3.out.size
 go_loopg [7] N (fun gg s7 wr=>∃ (kk:Nat),kk≤N∧N - kk≤gg∧s7=.int .i64 kk∧Aside (RFrm w1.heap.size w3 wr)∧Aside (RSt wr w1.heap.size w1.heap.size N (notsG kk) (.slice none 0 0)))
 case atStart=>exact ⟨0,Nat.zero_le _,by omega,rfl,Frm.refl _ _ _ _,RS0.out⟩
 case round=>
  obtain ⟨kk,hkk,hgg,rfl,FF,RS⟩:=hrel
  have hsz:w3.heap.size≤wr.heap.size:=FF.out.below.size
  by_cases hlt:kk < N
  ·have hltz:(kk:Int) < (N:Int):=by omega
   obtain ⟨GA,gc,hrow9,hown9⟩:=RS.out.op
   rw [notsG_length] at hrow9 hown9
   have HROW:Hid (Row wr w1.heap.size 37 [.int .i64 N,.slice GA kk gc,.slice none 0 0]):=hrow9
   have HOG:Hid (wr.ownsRow w1.heap.size 77 3 (.slice GA kk gc) kk (gatesCells (notsG kk))):=hown9
   have hsz2:Hid (w1.heap.size≤wr.heap.size):=Nat.le_trans hb13.out hsz
   clear hrow9 hown9
   have e1:=HROW.out.cell 1
   have hbl:=HROW.out.lt
   simp only [List.getElem?_cons_zero,List.getElem?_cons_succ] at e1
   go_wp2_with (at_builtin;refine wpList_app rfl (.tmp 45) (.tmp 48) 34 rfl w1.heap.size 77 (.agg #[.int .i64 0,.int .i64 0,.int .i64 0]) 3 24 Try.underlying34 gate_infoL rfl (by decide) (by decide) (.slice GA kk gc) kk (gatesCells (notsG kk)) rfl ?own (wr.heap.size+1) (some ⟨wr.heap.size,0,none⟩) 1 1 [.int .i64 2,.int .i64 kk,.int .i64 0] rfl ?rd ?one ?hb ?hbase ?_)
   case own=>exact (HOG.out).alloc _
   case rd=>exact Rd.lit wr #[.int .i64 2,.int .i64 kk,.int .i64 0] 77 (sz:=3) (m:=1) rfl
   case one=>first | exact gt_one _ _ _ | rfl
   case hb=>omega
   case hbase=>first | (simp;omega) | omega
   intro v' w' hown' hgrow' hat'
   obtain ⟨VA,vc,rfl,_⟩:=Rd.own hown'
   obtain ⟨p1,p2,p3,p4⟩:=RSt.push (g:=⟨2,(kk:Int),0⟩) ((HROW.out).alloc _) ((HOG.out).alloc _) (Nat.le_refl _) (notsG_length kk) hgrow' hown' ((FF.out).alloc hsz2.out _)
   have PR:Hid (Row w' w1.heap.size 37 [.int .i64 N,.slice GA kk gc,.slice none 0 0]):=p1
   have PS:Hid (RSt (w'.setCell ⟨w1.heap.size,1,none⟩ (.slice VA (kk+1) vc)) w1.heap.size w1.heap.size N (notsG kk ++ [⟨2,(kk:Int),0⟩]) (.slice none 0 0)):=p2
   have PF:=Lib.hid p3
   have PG:=Lib.hid p4
   clear p1 p2 p3 p4
   have q1:=PR.out.cell 1
   have qf:=PR.out.frozen 1
   simp only [List.getElem?_cons_zero,List.getElem?_cons_succ] at q1
   clear hown' hgrow' hat' e1
   go_wp2
   go_roundg (N - (kk+1))
   case measure=>omega
   case rel=>exact ⟨kk+1,by omega,by omega,by go_num,PF.out,by show RSt _ _ _ _ _ _;rw [notsG_succ];exact PS.out⟩
  ·have hltz:¬ (kk:Int) < (N:Int):=by omega
   obtain rfl:N=kk:=by omega
   have hbA:Hid (w1.heap.size≤wr.heap.size):=Nat.le_trans hb13.out hsz
   have HBA:Hid (Below w1.heap.size w1 wr):=HB3.out.trans FF.out.below
   have RSA:Hid (RSt wr w1.heap.size w1.heap.size N (notsG N) (.slice none 0 0)):=RS.out
   clear RS FF hsz
   go_wp2
   obtain ⟨wA,rfl⟩:∃ wA:World,wA=wr:=⟨_,rfl⟩
   go_loopg [8,9,10,11,12] hn (fun gg s8 s9 _ _ _ wr=>∃ (i:Nat),i≤hn∧hn - i≤gg∧s9=.int .i64 i∧Aside (RFrm w1.heap.size wA wr)∧Aside (RSt wr w1.heap.size w1.heap.size N (testRows N bb S (notsG N) i).1 (.slice none 0 0))∧Aside (wr.ownsRow wA.heap.size 3 1 s8 (testRows N bb S (notsG N) i).2.flatten.length (ints (testRows N bb S (notsG N) i).2.flatten)))
   case atStart=>exact ⟨0,Nat.zero_le _,by omega,rfl,Frm.refl _ _ _ _,RSA.out,World.ownsRow_nil _ _ _ _⟩
   case round=>
    obtain ⟨i,hi,hgg,rfl,FF,RS,OW⟩:=hrel
    have hlen:=testRows_len N bb S i hb3 hS2.2 (notsG N)
    rw [notsG_length] at hlen
    have hrows:Hid (∀ r ∈ (testRows N bb S (notsG N) i).2,r.length=S):=testRows_rows N bb S (notsG N) i
    have hrl:(testRows N bb S (notsG N) i).2.length=i:=scan_length _ _ _
    by_cases hlt:i < hn
    ·have hltz:(i:Int) < (hn:Int):=by omega
     have HSU:Hid (testRows N bb S (notsG N) (i+1)=((testRow N bb S (testRows N bb S (notsG N) i).1 i).1,(testRows N bb S (notsG N) i).2 ++ [(testRow N bb S (testRows N bb S (notsG N) i).1 i).2])):=scan_succ _ _ _
     have hfl:=flat_len' S _ hrows.out
     rw [hrl] at hfl
     generalize testRows N bb S (notsG N) i=p at RS OW HSU hlen hfl hrows hrl
     obtain ⟨g,rows⟩:=p
     dsimp only at hlen hfl hrl
     have HSU':Hid (testRows N bb S (notsG N) (i+1)=((testRow N bb S g i).1,rows ++ [(testRow N bb S g i).2])):=HSU.out
     have RS1:Hid (RSt wr w1.heap.size w1.heap.size N g (.slice none 0 0)):=RS.out
     have OW1:Hid (wr.ownsRow wA.heap.size 3 1 u8 rows.flatten.length (ints rows.flatten)):=OW.out
     have hfl2:Hid (rows.flatten.length≤200):=by
      have:=Nat.mul_le_mul hi hS2.2
      have h3:i * S≤25 * 8:=Nat.mul_le_mul (by omega) hS2.2
      show _≤_
      omega
     have hbd:Hid (i * bb+bb≤N):=by
      have h1:=Nat.mul_le_mul_right bb (show i+1≤hn by omega)
      rw [Nat.add_mul,← HMUL.out] at h1
      show _≤_
      omega
     clear RS OW HSU hrows hrl hfl
     go_wp2
     obtain ⟨wo,rfl⟩:∃ wo:World,wo=wr:=⟨_,rfl⟩
     go_loopg [8,10,11,12] S (fun gg s8 s10 _ _ wi=>∃ (s:Nat),s≤S∧S - s≤gg∧s10=.int .i64 s∧Aside (RFrm w1.heap.size wA wi)∧Aside (RSt wi w1.heap.size w1.heap.size N (scan (fun g _ s=>testS N bb g i s) g s).1 (.slice none 0 0))∧Aside (wi.ownsRow wA.heap.size 3 1 s8 (rows.flatten.length+s) (ints (rows.flatten ++ (scan (fun g _ s=>testS N bb g i s) g s).2))))
     case atStart=>exact ⟨0,Nat.zero_le _,by omega,rfl,FF.out,RS1.out,by show World.ownsRow _ _ _ _ _ _ _;rw [scan_zero,List.append_nil,Nat.add_zero];exact OW1.out⟩
     case round=>
      clear FF RS1 OW1
      obtain ⟨s,hs,hgs,rfl,FF,RS,OW⟩:=hrel
      have HBr:Hid (Below w1.heap.size w1 wr):=HBA.out.trans FF.out.below
      have RTa:=hiD (rowCells RA.out HBr.out)
      obtain ⟨k0,k1,k2,kl⟩:=RTa.out.cells3
      have hsz:wA.heap.size≤wr.heap.size:=FF.out.below.size
      have hleni:=testRow_len N bb S i s hb3 g
      by_cases hlts:s < S
      ·have hltsz:(s:Int) < t.states:=by have:=hSz.out;omega
       have HSI:Hid (scan (fun g _ s=>testS N bb g i s) g (s+1)=((testS N bb (scan (fun g _ s=>testS N bb g i s) g s).1 i s).1,(scan (fun g _ s=>testS N bb g i s) g s).2 ++ [(testS N bb (scan (fun g _ s=>testS N bb g i s) g s).1 i s).2])):=scan_succ _ _ _
       generalize scan (fun g _ s=>testS N bb g i s) g s=q at RS OW HSI hleni
       obtain ⟨gi,row⟩:=q
       dsimp only at hleni
       have HSI':Hid (scan (fun g _ s=>testS N bb g i s) g (s+1)=((testS N bb gi i s).1,row ++ [(testS N bb gi i s).2])):=HSI.out
       have RS':Hid (RSt wr w1.heap.size w1.heap.size N gi (.slice none 0 0)):=RS.out
       have OW':Hid (wr.ownsRow wA.heap.size 3 1 u8 (rows.flatten.length+s) (ints (rows.flatten ++ row))):=OW.out
       generalize hff:rows.flatten ++ row=fl at OW'
       have HFF:Hid (rows.flatten ++ row=fl):=hff
       generalize hfn:rows.flatten.length=fn at OW' hfl2
       have HFN:Hid (rows.flatten.length=fn):=hfn
       clear RS OW HSI hff hfn
       obtain ⟨m,hmm⟩:∃ m:Nat,m=i * bb:=⟨_,rfl⟩
       have hmi:(i:Int) * (bb:Int)=(m:Int):=by rw [hmm,Int.natCast_mul]
       have HMM:Hid (m=i * bb):=hmm
       have hwm:IntKind.i64.wrap (m:Int)=(m:Int):=IntWalk.i64_in _ (by have:=hbd.out;omega)
       have hmN:m+bb≤N:=by have:=hbd.out;omega
       obtain ⟨GA,gc,hrow9,hown9⟩:=RS'.out.op
       have HROW:Hid (Row wr w1.heap.size 37 [.int .i64 N,.slice GA gi.length gc,.slice none 0 0]):=hrow9
       obtain ⟨e0,e1,e2,el⟩:=HROW.out.cells3
       clear hrow9 hown9 hmm
       have hs7:(s:Int)≤7:=by omega
       have hs0:(0:Int)≤(s:Int):=by omega
       go_wp2_with fail
       refine wp_region_still_tail 6 (by kernel_rfl) (by kernel_rfl) ?_
       simp only [List.take_succ_cons,List.take_zero,List.drop_succ_cons,List.drop_zero]
       still_step
       still_step
       still_step
       still_step
       still_step
       still_call ((rBit0_any (s:Int) _ hs0 hs7).mono (fun e w2 h2=>⟨h2.1,h2.2.symm⟩))
       refine wpStill_nil ?_
       change wpList _ _ _ _ _ wr.drew
       have FFd:Hid (RFrm w1.heap.size wA wr.drew):=Frm.drew FF.out
       have RSd:Hid (RSt wr.drew w1.heap.size w1.heap.size N gi (.slice none 0 0)):=RS'.out
       have OWd:Hid (wr.drew.ownsRow wA.heap.size 3 1 u8 (fn+s) (ints fl)):=OW'.out
       clear FF RS' OW' HROW HBr RTa k0 k1 k2 kl hsz e0 e1 e2 el
       revert FFd RSd OWd
       generalize wr.drew=wB
       intro FFd RSd OWd
       have hlit0:Hid (litF N m (bitI (s:Int) 0)=(allS N 3 gi ((litsF N bb i s).take 1)).2):=by
        show _=_
        rw [allS_one,litsF_get _ _ _ _ _ (by omega),Nat.add_zero,HMM.out]
       generalize hlv:litF N m (bitI (s:Int) 0)=lv at hlit0
       have HLV:Hid (litF N m (bitI (s:Int) 0)=lv):=hlv
       clear hlv
       go_wp2_with (go_at_call 59;refine (rlit_any N m gi.length gc 0 0 GA none (bitI (s:Int) 0) _ (by omega) (by omega)).mono ?_;rw [HLV.out];rintro e w5 ⟨rfl,hb⟩;have hb5:=hb;clear hb)
       have hBB:Hid (w1.heap.size≤wB.heap.size):=Nat.le_trans hbA.out FFd.out.below.size
       have FF5:Hid (RFrm w1.heap.size wA w5):=Frm.trans FFd.out (Frm.ofBelow hb5 hBB.out)
       have RS5:Hid (RSt w5 w1.heap.size w1.heap.size N gi (.slice none 0 0)):=RSd.out.below hb5
       have OW5:Hid (w5.ownsRow wA.heap.size 3 1 u8 (fn+s) (ints fl)):=own_below OWd.out hb5 (Nat.le_refl _)
       clear FFd RSd OWd hb5 hBB
       go_loopg [11,12] bb (fun gg s11 s12 wr=>∃ (k:Nat) (z:Int),1≤k∧k≤bb∧bb - k≤gg∧s12=.int .i64 k∧s11=.int .i64 z∧Aside (z=(allS N 3 gi ((litsF N bb i s).take k)).2)∧Aside (RFrm w1.heap.size w5 wr)∧Aside (RSt wr w1.heap.size w1.heap.size N (allS N 3 gi ((litsF N bb i s).take k)).1 (.slice none 0 0)))
       case atStart=>exact ⟨1,lv,by omega,by omega,by omega,rfl,rfl,hlit0.out,Frm.refl _ _ _ _,by show RSt _ _ _ _ _ _;rw [allS_one];exact RS5.out⟩
       case round=>
        obtain ⟨k,z,hk1,hk,hgk,rfl,rfl,HZ,FK,RK⟩:=hrel
        have hlenk:=allS_len N 3 gi ((litsF N bb i s).take k)
        rw [List.length_take,litsF_length,Nat.min_eq_left hk] at hlenk
        by_cases hltk:k < bb
        ·have hltkz:(k:Int) < (bb:Int):=by omega
         have HST:Hid (allS N 3 gi ((litsF N bb i s).take (k+1))=gateS N 3 (allS N 3 gi ((litsF N bb i s).take k)) (litF N (m+k) (bitI (s:Int) k))):=by
          show _=_
          rw [allS_take _ _ _ _ k hk1 (by rw [litsF_length];exact hltk),litsF_get _ _ _ _ _ hltk,HMM.out]
         generalize allS N 3 gi ((litsF N bb i s).take k)=p at HZ RK HST hlenk
         obtain ⟨pg,pw⟩:=p
         dsimp only at hlenk
         obtain ⟨j,hj⟩:∃ j:Nat,j=m+k:=⟨_,rfl⟩
         rw [← hj] at HST
         have hmk:(m:Int)+(k:Int)=(j:Int):=by omega
         have hwj:IntKind.i64.wrap (j:Int)=(j:Int):=IntWalk.i64_in _ (by omega)
         have hj100:j≤100:=by omega
         have HZ':Hid (z=pw):=HZ.out
         have RK':Hid (RSt wr w1.heap.size w1.heap.size N pg (.slice none 0 0)):=RK.out
         generalize hlv:litF N j (bitI (s:Int) k)=l2 at HST
         have HL2:Hid (litF N j (bitI (s:Int) k)=l2):=hlv
         obtain ⟨GA,gc,hrow9,hown9⟩:=RK'.out.op
         generalize hpn:pg.length=pn at hrow9 hown9 hlenk
         have HPN:Hid (pg.length=pn):=hpn
         have hpn3:pn≤gi.length+3:=by omega
         clear hlenk
         have HROW:Hid (Row wr w1.heap.size 37 [.int .i64 N,.slice GA pn gc,.slice none 0 0]):=hrow9
         have HOG:Hid (wr.ownsRow w1.heap.size 77 3 (.slice GA pn gc) pn (gatesCells pg)):=hown9
         obtain ⟨e0,e1,e2,el⟩:=HROW.out.cells3
         have hszr:Hid (w1.heap.size≤wr.heap.size):=Nat.le_trans hbA.out (Nat.le_trans FF5.out.below.size FK.out.below.size)
         clear hj hlv hpn hrow9 hown9 HZ RK
         have hN100:N≤100:=by omega
         have hszr2:=hszr.out
         clear hszr2 e0 e1 e2 el
         go_wp2_with fail
         refine wp_region_L (fun w'=>Row w' w1.heap.size 37 [.int .i64 N,.slice GA pn gc,.slice none 0 0]) [15,16,17] (by kernel_rfl) (by exact HROW.out.drew) (fun hHeld=>?_)
         have HROWd:Hid (Row wr.drew w1.heap.size 37 [.int .i64 N,.slice GA pn gc,.slice none 0 0]):=hHeld
         have HOGd:Hid (wr.drew.ownsRow w1.heap.size 77 3 (.slice GA pn gc) pn (gatesCells pg)):=HOG.out
         have FKd:Hid (RFrm w1.heap.size w5 wr.drew):=Frm.drew FK.out
         have hszd:Hid (w1.heap.size≤wr.drew.heap.size):=hszr.out
         clear HROW HOG FK hszr RK'
         revert HROWd HOGd FKd hszd hHeld
         generalize wr.drew=wQ
         intro hHeld HROWd HOGd FKd hszd
         refine lTakeW 0 ?va1 [[15,1],[16],[17]] rfl (by rfl) ?ya1 hHeld ?ra1
         case ya1=>intro w' hSw;clear hSw;go_simp;try (with_reducible rfl)
         go_simp
         refine lTakeW 1 ?va2 [[15],[16],[17]] rfl (by rfl) ?ya2 hHeld ?ra2
         case ya2=>
          intro w' hSw
          have hSh:Hid (Row w' w1.heap.size 37 [.int .i64 N,.slice GA pn gc,.slice none 0 0]):=hSw
          clear hSw
          obtain ⟨z0,z1,z2,zl⟩:=hSh.out.cells3
          go_simp
          try (with_reducible rfl)
         go_simp
         refine lTakeW 2 ?va3 [[15,14,13],[16],[17]] rfl (by rfl) ?ya3 hHeld ?ra3
         case ya3=>intro w' hSw;clear hSw;go_simp;try (with_reducible rfl)
         go_simp
         refine lTakeW 3 ?va4 [[15,12],[16],[17]] rfl (by rfl) ?ya4 hHeld ?ra4
         case ya4=>
          intro w' hSw
          have hSh:Hid (Row w' w1.heap.size 37 [.int .i64 N,.slice GA pn gc,.slice none 0 0]):=hSw
          clear hSw
          obtain ⟨z0,z1,z2,zl⟩:=hSh.out.cells3
          go_simp
          try (with_reducible rfl)
         go_simp
         refine lTakeW 4 ?va5 [[15,12,8,6],[16],[17]] rfl (by rfl) ?ya5 hHeld ?ra5
         case ya5=>intro w' hSw;clear hSw;go_simp;try (with_reducible rfl)
         go_simp
         refine lTakeW 5 ?va6 [[15,12,8,6],[16],[17]] rfl (by rfl) ?ya6 hHeld ?ra6
         case ya6=>intro w' hSw;clear hSw;go_simp;try (with_reducible rfl)
         go_simp
         refine lTakeW 6 ?va7 [[15,12,8],[16],[17]] rfl (by rfl) ?ya7 hHeld ?ra7
         case ya7=>intro w' hSw;clear hSw;go_simp;try (with_reducible rfl)
         go_simp
         refine lTakeW 7 ?va8 [[15,12,8],[16],[17]] rfl (by rfl) ?ya8 hHeld ?ra8
         case ya8=>intro w' hSw;clear hSw;go_simp;try (with_reducible rfl)
         go_simp
         refine lTakeW 8 ?va9 [[15,12],[16],[17]] rfl (by rfl) ?ya9 hHeld ?ra9
         case ya9=>intro w' hSw;clear hSw;go_simp;try (with_reducible rfl)
         go_simp
         refine lTakeW 9 ?va10 [[15,12,11],[16],[17]] rfl (by rfl) ?ya10 hHeld ?ra10
         case ya10=>intro w' hSw;clear hSw;go_simp;try (with_reducible rfl)
         go_simp
         refine lTakeW 10 ?va11 [[15,12,11],[16],[17]] rfl (by rfl) ?ya11 hHeld ?ra11
         case ya11=>intro w' hSw;clear hSw;go_simp;try (with_reducible rfl)
         go_simp
         refine restL_one (i:=11) (by kernel_rfl) rfl (fun K hK=>?_)
         go_simp
         go_at_call 60
         refine (rBit_any (s:Int) k _ hs0 hs7 (by omega)).mono ?_
         rintro e w4 ⟨rfl,rfl⟩
         refine hK.out _ _ (fun _=>?keep) (fun hHeld=>?_)
         case keep=>exact hHeld
         have hHeld:=hHeld rfl
         clear hK K
         try go_simp
         refine restL_one (i:=12) (by kernel_rfl) rfl (fun K hK=>?_)
         go_simp
         go_at_call 59
         refine (rlit_any N j pn gc 0 0 GA none (bitI (s:Int) k) _ hN100 hj100).mono ?_
         rw [HL2.out]
         rintro e w4 ⟨rfl,hb4⟩
         have HROWp:=hiD (rowCells HROWd.out hb4)
         have HOGp:Hid (w4.ownsRow w1.heap.size 77 3 (.slice GA pn gc) pn (gatesCells pg)):=own_below HOGd.out hb4 (Nat.le_refl _)
         have Fp:Hid (RFrm w1.heap.size w5 w4):=Frm.trans FKd.out (Frm.ofBelow hb4 hszd.out)
         have hsz4:Hid (w1.heap.size≤w4.heap.size):=Nat.le_trans hszd.out hb4.size
         have hbl4:=HROWp.out.lt
         clear hb4 hHeld
         refine hK.out _ _ (fun _=>?keep) (fun hHeld=>?_)
         case keep=>exact HROWp.out
         have hHeld:=hHeld rfl
         clear hK K
         try go_simp
         refine lTakeW 13 ?va12 [[15,14],[16],[17]] rfl (by rfl) ?ya12 hHeld ?ra12
         case ya12=>intro w' hSw;clear hSw;go_simp;try (with_reducible rfl)
         go_simp
         refine restL_one (i:=14) (by kernel_rfl) rfl (fun K hK=>?_)
         go_simp
         refine hK.out _ _ (fun _=>?keep) (fun hHeld=>?_)
         case keep=>exact HROWp.out.alloc _
         have hHeld:=hHeld rfl
         clear hK K
         try go_simp
         refine restL_one (i:=15) (by kernel_rfl) rfl (fun K hK=>?_)
         refine step_app rfl (.tmp 75) (.tmp 88) 34 rfl w1.heap.size 77 (.agg #[.int .i64 0,.int .i64 0,.int .i64 0]) 3 24 Try.underlying34 gate_infoL rfl (by decide) (by decide) (.slice GA pn gc) pn (gatesCells pg) rfl ?own (w4.heap.size+1) (some ⟨w4.heap.size,0,none⟩) 1 1 [.int .i64 3,.int .i64 z,.int .i64 l2] rfl ?rd ?one ?hb ?hbase ?_
         case own=>exact (HOGp.out).alloc _
         case rd=>exact Rd.lit w4 #[.int .i64 3,.int .i64 z,.int .i64 l2] 77 (sz:=3) (m:=1) rfl
         case one=>first | exact gt_one _ _ _ | rfl
         case hb=>omega
         case hbase=>first | (simp;omega) | omega
         intro v' w' hown' hgrow' hat'
         obtain ⟨VA,vc,rfl,_⟩:=Rd.own hown'
         obtain ⟨p1,p2,p3,p4⟩:=RSt.push (g:=⟨3,z,l2⟩) ((HROWp.out).alloc _) ((HOGp.out).alloc _) (Nat.le_refl _) HPN.out hgrow' hown' ((Fp.out).alloc hsz4.out _)
         have PR:Hid (Row w' w1.heap.size 37 [.int .i64 N,.slice GA pn gc,.slice none 0 0]):=p1
         have PS:Hid (RSt (w'.setCell ⟨w1.heap.size,1,none⟩ (.slice VA (pn+1) vc)) w1.heap.size w1.heap.size N (pg ++ [⟨3,z,l2⟩]) (.slice none 0 0)):=p2
         have PF:=Lib.hid p3
         have PG:=Lib.hid p4
         clear p1 p2 p3 p4
         have q1:=PR.out.cell 1
         have qf:=PR.out.frozen 1
         simp only [List.getElem?_cons_zero,List.getElem?_cons_succ] at q1
         clear hown' hgrow' hat'
         refine hK.out _ _ (fun h=>absurd h (by decide)) (fun _=>?_)
         clear hK K
         try go_simp
         refine restL_one (i:=16) (by kernel_rfl) rfl (fun K hK=>?_)
         go_simp
         refine hK.out _ _ (fun h=>absurd h (by decide)) (fun _=>?_)
         clear hK K
         try go_simp
         refine restL_one (i:=17) (by kernel_rfl) rfl (fun K hK=>?_)
         go_simp
         refine hK.out _ _ (fun h=>absurd h (by decide)) (fun _=>?_)
         clear hK K
         try go_simp
         refine restL_done (by kernel_rfl) ?_ _
         have HR8:Hid (Row (World.setCell w' ⟨w1.heap.size,1,none⟩ (.slice VA (pn+1) vc)) w1.heap.size 37 [.int .i64 N,.slice VA (pn+1) vc,.slice none 0 0]):=PR.out.set 1 (.slice VA (pn+1) vc)
         clear PG q1 qf PR
         revert HR8 PS PF
         generalize World.setCell w' ⟨w1.heap.size,1,none⟩ (.slice VA (pn+1) vc)=w8
         intro PS PF HR8
         obtain ⟨e0,e1,e2,el⟩:=HR8.out.cells3
         have hpn4:pn+1≤30000:=by omega
         go_wp2_with (go_at_call 61;refine (rlast_any N (pn+1) vc 0 0 VA none _ hN100 hpn4).mono ?_;rintro e w9 ⟨rfl,hb9⟩)
         have RK9:Hid (RSt w9 w1.heap.size w1.heap.size N (pg ++ [⟨3,z,l2⟩]) (.slice none 0 0)):=PS.out.below hb9
         have FK9:Hid (RFrm w1.heap.size w5 w9):=Frm.trans PF.out (Frm.ofBelow hb9 (Nat.le_of_lt PS.out.blk.1))
         clear hb9 PS PF HR8 e0 e1 e2 el
         go_roundg (bb - (k+1))
         case measure=>omega
         case rel=>
          refine ⟨k+1,(N:Int)+((pn:Int)+1) - 1,by omega,by omega,by omega,by go_num,by go_num,?_,FK9.out,?_⟩
          ·show _=_
           rw [HST.out]
           show _=wireF N pg
           rw [wireF,HPN.out]
           omega
          ·show RSt _ _ _ _ _ _
           rw [HST.out]
           show RSt _ _ _ _ (pg ++ [⟨3,pw,l2⟩]) _
           rw [← HZ'.out]
           exact RK9.out
        ·have hltkz:¬ (k:Int) < (bb:Int):=by omega
         obtain rfl:k=bb:=by omega
         have htt:allS N 3 gi ((litsF N k i s).take k)=testS N k gi i s:=by
          have h1:=allS_all N 3 gi (litsF N k i s)
          rw [litsF_length] at h1
          exact h1
         rw [htt] at HZ RK hlenk
         generalize testS N k gi i s=ts at HZ RK hlenk HSI'
         obtain ⟨tg,tw⟩:=ts
         dsimp only at hlenk
         have HSI2:Hid (scan (fun g _ s=>testS N k g i s) g (s+1)=(tg,row ++ [tw])):=HSI'.out
         have HZ2:Hid (z=tw):=HZ.out
         have RK2:Hid (RSt wr w1.heap.size w1.heap.size N tg (.slice none 0 0)):=RK.out
         have OWr:Hid (wr.ownsRow wA.heap.size 3 1 u8 (fn+s) (ints fl)):=Frm.own FK.out OW5.out (by decide) (by decide)
         have FFr:Hid (RFrm w1.heap.size wA wr):=Frm.trans FF5.out FK.out
         have hszr:Hid (wA.heap.size≤wr.heap.size):=FFr.out.below.size
         clear HZ RK HSI' OW5 FF5 FK RS5 htt hlenk
         have hb11:fn+s+1≤9000:=by have:=hfl2.out;omega
         have hszr2:=hszr.out
         go_wp2_with (at_builtin;refine wpList_app rfl (.tmp 93) (.tmp 95) 35 rfl wA.heap.size 3 (.int .i64 0) 1 8 Try.underlying35 int_infoL rfl (by decide) (by decide) u8 (fn+s) (ints fl) rfl ?own (wr.heap.size+1) (some ⟨wr.heap.size,0,none⟩) 1 1 [.int .i64 z] rfl ?rd ?one ?hb ?hbase ?_)
         case own=>exact (OWr.out).alloc _
         case rd=>exact Rd.lit wr #[.int .i64 z] 3 (sz:=1) (m:=1) rfl
         case one=>first | (intro u hu;simp at hu;subst hu;rfl) | rfl
         case hb=>omega
         case hbase=>first | (simp;omega) | omega
         intro v' w' hown' hgrow' hat'
         have FF3:Hid (RFrm w1.heap.size wA w'):=Frm.grownNew (FFr.out.alloc (Nat.le_trans hbA.out hszr.out) _) hgrow' (fun k hk=>(OWr.out.lt k hk).1) hbA.out
         have RS3:Hid (RSt w' w1.heap.size w1.heap.size N tg (.slice none 0 0)):=(RK2.out.alloc _).grownT (OWr.out.alloc _) hgrow' (by decide) (by decide)
         have OW3:Hid (w'.ownsRow wA.heap.size 3 1 v' (fn+s+1) (ints (fl ++ [tw]))):=by
          show w'.ownsRow _ _ _ _ _ _
          rw [iint_snoc,← HZ2.out]
          exact hown'
         clear hown' hgrow' hat'
         go_wp2
         go_roundg (S - (s+1))
         case measure=>omega
         case rel=>
          refine ⟨s+1,by omega,by omega,by go_num,FF3.out,?_,?_⟩
          ·show RSt _ _ _ _ _ _
           rw [HSI2.out];exact RS3.out
          ·show World.ownsRow _ _ _ _ _ _ _
           rw [HSI2.out,HFN.out]
           show World.ownsRow _ _ _ _ _ _ (ints (rows.flatten ++ (row ++ [tw])))
           rw [← List.append_assoc,HFF.out]
           exact OW3.out
      ·have hltsz:¬ (s:Int) < t.states:=by have:=hSz.out;omega
       obtain rfl:s=S:=by omega
       have HTR:Hid (testRow N bb s g i=scan (fun g _ s=>testS N bb g i s) g s):=rfl
       rw [← HTR.out] at RS OW hleni
       generalize testRow N bb s g i=q at RS OW hleni HSU'
       obtain ⟨gi,row⟩:=q
       have HSU2:Hid (testRows N bb s (notsG N) (i+1)=(gi,rows ++ [row])):=HSU'.out
       have RS2:Hid (RSt wr w1.heap.size w1.heap.size N gi (.slice none 0 0)):=RS.out
       have hfe:(rows.flatten ++ row).length=rows.flatten.length+s:=by
        have h1:row.length=s:=by
         have h2:=testRows_rows N bb s (notsG N) (i+1)
         rw [HSU2.out] at h2
         exact h2 row (by simp)
        rw [List.length_append,h1]
       have OW2:Hid (wr.ownsRow wA.heap.size 3 1 u8 (rows.flatten ++ row).length (ints (rows.flatten ++ row))):=by
        show World.ownsRow _ _ _ _ _ _ _
        rw [hfe];exact OW.out
       clear RS OW HSU' HTR hleni hfe
       go_wp2
       go_roundg (hn - (i+1))
       case measure=>omega
       case rel=>
        refine ⟨i+1,by omega,by omega,by go_num,FF.out,?_,?_⟩
        ·show RSt _ _ _ _ _ _
         rw [HSU2.out];exact RS2.out
        ·show World.ownsRow _ _ _ _ _ _ _
         rw [HSU2.out]
         show World.ownsRow _ _ _ _ _ (rows ++ [row]).flatten.length (ints (rows ++ [row]).flatten)
         rw [List.flatten_append,List.flatten_cons,List.flatten_nil,List.append_nil]
         exact OW2.out
    ·have hltz:¬ (i:Int) < (hn:Int):=by omega
     obtain rfl:hn=i:=by omega
     have HLT:Hid (lowT t=testRows N bb S (notsG N) hn):=by show _=_;rw [lowT,HNN.out,HBB.out,HSS.out,HLH.out]
     have RSC:Hid (RSt wr w1.heap.size w1.heap.size N (lowM t 0).1 (.slice none 0 0)):=by
      have e:(lowM t 0).1=(testRows N bb S (notsG N) hn).1:=by rw [← HLT.out];rfl
      show RSt _ _ _ _ _ _
      rw [e];exact RS.out
     have HTLn:Hid ((lowT t).2.length=hn):=by show _=_;rw [HLT.out];exact hrl
     have OWC:Hid (wr.ownsRow wA.heap.size 3 1 u8 (lowT t).2.flatten.length (ints (lowT t).2.flatten)):=by
      show World.ownsRow _ _ _ _ _ _ _
      rw [HLT.out];exact OW.out
     have HTRW:Hid (∀ r ∈ (lowT t).2,r.length=S):=by show ∀ r ∈ _,_;rw [HLT.out];exact hrows.out
     have hbC:Hid (w1.heap.size≤wr.heap.size):=Nat.le_trans hbA.out FF.out.below.size
     have HBC:Hid (Below w1.heap.size w1 wr):=HBA.out.trans FF.out.below
     have hAC:Hid (wA.heap.size≤wr.heap.size):=FF.out.below.size
     have RTa:=hiD (rowCells RA.out HBC.out)
     obtain ⟨k0,k1,k2,kl⟩:=RTa.out.cells3
     clear RS OW FF hlen hrows hrl
     go_wp2
     clear k0 k1 k2 kl RTa
     obtain ⟨TA,tcc,rfl,_⟩:=Rd.own OWC.out
     have hTLn:(lowT t).2.flatten.length=hn * S:=by
      rw [flat_len' S _ HTRW.out,HTLn.out]
     have HTG:Hid (∀ pos q,pos < hn→q < S→(lowT t).2.flatten.getD (pos * S+q) 0=((lowT t).2.getD pos []).getD q 0∧pos * S+q < (lowT t).2.flatten.length):=fun pos q h1 h2=>flat_get S _ HTRW.out pos q (by rw [HTLn.out];exact h1) h2
     have hn1:=(rightT_parts HR.out).2.1.2.1
     rw [HLN.out] at hn1
     have hnn1:1≤hn:=by
      obtain ⟨⟨l1,l2,_⟩,_⟩:=nodeOk_parts ((rightT_parts HR.out).2.2 0 (by rw [HLN.out];omega))
      rw [HLH.out] at l2
      omega
     have hTL200:hn * S≤200:=by have:=Nat.mul_le_mul hn25 hS2.2;omega
     generalize (lowT t).2.flatten=TF at OWC hTLn HTG
     rw [hTLn] at OWC HTG ⊢
     obtain ⟨TL,hTL⟩:∃ TL:Nat,TL=hn * S:=⟨_,rfl⟩
     rw [← hTL] at OWC HTG hTLn hTL200 ⊢
     have hTL1:0 < TL:=by have:=Nat.mul_le_mul hnn1 hS2.1;omega
     obtain ⟨tgb,rfl,_,_⟩:=own_int OWC.out 0 hTL1
     clear hTL hTL1
     obtain ⟨wC,rfl⟩:∃ wC:World,wC=wr:=⟨_,rfl⟩
     go_loopg [13,14,15,16,17,18,19,20,21] nn (fun gg s13 s14 _ _ _ _ _ _ _ wr=>∃ (m:Nat),m≤nn∧nn - m≤gg∧s14=.int .i64 m∧Aside (RFrm w1.heap.size wC wr)∧Aside (RSt wr w1.heap.size w1.heap.size N (lowM t m).1 (.slice none 0 0))∧Aside (wr.ownsRow wC.heap.size 3 1 s13 (lowM t m).2.flatten.length (ints (lowM t m).2.flatten)))
     case atStart=>exact ⟨0,Nat.zero_le _,by omega,rfl,Frm.refl _ _ _ _,RSC.out,World.ownsRow_nil _ _ _ _⟩
     case round=>
      obtain ⟨m,hm,hgg,rfl,FF,RS,OW⟩:=hrel
      have HBr:Hid (Below w1.heap.size w1 wr):=HBC.out.trans FF.out.below
      have RTa:=hiD (rowCells RA.out HBr.out)
      obtain ⟨k0,k1,k2,kl⟩:=RTa.out.cells3
      have hsz:wC.heap.size≤wr.heap.size:=FF.out.below.size
      have hlenm:=lowM_len HR.out m
      have hmlen:(lowM t m).2.length=m:=by unfold lowM nodesS;exact scan_length _ _ _
      have HMRW:Hid (∀ r ∈ (lowM t m).2,r.length=bb):=by
       show ∀ r ∈ _,_
       have h1:=lowM_rows t m
       rw [HBB.out] at h1;exact h1
      by_cases hlt:m < nn
      ·have hltz:(m:Int) < (nn:Int):=by omega
       have e0:lowM t (m+1)=((nodeS t (lowN t) (bitsF t.states) t.states.toNat (lowT t).2 (lowM t m).1 (lowM t m).2 m).1,(lowM t m).2 ++ [(nodeS t (lowN t) (bitsF t.states) t.states.toNat (lowT t).2 (lowM t m).1 (lowM t m).2 m).2]):=scan_succ _ _ _
       rw [HNN.out,HBB.out,HSS.out] at e0
       obtain ⟨hnx,hql⟩:=(H.out.up HB.out).next m (by rw [HLN.out];exact hlt)
       obtain ⟨⟨l1,l2,l3⟩,hlink⟩:=nodeOk_parts ((rightT_parts HR.out).2.2 m (by rw [HLN.out];exact hlt))
       have HND:Hid (nodeS t N bb S (lowT t).2 (lowM t m).1 (lowM t m).2 m=scan (fun g _ k=>resS N (upN (t.nodes.getD m default)) ((lowT t).2.getD ((hn:Int) - (t.nodes.getD m default).level).toNat []) (lowM t m).2 (t.nodes.getD m default).next S g k) (lowM t m).1 bb):=by
        show _=_
        rw [nodeS,HLH.out]
       have HNODE:Hid (∀ w9:World,Below w.heap.size w w9→w9.cell? (nad.add (m * 2))=some (.int .i64 (t.nodes.getD m default).level)∧w9.cell? ⟨(nad.add (m * 2)).block,(nad.add (m * 2)).off+1,none⟩=some (.slice (sl.getD m default).at_ (sl.getD m default).len (sl.getD m default).cap)∧nad.block < w9.heap.size):=by
        intro w9 hb
        obtain ⟨nad',e,b,c,d⟩:=(H.out.up hb).node hlt
        cases e
        exact ⟨c,d,b⟩
       generalize t.nodes.getD m default=x at hnx l1 l2 l3 hlink HND HNODE
       generalize sl.getD m default=q at hnx hql HNODE
       obtain ⟨qa,ql,qc⟩:=q
       obtain ⟨lev,nx⟩:=x
       dsimp only at hnx hql l1 l2 l3
       rw [HLH.out] at l2
       obtain ⟨pos,hpos⟩:∃ pos:Nat,(hn:Int) - lev=pos:=⟨((hn:Int) - lev).toNat,by omega⟩
       have hpl:pos < hn:=by omega
       have hqS:S=ql:=by
        have h1:=hnx.1
        rw [ints_length,Nat.mul_one] at h1
        have h2:=hSz.out
        omega
       subst hqS
       have HLINK:Hid (∀ s,s < S→linkOk t m ⟨lev,nx⟩ (nx.getD s 0)=true):=fun s hs=>hlink s (by have h1:=hnx.1;rw [ints_length,Nat.mul_one] at h1;show s < nx.length;omega)
       have HNX:Hid (Rd w1 w1.heap.size 1 qa S (ints nx)):=hnx
       have HNODE2:Hid (∀ w9:World,Below w.heap.size w w9→w9.cell? (nad.add (m * 2))=some (.int .i64 lev)∧w9.cell? ⟨(nad.add (m * 2)).block,(nad.add (m * 2)).off+1,none⟩=some (.slice qa S qc)∧nad.block < w9.heap.size):=HNODE.out
       have hnd:nodeS t N bb S (lowT t).2 (lowM t m).1 (lowM t m).2 m=scan (fun g _ k=>resS N (decide (1 < lev)) ((lowT t).2.getD pos []) (lowM t m).2 nx S g k) (lowM t m).1 bb:=by
        have h1:=HND.out
        rw [hpos,Int.toNat_natCast] at h1
        exact h1
       rw [hnd] at e0
       have HTGp:Hid (∀ q,q < S→TF.getD (pos * S+q) 0=((lowT t).2.getD pos []).getD q 0∧pos * S+q < TL):=fun q hq=>HTG.out pos q hpl hq
       generalize (lowT t).2.getD pos []=tr at HTGp e0
       have hrf:=flat_len' bb _ HMRW.out
       rw [hmlen] at hrf
       have HRG:Hid (∀ z k,z < m→k < bb→(lowM t m).2.flatten.getD (z * bb+k) 0=((lowM t m).2.getD z []).getD k 0∧z * bb+k < (lowM t m).2.flatten.length):=fun z k h1 h2=>flat_get bb _ HMRW.out z k (by rw [hmlen];exact h1) h2
       clear HND HNODE hnd hnx hlink l3
       generalize lowM t m=p at RS OW e0 hlenm hmlen hrf HRG HMRW
       obtain ⟨g,res⟩:=p
       dsimp only at hlenm hmlen hrf
       have HE0:Hid (lowM t (m+1)=((scan (fun g _ k=>resS N (decide (1 < lev)) tr res nx S g k) g bb).1,res ++ [(scan (fun g _ k=>resS N (decide (1 < lev)) tr res nx S g k) g bb).2])):=e0
       have HRG1:Hid (∀ z k,z < m→k < bb→res.flatten.getD (z * bb+k) 0=(res.getD z []).getD k 0∧z * bb+k < res.flatten.length):=HRG.out
       have RS1:Hid (RSt wr w1.heap.size w1.heap.size N g (.slice none 0 0)):=RS.out
       have OW1:Hid (wr.ownsRow wC.heap.size 3 1 u13 res.flatten.length (ints res.flatten)):=OW.out
       have hrl1200:res.flatten.length+3≤1300:=by
        have h1:m * bb≤400 * 3:=Nat.mul_le_mul (by omega) hb3
        omega
       clear e0 RS OW HRG HMRW hmlen hrf HBr hsz
       generalize hRF:res.flatten=RF at OW1 HRG1 hrl1200
       have HRF:Hid (res.flatten=RF):=hRF
       generalize hRL:RF.length=RL at OW1 HRG1 hrl1200
       have HRL:Hid (RF.length=RL):=hRL
       clear hRF hRL
       have HPOS:Hid ((hn:Int) - lev=pos):=hpos
       clear hpos
       go_wp2
       clear k0 k1 k2 kl RTa
       obtain ⟨wD,rfl⟩:∃ wD:World,wD=wr:=⟨_,rfl⟩
       go_loopg [13,15,16,17,18,19,20,21] bb (fun gg s13 s15 _ _ _ _ _ _ wr=>∃ (k:Nat),k≤bb∧bb - k≤gg∧s15=.int .i64 k∧Aside (RFrm w1.heap.size wC wr)∧Aside (RSt wr w1.heap.size w1.heap.size N (scan (fun g _ k=>resS N (decide (1 < lev)) tr res nx S g k) g k).1 (.slice none 0 0))∧Aside (wr.ownsRow wC.heap.size 3 1 s13 (RL+k) (ints (RF ++ (scan (fun g _ k=>resS N (decide (1 < lev)) tr res nx S g k) g k).2))))
       case atStart=>exact ⟨0,Nat.zero_le _,by omega,rfl,FF.out,RS1.out,by show World.ownsRow _ _ _ _ _ _ _;rw [scan_zero,List.append_nil,Nat.add_zero];exact OW1.out⟩
       case round=>
        clear FF RS1 OW1
        obtain ⟨k,hk,hgk,rfl,FF,RS,OW⟩:=hrel
        have HBr:Hid (Below w1.heap.size w1 wr):=HBC.out.trans FF.out.below
        have hsz:wC.heap.size≤wr.heap.size:=FF.out.below.size
        have hleni:=resRow_len N S (decide (1 < lev)) tr res nx k (by omega) hS2.2 g
        by_cases hltk:k < bb
        ·have hltkz:(k:Int) < (bb:Int):=by omega
         have HSI:Hid (scan (fun g _ k=>resS N (decide (1 < lev)) tr res nx S g k) g (k+1)=((resS N (decide (1 < lev)) tr res nx S (scan (fun g _ k=>resS N (decide (1 < lev)) tr res nx S g k) g k).1 k).1,(scan (fun g _ k=>resS N (decide (1 < lev)) tr res nx S g k) g k).2 ++ [(resS N (decide (1 < lev)) tr res nx S (scan (fun g _ k=>resS N (decide (1 < lev)) tr res nx S g k) g k).1 k).2])):=scan_succ _ _ _
         have hrowk:(scan (fun g _ k=>resS N (decide (1 < lev)) tr res nx S g k) g k).2.length=k:=scan_length _ _ _
         generalize scan (fun g _ k=>resS N (decide (1 < lev)) tr res nx S g k) g k=q at RS OW HSI hleni hrowk
         obtain ⟨gi,row⟩:=q
         dsimp only at hleni hrowk
         have HSI':Hid (scan (fun g _ k=>resS N (decide (1 < lev)) tr res nx S g k) g (k+1)=((resS N (decide (1 < lev)) tr res nx S gi k).1,row ++ [(resS N (decide (1 < lev)) tr res nx S gi k).2])):=HSI.out
         have RS1:Hid (RSt wr w1.heap.size w1.heap.size N gi (.slice none 0 0)):=RS.out
         have OW1:Hid (wr.ownsRow wC.heap.size 3 1 u13 (RL+k) (ints (RF ++ row))):=OW.out
         have HRG2:Hid (∀ z,z < m→(RF ++ row).getD (z * bb+k) 0=(res.getD z []).getD k 0∧z * bb+k < RL+k):=fun z hz=>by
          obtain ⟨h1,h2⟩:=HRG1.out z k hz hltk
          refine ⟨?_,by omega⟩
          rw [← h1,List.getD_eq_getElem?_getD,List.getD_eq_getElem?_getD,List.getElem?_append_left (by rw [HRL.out];exact h2)]
         generalize hFR:RF ++ row=FR at OW1 HRG2
         have HFR:Hid (RF ++ row=FR):=hFR
         clear RS OW HSI hFR
         obtain ⟨g0,g1,g2⟩:=HNODE2.out wr (below_on2 HB.out HBr.out)
         have RTa:=hiD (rowCells RA.out HBr.out)
         obtain ⟨k0,k1,k2,kl⟩:=RTa.out.cells3
         go_wp2
         have RN:Hid (Row (World.alloc wr _) wr.heap.size 64 [.int .i64 lev,.slice qa S qc]):=Row.new wr 64 [.int .i64 lev,.slice qa S qc]
         have FD:Hid (RFrm w1.heap.size wC (World.alloc wr (.cells #[.int .i64 lev,.slice qa S qc] 64))):=FF.out.alloc (Nat.le_trans hbC.out hsz) _
         have RSD:Hid (RSt (World.alloc wr (.cells #[.int .i64 lev,.slice qa S qc] 64)) w1.heap.size w1.heap.size N gi (.slice none 0 0)):=RS1.out.alloc _
         have OWD:Hid (World.ownsRow (World.alloc wr (.cells #[.int .i64 lev,.slice qa S qc] 64)) wC.heap.size 3 1 u13 (RL+k) (ints FR)):=OW1.out.alloc _
         have OTD:Hid (World.ownsRow (World.alloc wr (.cells #[.int .i64 lev,.slice qa S qc] 64)) wA.heap.size 3 1 (.slice (some ⟨tgb,0,none⟩) TL tcc) TL (ints TF)):=(Frm.own FF.out OWC.out (by decide) (by decide)).alloc _
         clear g0 g1 g2 k0 k1 k2 kl RS1 OW1 HBr hsz RTa
         revert RN FD RSD OWD OTD
         generalize World.alloc wr (.cells #[.int .i64 lev,.slice qa S qc] 64)=wE
         intro RN FD RSD OWD OTD
         have hszE:wC.heap.size≤wE.heap.size:=FD.out.below.size
         obtain ⟨wo,rfl⟩:∃ wo:World,wo=wr:=⟨_,rfl⟩
         go_loopg [17,18,19] S (fun gg s17 s18 _ wr=>∃ (ss:Nat),ss≤S∧S - ss≤gg∧s18=.int .i64 ss∧Aside (RFrm w1.heap.size wE wr)∧Aside (RSt wr w1.heap.size w1.heap.size N (termsS N (decide (1 < lev)) tr res nx gi k ss).1 (.slice none 0 0))∧Aside (wr.ownsRow wE.heap.size 3 1 s17 (termsS N (decide (1 < lev)) tr res nx gi k ss).2.length (ints (termsS N (decide (1 < lev)) tr res nx gi k ss).2)))
         case atStart=>exact ⟨0,Nat.zero_le _,by omega,rfl,Frm.refl _ _ _ _,RSD.out,World.ownsRow_nil _ _ _ _⟩
         case round=>
          obtain ⟨ss,hss,hgs,rfl,FI,RI,OI⟩:=hrel
          have HBr:Hid (Below w1.heap.size w1 wr):=HBC.out.trans (FD.out.below.trans FI.out.below)
          have RTa:=hiD (rowCells RA.out HBr.out)
          obtain ⟨k0,k1,k2,kl⟩:=RTa.out.cells3
          have RNi:Hid (Row wr wo.heap.size 64 [.int .i64 lev,.slice qa S qc]):=Frm.row FI.out RN.out (by decide) (by decide)
          have hszi:wE.heap.size≤wr.heap.size:=FI.out.below.size
          have hbr:Hid (w1.heap.size≤wr.heap.size):=Nat.le_trans hbC.out (Nat.le_trans hszE hszi)
          obtain ⟨hln1,hln2⟩:=termsS_len N (decide (1 < lev)) tr res nx gi k ss
          by_cases hlts:ss < S
          ·have hltsz:(ss:Int) < t.states:=by have:=hSz.out;omega
           obtain ⟨n0,n1,nl⟩:=RNi.out.cells2
           have HTS:Hid (termsS N (decide (1 < lev)) tr res nx gi k (ss+1)=termStep N (decide (1 < lev)) tr res nx k (termsS N (decide (1 < lev)) tr res nx gi k ss) ss):=termsS_succ _ _ _ _ _ _ _ _
           obtain ⟨htx,hix⟩:=HTGp.out ss hlts
           have OTr:Hid (wr.ownsRow wA.heap.size 3 1 (.slice (some ⟨tgb,0,none⟩) TL tcc) TL (ints TF)):=Frm.own FI.out OTD.out (by decide) (by decide)
           obtain ⟨tg',et,htc,htl⟩:=own_int OTr.out (pos * S+ss) hix
           cases et
           rw [htx] at htc
           obtain ⟨ps,hps⟩:∃ ps:Nat,ps=pos * S:=⟨_,rfl⟩
           rw [← hps] at htc hix
           obtain ⟨ix,hxi⟩:∃ ix:Nat,ix=ps+ss:=⟨_,rfl⟩
           rw [← hxi] at htc hix
           have hpz:=HPOS.out
           have hwp:IntKind.i64.wrap (pos:Int)=(pos:Int):=IntWalk.i64_in _ (by omega)
           have hpsz:(pos:Int) * t.states=(ps:Int):=by rw [hSz.out,hps,Int.natCast_mul]
           have hwps:IntKind.i64.wrap (ps:Int)=(ps:Int):=IntWalk.i64_in _ (by omega)
           have hixz:(ps:Int)+(ss:Int)=(ix:Int):=by omega
           have hwix:IntKind.i64.wrap (ix:Int)=(ix:Int):=IntWalk.i64_in _ (by omega)
           have hixl:(ix:Int) < (TL:Int):=by omega
           generalize hxt:tr.getD ss 0=xt at htc htx
           have HXT:Hid (tr.getD ss 0=xt):=hxt
           obtain ⟨xad,exa,hxb,hz⟩:=(show Rd wr w1.heap.size 1 qa S (ints nx) from HNX.out.keep (fun p hp=>HBr.out.cell hp)).int hlts
           subst exa
           have hlk:=HLINK.out ss hlts
           simp only [linkOk,decide_eq_true_eq] at hlk
           obtain ⟨a1,a2,a3⟩:=hlk
           generalize hzz:nx.getD ss 0=z at hz a1 a2 a3
           have HZ:Hid (nx.getD ss 0=z):=hzz
           generalize termsS N (decide (1 < lev)) tr res nx gi k ss=p at RI OI hln1 hln2 HTS
           obtain ⟨pg,pt⟩:=p
           dsimp only at hln1 hln2
           have RI':Hid (RSt wr w1.heap.size w1.heap.size N pg (.slice none 0 0)):=RI.out
           have OI':Hid (wr.ownsRow wE.heap.size 3 1 u17 pt.length (ints pt)):=OI.out
           have hpn25:pg.length≤25000:=by omega
           generalize hq:pt.length=q at OI' hln2
           have HQ:Hid (pt.length=q):=hq
           have hq8:q≤8:=by omega
           have hszi2:Hid (wE.heap.size≤wr.heap.size):=hszi
           have hbE:Hid (w1.heap.size≤wE.heap.size):=Nat.le_trans hbC.out hszE
           clear RI OI hxt htx hxi hps hzz hq OTr htl hln1 HBr
           by_cases hup:1 < lev
           ·have hne1:(lev == 1)=false:=by simp;omega
            have hne2:¬ lev=1:=by omega
            obtain ⟨b1,b2⟩:=a3 hup
            obtain ⟨zn,rfl⟩:∃ zn:Nat,z=(zn:Int):=⟨z.toNat,by omega⟩
            have OWr:Hid (wr.ownsRow wC.heap.size 3 1 u13 (RL+k) (ints FR)):=Frm.own FI.out OWD.out (by decide) (by decide)
            obtain ⟨RA9,rc9,rfl,_⟩:=Rd.own OWr.out
            obtain ⟨hrx,hri⟩:=HRG2.out zn (by omega)
            obtain ⟨rg,er,hrc,hrl⟩:=own_int OWr.out (zn * bb+k) hri
            subst er
            rw [hrx] at hrc
            obtain ⟨rp,hrp⟩:∃ rp:Nat,rp=zn * bb:=⟨_,rfl⟩
            rw [← hrp] at hrc hri
            obtain ⟨rix,hrix⟩:∃ rix:Nat,rix=rp+k:=⟨_,rfl⟩
            rw [← hrix] at hrc hri
            have hzb:(zn:Int) * (bb:Int)=(rp:Int):=by rw [hrp,Int.natCast_mul]
            have hwrp:IntKind.i64.wrap (rp:Int)=(rp:Int):=IntWalk.i64_in _ (by omega)
            have hrpk:(rp:Int)+(k:Int)=(rix:Int):=by omega
            have hwrix:IntKind.i64.wrap (rix:Int)=(rix:Int):=IntWalk.i64_in _ (by omega)
            have hril:(rix:Int) < (RL:Int)+(k:Int):=by omega
            generalize hxr:(res.getD zn []).getD k 0=xr at hrc
            have HTS':Hid (termsS N (decide (1 < lev)) tr res nx gi k (ss+1)=(pg ++ [⟨3,xt,xr⟩],pt ++ [wireF N pg])):=by
             show _=_
             rw [HTS.out,termStep,if_pos (decide_eq_true hup),HXT.out,HZ.out,Int.toNat_natCast,hxr]
            obtain ⟨GA,gc,hrow9,hown9⟩:=RI'.out.op
            generalize hpn:pg.length=pn at hrow9 hown9 hpn25
            have HPN:Hid (pg.length=pn):=hpn
            have HROW:Hid (Row wr w1.heap.size 37 [.int .i64 N,.slice GA pn gc,.slice none 0 0]):=hrow9
            have HOG:Hid (wr.ownsRow w1.heap.size 77 3 (.slice GA pn gc) pn (gatesCells pg)):=hown9
            clear hrow9 hown9 hpn hxr hrx hrp hrix a1 a2 a3 b1 b2 HTS OWr hrl hln2
            obtain ⟨e0,e1,e2,el⟩:=HROW.out.cells3
            go_wp2_with fail
            refine wp_region_L (fun w'=>Row w' w1.heap.size 37 [.int .i64 N,.slice GA pn gc,.slice none 0 0]∧Row w' wo.heap.size 64 [.int .i64 lev,.slice (some xad) S qc]∧w'.cell? (xad.add ss)=some (.int .i64 (zn:Int))∧w'.cell? ⟨rg,rix,none⟩=some (.int .i64 xr)) [17,18,19] (by kernel_rfl) ⟨HROW.out.drew,RNi.out.drew,hz,hrc⟩ (fun hHeld=>?_)
            have HROWd:Hid (Row wr.drew w1.heap.size 37 [.int .i64 N,.slice GA pn gc,.slice none 0 0]):=hHeld.1
            have HOGd:Hid (wr.drew.ownsRow w1.heap.size 77 3 (.slice GA pn gc) pn (gatesCells pg)):=HOG.out
            have FId:Hid (RFrm w1.heap.size wE wr.drew):=Frm.drew FI.out
            have FRd:Hid (RFrm w1.heap.size wr.drew wr.drew):=Frm.refl _ _ _ _
            have OId:Hid (wr.drew.ownsRow wE.heap.size 3 1 u17 q (ints pt)):=OI'.out
            have hszd:Hid (w1.heap.size≤wr.drew.heap.size):=hbr.out
            have hszEd:Hid (wE.heap.size≤wr.drew.heap.size):=hszi2.out
            clear HROW HOG FI hbr RI' OI' hszi2 hszi RTa k0 k1 k2 kl n0 n1 nl e0 e1 e2 el htc hz hrc RNi
            revert hHeld HROWd HOGd FId FRd OId hszd hszEd
            generalize wr.drew=wQ
            intro hHeld HROWd HOGd FId FRd OId hszd hszEd
            have hszd2:=hszd.out
            have hbl4:=HROWd.out.lt
            refine lTakeW 0 ?vb1 [[17,1],[18],[19]] rfl (by rfl) ?yb1 hHeld ?rb1
            case yb1=>intro w' hSw;clear hSw;go_simp;try (with_reducible rfl)
            go_simp
            refine lTakeW 1 ?vb2 [[17],[18],[19]] rfl (by rfl) ?yb2 hHeld ?rb2
            case yb2=>
             intro w' hSw
             obtain ⟨s1,s2,s3,s4⟩:=hSw
             have hSh:Hid (Row w' w1.heap.size 37 [.int .i64 N,.slice GA pn gc,.slice none 0 0]):=s1
             have hSn:Hid (Row w' wo.heap.size 64 [.int .i64 lev,.slice (some xad) S qc]):=s2
             clear s1 s2
             obtain ⟨z0,z1,z2,zl⟩:=hSh.out.cells3
             obtain ⟨y0,y1,yl⟩:=hSn.out.cells2
             go_simp
             try (with_reducible rfl)
            go_simp
            refine lTakeW 2 ?vb3 [[17,16,15],[18],[19]] rfl (by rfl) ?yb3 hHeld ?rb3
            case yb3=>intro w' hSw;clear hSw;go_simp;try (with_reducible rfl)
            go_simp
            refine lTakeW 3 ?vb4 [[17,16,15,14,13],[18],[19]] rfl (by rfl) ?yb4 hHeld ?rb4
            case yb4=>intro w' hSw;clear hSw;go_simp;try (with_reducible rfl)
            go_simp
            refine lTakeW 4 ?vb5 [[17,16,15,14,13,12,10,8,7,5],[18],[19]] rfl (by rfl) ?yb5 hHeld ?rb5
            case yb5=>intro w' hSw;clear hSw;go_simp;try (with_reducible rfl)
            go_simp
            refine lTakeW 5 ?vb6 [[17,16,15,14,13,12,10,8,7],[18],[19]] rfl (by rfl) ?yb6 hHeld ?rb6
            case yb6=>
             intro w' hSw
             obtain ⟨s1,s2,s3,s4⟩:=hSw
             have hSh:Hid (Row w' w1.heap.size 37 [.int .i64 N,.slice GA pn gc,.slice none 0 0]):=s1
             have hSn:Hid (Row w' wo.heap.size 64 [.int .i64 lev,.slice (some xad) S qc]):=s2
             clear s1 s2
             obtain ⟨z0,z1,z2,zl⟩:=hSh.out.cells3
             obtain ⟨y0,y1,yl⟩:=hSn.out.cells2
             go_simp
             try (with_reducible rfl)
            go_simp
            refine lTakeW 6 ?vb7 [[17,16,15,14,13,12,10,8,7],[18],[19]] rfl (by rfl) ?yb7 hHeld ?rb7
            case yb7=>intro w' hSw;clear hSw;go_simp;try (with_reducible rfl)
            go_simp
            refine lTakeW 7 ?vb8 [[17,16,15,14,13,12,10,8],[18],[19]] rfl (by rfl) ?yb8 hHeld ?rb8
            case yb8=>
             intro w' hSw
             obtain ⟨s1,s2,s3,s4⟩:=hSw
             have hSh:Hid (Row w' w1.heap.size 37 [.int .i64 N,.slice GA pn gc,.slice none 0 0]):=s1
             have hSn:Hid (Row w' wo.heap.size 64 [.int .i64 lev,.slice (some xad) S qc]):=s2
             clear s1 s2
             obtain ⟨z0,z1,z2,zl⟩:=hSh.out.cells3
             obtain ⟨y0,y1,yl⟩:=hSn.out.cells2
             go_simp
             try (with_reducible rfl)
            go_simp
            refine lTakeW 8 ?vb9 [[17,16,15,14,13,12,10],[18],[19]] rfl (by rfl) ?yb9 hHeld ?rb9
            case yb9=>
             intro w' hSw
             obtain ⟨s1,s2,s3,s4⟩:=hSw
             have hSh:Hid (Row w' w1.heap.size 37 [.int .i64 N,.slice GA pn gc,.slice none 0 0]):=s1
             have hSn:Hid (Row w' wo.heap.size 64 [.int .i64 lev,.slice (some xad) S qc]):=s2
             clear s1 s2
             obtain ⟨z0,z1,z2,zl⟩:=hSh.out.cells3
             obtain ⟨y0,y1,yl⟩:=hSn.out.cells2
             go_simp
             try (with_reducible rfl)
            go_simp
            refine lTakeW 9 ?vb10 [[17,16,15,14,13,12,10],[18],[19]] rfl (by rfl) ?yb10 hHeld ?rb10
            case yb10=>intro w' hSw;clear hSw;go_simp;try (with_reducible rfl)
            go_simp
            refine lTakeW 10 ?vb11 [[17,16,15,14,13,12],[18],[19]] rfl (by rfl) ?yb11 hHeld ?rb11
            case yb11=>intro w' hSw;clear hSw;go_simp;try (with_reducible rfl)
            go_simp
            refine lTakeW 11 ?vb12 [[17,16,15,14,13,12],[18],[19]] rfl (by rfl) ?yb12 hHeld ?rb12
            case yb12=>intro w' hSw;clear hSw;go_simp;try (with_reducible rfl)
            go_simp
            refine lTakeW 12 ?vb13 [[17,16,15,14,13],[18],[19]] rfl (by rfl) ?yb13 hHeld ?rb13
            case yb13=>intro w' hSw;clear hSw;go_simp;try (with_reducible rfl)
            go_simp
            refine lTakeW 13 ?vb14 [[17,16,15,14],[18],[19]] rfl (by rfl) ?yb14 hHeld ?rb14
            case yb14=>
             intro w' hSw
             obtain ⟨s1,s2,s3,s4⟩:=hSw
             have hSh:Hid (Row w' w1.heap.size 37 [.int .i64 N,.slice GA pn gc,.slice none 0 0]):=s1
             have hSn:Hid (Row w' wo.heap.size 64 [.int .i64 lev,.slice (some xad) S qc]):=s2
             clear s1 s2
             obtain ⟨z0,z1,z2,zl⟩:=hSh.out.cells3
             obtain ⟨y0,y1,yl⟩:=hSn.out.cells2
             go_simp
             try (with_reducible rfl)
            go_simp
            refine lTakeW 14 ?vb15 [[17,16,15],[18],[19]] rfl (by rfl) ?yb15 hHeld ?rb15
            case yb15=>
             intro w' hSw
             obtain ⟨s1,s2,s3,s4⟩:=hSw
             have hSh:Hid (Row w' w1.heap.size 37 [.int .i64 N,.slice GA pn gc,.slice none 0 0]):=s1
             have hSn:Hid (Row w' wo.heap.size 64 [.int .i64 lev,.slice (some xad) S qc]):=s2
             clear s1 s2
             obtain ⟨z0,z1,z2,zl⟩:=hSh.out.cells3
             obtain ⟨y0,y1,yl⟩:=hSn.out.cells2
             go_simp
             try (with_reducible rfl)
            go_simp
            refine lTakeW 15 ?vb16 [[17,16],[18],[19]] rfl (by rfl) ?yb16 hHeld ?rb16
            case yb16=>intro w' hSw;clear hSw;go_simp;try (with_reducible rfl)
            go_simp
            refine restL_one (i:=16) (by kernel_rfl) rfl (fun K hK=>?_)
            go_simp
            refine hK.out _ _ (fun _=>?keep) (fun hHeld=>?_)
            case keep=>exact ⟨hHeld.1.alloc _,hHeld.2.1.alloc _,(World.cell?_alloc_lt _ _ _ (World.block_lt_of_cell? _ _ hHeld.2.2.1)).trans hHeld.2.2.1,(World.cell?_alloc_lt _ _ _ (World.block_lt_of_cell? _ _ hHeld.2.2.2)).trans hHeld.2.2.2⟩
            have hHeld:=hHeld rfl
            clear hK K
            try go_simp
            refine restL_one (i:=17) (by kernel_rfl) rfl (fun K hK=>?_)
            refine step_app rfl (.tmp 147) (.tmp 162) 34 rfl w1.heap.size 77 (.agg #[.int .i64 0,.int .i64 0,.int .i64 0]) 3 24 Try.underlying34 gate_infoL rfl (by decide) (by decide) (.slice GA pn gc) pn (gatesCells pg) rfl ?own (wQ.heap.size+1) (some ⟨wQ.heap.size,0,none⟩) 1 1 [.int .i64 3,.int .i64 xt,.int .i64 xr] rfl ?rd ?one ?hb ?hbase ?_
            case own=>exact (HOGd.out).alloc _
            case rd=>exact Rd.lit wQ #[.int .i64 3,.int .i64 xt,.int .i64 xr] 77 (sz:=3) (m:=1) rfl
            case one=>first | exact gt_one _ _ _ | rfl
            case hb=>omega
            case hbase=>first | (simp;omega) | omega
            intro v' w' hown' hgrow' hat'
            obtain ⟨VA,vc,rfl,_⟩:=Rd.own hown'
            obtain ⟨p1,p2,p3,p4⟩:=RSt.push (g:=⟨3,xt,xr⟩) ((HROWd.out).alloc _) ((HOGd.out).alloc _) (Nat.le_refl _) HPN.out hgrow' hown' ((FRd.out).alloc hszd.out _)
            have PR:Hid (Row w' w1.heap.size 37 [.int .i64 N,.slice GA pn gc,.slice none 0 0]):=p1
            have PS:Hid (RSt (w'.setCell ⟨w1.heap.size,1,none⟩ (.slice VA (pn+1) vc)) w1.heap.size w1.heap.size N (pg ++ [⟨3,xt,xr⟩]) (.slice none 0 0)):=p2
            have PF:=Lib.hid p3
            have PG:=Lib.hid p4
            clear p1 p2 p3 p4
            have q1:=PR.out.cell 1
            have qf:=PR.out.frozen 1
            simp only [List.getElem?_cons_zero,List.getElem?_cons_succ] at q1
            clear hown' hgrow' hat'
            refine hK.out _ _ (fun h=>absurd h (by decide)) (fun _=>?_)
            clear hK K
            try go_simp
            refine restL_one (i:=18) (by kernel_rfl) rfl (fun K hK=>?_)
            go_simp
            refine hK.out _ _ (fun h=>absurd h (by decide)) (fun _=>?_)
            clear hK K
            try go_simp
            refine restL_one (i:=19) (by kernel_rfl) rfl (fun K hK=>?_)
            go_simp
            refine hK.out _ _ (fun h=>absurd h (by decide)) (fun _=>?_)
            clear hK K
            try go_simp
            refine restL_done (by kernel_rfl) ?_ _
            have HR8:Hid (Row (World.setCell w' ⟨w1.heap.size,1,none⟩ (.slice VA (pn+1) vc)) w1.heap.size 37 [.int .i64 N,.slice VA (pn+1) vc,.slice none 0 0]):=PR.out.set 1 (.slice VA (pn+1) vc)
            clear PG q1 qf PR
            revert HR8 PS PF
            generalize World.setCell w' ⟨w1.heap.size,1,none⟩ (.slice VA (pn+1) vc)=w8
            intro PS PF HR8
            obtain ⟨e0,e1,e2,el⟩:=HR8.out.cells3
            have hpn4:pn+1≤30000:=by omega
            have hN100:N≤100:=by omega
            have OI8:Hid (w8.ownsRow wE.heap.size 3 1 u17 q (ints pt)):=Frm.own PF.out OId.out (by decide) (by decide)
            have FI8:Hid (RFrm w1.heap.size wE w8):=Frm.trans FId.out PF.out
            have hsz8:w1.heap.size≤w8.heap.size:=Nat.le_trans hbE.out FI8.out.below.size
            clear FId OId FRd HROWd HOGd
            go_wp2_with (first | (go_at_call 61;refine (rlast_any N (pn+1) vc 0 0 VA none _ hN100 hpn4).mono ?_;rintro e w9 ⟨rfl,hb9⟩;have OI9:Hid (w9.ownsRow wE.heap.size 3 1 u17 q (ints pt)):=own_below OI8.out hb9 (Nat.le_refl _);have RI9:Hid (RSt w9 w1.heap.size w1.heap.size N (pg ++ [⟨3,xt,xr⟩]) (.slice none 0 0)):=PS.out.below hb9;have FI9:Hid (RFrm w1.heap.size wE w9):=Frm.trans FI8.out (Frm.ofBelow hb9 hsz8);have hsz9:wE.heap.size≤w9.heap.size:=FI9.out.below.size;clear hb9) | (at_builtin;refine wpList_app rfl (.tmp 165) (.tmp 168) 35 rfl wE.heap.size 3 (.int .i64 0) 1 8 Try.underlying35 int_infoL rfl (by decide) (by decide) u17 (q) (ints pt) rfl ?own (w9.heap.size+1) (some ⟨w9.heap.size,0,none⟩) 1 1 [.int .i64 ((N:Int)+((pn:Int)+1) - 1)] rfl ?rd ?one ?hb ?hbase ?_))
            case own=>exact (OI9.out).alloc _
            case rd=>exact Rd.lit w9 #[.int .i64 ((N:Int)+((pn:Int)+1) - 1)] 3 (sz:=1) (m:=1) rfl
            case one=>first | (intro u hu;simp at hu;subst hu;rfl) | rfl
            case hb=>omega
            case hbase=>first | (simp;omega) | omega
            intro v' w' hown' hgrow' hat'
            have FI3:Hid (RFrm w1.heap.size wE w'):=Frm.grownNew (FI9.out.alloc (Nat.le_trans hbE.out hsz9) _) hgrow' (fun j hj=>(OI9.out.lt j hj).1) hbE.out
            have RI3:Hid (RSt w' w1.heap.size w1.heap.size N (pg ++ [⟨3,xt,xr⟩]) (.slice none 0 0)):=(RI9.out.alloc _).grownT (OI9.out.alloc _) hgrow' (by decide) (by decide)
            have hwv:(N:Int)+((pn:Int)+1) - 1=wireF N pg:=by rw [wireF,HPN.out];omega
            have OI3:Hid (w'.ownsRow wE.heap.size 3 1 v' (q+1) (ints (pt ++ [wireF N pg]))):=by
             show w'.ownsRow _ _ _ _ _ _
             rw [iint_snoc,← hwv]
             exact hown'
            clear hown' hgrow' hat' hwv
            go_wp2
            go_roundg (S - (ss+1))
            case measure=>omega
            case rel=>
             refine ⟨ss+1,by omega,by omega,by go_num,FI3.out,(show RSt _ _ _ _ _ _ by rw [HTS'.out];exact RI3.out),?_⟩
             show World.ownsRow _ _ _ _ _ _ _
             rw [HTS'.out,List.length_append,List.length_singleton,HQ.out]
             exact OI3.out
           ·obtain rfl:lev=1:=by omega
            have z7:z≤7:=by have:=a2 rfl;omega
            have HTS':Hid (termsS N (decide ((1:Int) < 1)) tr res nx gi k (ss+1)=if bitI z k=true then (pg,pt ++ [xt]) else (pg,pt)):=by
             show _=_
             rw [HTS.out,termStep,if_neg (by decide),HXT.out,HZ.out]
            generalize hbz:bitI z k=bz at HTS'
            have HBZ:Hid (bitI z k=bz):=hbz
            have hk10:k≤10:=by omega
            have hbr2:=hbr.out
            clear hbz a2 a3 HTS hln2
            cases bz
            ·have HT0:Hid (termsS N (decide ((1:Int) < 1)) tr res nx gi k (ss+1)=(pg,pt)):=by show _=_;have:=HTS'.out;simpa using this
             clear HTS'
             go_wp2_with (go_at_call 60;refine (rBit_any z k _ a1 z7 hk10).mono ?_;rw [HBZ.out];rintro e w4 ⟨rfl,rfl⟩)
             go_roundg (S - (ss+1))
             case measure=>omega
             case rel=>
              refine ⟨ss+1,by omega,by omega,by go_num,FI.out,(show RSt _ _ _ _ _ _ by rw [HT0.out];exact RI'.out),?_⟩
              show World.ownsRow _ _ _ _ _ _ _
              rw [HT0.out,HQ.out]
              exact OI'.out
            ·have HT0:Hid (termsS N (decide ((1:Int) < 1)) tr res nx gi k (ss+1)=(pg,pt ++ [xt])):=by show _=_;have:=HTS'.out;simpa using this
             clear HTS'
             go_wp2_with (first | (go_at_call 60;refine (rBit_any z k _ a1 z7 hk10).mono ?_;rw [HBZ.out];rintro e w4 ⟨rfl,rfl⟩) | (at_builtin;refine wpList_app rfl (.tmp 142) (.tmp 144) 35 rfl wE.heap.size 3 (.int .i64 0) 1 8 Try.underlying35 int_infoL rfl (by decide) (by decide) u17 (q) (ints pt) rfl ?own (wr.heap.size+1) (some ⟨wr.heap.size,0,none⟩) 1 1 [.int .i64 xt] rfl ?rd ?one ?hb ?hbase ?_))
             case own=>exact (OI'.out).alloc _
             case rd=>exact Rd.lit wr #[.int .i64 xt] 3 (sz:=1) (m:=1) rfl
             case one=>first | (intro u hu;simp at hu;subst hu;rfl) | rfl
             case hb=>omega
             case hbase=>first | (simp;omega) | omega
             intro v' w' hown' hgrow' hat'
             have FI3:Hid (RFrm w1.heap.size wE w'):=Frm.grownNew (FI.out.alloc hbr.out _) hgrow' (fun j hj=>(OI'.out.lt j hj).1) hbE.out
             have RI3:Hid (RSt w' w1.heap.size w1.heap.size N pg (.slice none 0 0)):=(RI'.out.alloc _).grownT (OI'.out.alloc _) hgrow' (by decide) (by decide)
             have OI3:Hid (w'.ownsRow wE.heap.size 3 1 v' (q+1) (ints (pt ++ [xt]))):=by
              show w'.ownsRow _ _ _ _ _ _
              rw [iint_snoc]
              exact hown'
             clear hown' hgrow' hat'
             go_wp2
             go_roundg (S - (ss+1))
             case measure=>omega
             case rel=>
              refine ⟨ss+1,by omega,by omega,by go_num,FI3.out,(show RSt _ _ _ _ _ _ by rw [HT0.out];exact RI3.out),?_⟩
              show World.ownsRow _ _ _ _ _ _ _
              rw [HT0.out,List.length_append,List.length_singleton,HQ.out]
              exact OI3.out
          ·have hltsz:¬ (ss:Int) < t.states:=by have:=hSz.out;omega
           obtain rfl:ss=S:=by omega
           have HRS:Hid (resS N (decide (1 < lev)) tr res nx ss gi k=orS N (termsS N (decide (1 < lev)) tr res nx gi k ss)):=rfl
           rw [HRS.out] at HSI'
           generalize termsS N (decide (1 < lev)) tr res nx gi k ss=p at RI OI hln1 hln2 HSI'
           obtain ⟨pg,pt⟩:=p
           dsimp only at hln1 hln2
           have HSI2:Hid (scan (fun g _ k=>resS N (decide (1 < lev)) tr res nx ss g k) g (k+1)=((orS N (pg,pt)).1,row ++ [(orS N (pg,pt)).2])):=HSI'.out
           have RI':Hid (RSt wr w1.heap.size w1.heap.size N pg (.slice none 0 0)):=RI.out
           have OI':Hid (wr.ownsRow wE.heap.size 3 1 u17 pt.length (ints pt)):=OI.out
           have OWr:Hid (wr.ownsRow wC.heap.size 3 1 u13 (RL+k) (ints FR)):=Frm.own FI.out OWD.out (by decide) (by decide)
           have FCr:Hid (RFrm w1.heap.size wC wr):=Frm.trans FD.out FI.out
           have hbE:Hid (w1.heap.size≤wE.heap.size):=Nat.le_trans hbC.out hszE
           have hszi2:Hid (wE.heap.size≤wr.heap.size):=hszi
           have hN100:N≤100:=by omega
           have hpn25:pg.length≤25000:=by omega
           have hqq:pt.length≤8:=by omega
           clear RI OI HSI' HRS hln1 hln2 HBr RNi
           obtain ⟨PA,pc,rfl,_⟩:=Rd.own OI'.out
           by_cases hq0:pt.length=0
           case' pos=>
            have HO:Hid (orS N (pg,pt)=allS N 4 (pg ++ [⟨0,0,0⟩]) [wireF N pg]):=by show _=_;rw [orS,if_pos (by dsimp only;omega)];rfl
            rw [hq0] at OI'
            obtain rfl:pt=[]:=List.length_eq_zero_iff.1 hq0
            obtain ⟨GA,gc,hrow9,hown9⟩:=RI'.out.op
            generalize hpn:pg.length=pn at hrow9 hown9 hpn25
            have HPN:Hid (pg.length=pn):=hpn
            have HROW:Hid (Row wr w1.heap.size 37 [.int .i64 N,.slice GA pn gc,.slice none 0 0]):=hrow9
            have HOG:Hid (wr.ownsRow w1.heap.size 77 3 (.slice GA pn gc) pn (gatesCells pg)):=hown9
            have FRr:Hid (RFrm w1.heap.size wr wr):=Frm.refl _ _ _ _
            have hbr2:=hbr.out
            have hbl:=HROW.out.lt
            clear hrow9 hown9 hpn
            try simp only [List.length_nil]
            have e1:=HROW.out.cell 1
            simp only [List.getElem?_cons_zero,List.getElem?_cons_succ] at e1
            go_wp2_with (at_builtin;refine wpList_app rfl (.tmp 174) (.tmp 176) 34 rfl w1.heap.size 77 (.agg #[.int .i64 0,.int .i64 0,.int .i64 0]) 3 24 Try.underlying34 gate_infoL rfl (by decide) (by decide) (.slice GA pn gc) pn (gatesCells pg) rfl ?own (wr.heap.size+1) (some ⟨wr.heap.size,0,none⟩) 1 1 [.int .i64 0,.int .i64 0,.int .i64 0] rfl ?rd ?one ?hb ?hbase ?_)
            case own=>exact (HOG.out).alloc _
            case rd=>exact Rd.lit wr #[.int .i64 0,.int .i64 0,.int .i64 0] 77 (sz:=3) (m:=1) rfl
            case one=>first | exact gt_one _ _ _ | rfl
            case hb=>omega
            case hbase=>first | (simp;omega) | omega
            intro v' w' hown' hgrow' hat'
            obtain ⟨VA,vc,rfl,_⟩:=Rd.own hown'
            obtain ⟨p1,p2,p3,p4⟩:=RSt.push (g:=⟨0,0,0⟩) ((HROW.out).alloc _) ((HOG.out).alloc _) (Nat.le_refl _) HPN.out hgrow' hown' ((FRr.out).alloc hbr.out _)
            have PR:Hid (Row w' w1.heap.size 37 [.int .i64 N,.slice GA pn gc,.slice none 0 0]):=p1
            have PS:Hid (RSt (w'.setCell ⟨w1.heap.size,1,none⟩ (.slice VA (pn+1) vc)) w1.heap.size w1.heap.size N (pg ++ [⟨0,0,0⟩]) (.slice none 0 0)):=p2
            have PF:=Lib.hid p3
            have PG:=Lib.hid p4
            clear p1 p2 p3 p4
            have q1:=PR.out.cell 1
            have qf:=PR.out.frozen 1
            simp only [List.getElem?_cons_zero,List.getElem?_cons_succ] at q1
            clear hown' hgrow' hat' e1
            obtain ⟨e0,e1,e2,el⟩:=PR.out.cells3
            have hpn4:pn+1≤30000:=by omega
            have OI8:=(show Hid (World.ownsRow (World.setCell w' ⟨w1.heap.size,1,none⟩ (.slice VA (pn+1) vc)) wE.heap.size 3 1 (.slice PA 0 pc) 0 (ints [])) from Frm.own PF.out OI'.out (by decide) (by decide))
            have hszP:wE.heap.size≤(World.setCell w' ⟨w1.heap.size,1,none⟩ (.slice VA (pn+1) vc)).heap.size:=Nat.le_trans hszi2.out PF.out.below.size
            go_wp2_with (first | (go_at_call 61;refine (rlast_any N (pn+1) vc 0 0 VA none _ hN100 hpn4).mono ?_;rintro e w9 ⟨rfl,hb9⟩;have OI9:Hid (w9.ownsRow wE.heap.size 3 1 (.slice PA 0 pc) 0 (ints [])):=own_below OI8.out hb9 (Nat.le_refl _);have RI9:Hid (RSt w9 w1.heap.size w1.heap.size N (pg ++ [⟨0,0,0⟩]) (.slice none 0 0)):=PS.out.below hb9;have FI9:Hid (RFrm w1.heap.size wr w9):=Frm.trans PF.out (Frm.ofBelow hb9 (Nat.le_trans hbE.out hszP));have hsz9:wE.heap.size≤w9.heap.size:=Nat.le_trans hszP hb9.size;clear hb9) | (at_builtin;refine wpList_app rfl (.tmp 179) (.tmp 182) 35 rfl wE.heap.size 3 (.int .i64 0) 1 8 Try.underlying35 int_infoL rfl (by decide) (by decide) (.slice PA 0 pc) (0) (ints []) rfl ?own (w9.heap.size+1) (some ⟨w9.heap.size,0,none⟩) 1 1 [.int .i64 ((N:Int)+((pn:Int)+1) - 1)] rfl ?rd ?one ?hb ?hbase ?_))
            case own=>exact (OI9.out).alloc _
            case rd=>exact Rd.lit w9 #[.int .i64 ((N:Int)+((pn:Int)+1) - 1)] 3 (sz:=1) (m:=1) rfl
            case one=>first | (intro u hu;simp at hu;subst hu;rfl) | rfl
            case hb=>omega
            case hbase=>first | (simp;omega) | omega
            intro v' w' hown' hgrow' hat'
            obtain ⟨PZ,pz,rfl,_⟩:=Rd.own hown'
            have FEz:Hid (RFrm w1.heap.size wE w'):=Frm.grownNew ((Frm.trans FI.out FI9.out).alloc (Nat.le_trans hbE.out hsz9) _) hgrow' (fun j hj=>(OI9.out.lt j hj).1) hbE.out
            have RSz:Hid (RSt w' w1.heap.size w1.heap.size N (pg ++ [⟨0,0,0⟩]) (.slice none 0 0)):=(RI9.out.alloc _).grownT (OI9.out.alloc _) hgrow' (by decide) (by decide)
            have OWz:Hid (World.ownsRow w' wC.heap.size 3 1 u13 (RL+k) (ints FR)):=Frm.own FEz.out OWD.out (by decide) (by decide)
            have FCz:Hid (RFrm w1.heap.size wC w'):=Frm.trans FD.out FEz.out
            have hwv:(N:Int)+((pn:Int)+1) - 1=wireF N pg:=by rw [wireF,HPN.out];omega
            have OIz:Hid (World.ownsRow w' wE.heap.size 3 1 (.slice PZ 1 pz) 1 (ints [wireF N pg])):=by
             show World.ownsRow _ _ _ _ _ _ _
             rw [← hwv]
             exact hown'
            have hszEz:wE.heap.size≤w'.heap.size:=FEz.out.below.size
            have hTl:([wireF N pg]:List Int).length=1:=rfl
            have hpg0:(pg ++ [(⟨0,0,0⟩:Gt)]).length=pn+1:=by rw [List.length_append,List.length_singleton,HPN.out]
            clear hown' hgrow' hat' hwv RI' OI' OWr FCr FI OI8 OI9 RI9 FI9 HOG HROW FRr PF PS PG PR e0 e1 e2 el q1 qf FEz
            obtain ⟨wz,rfl⟩:∃ wz:World,wz=w':=⟨_,rfl⟩
            obtain ⟨tz,etz,hz0,hzl⟩:=own_int OIz.out 0 (by omega)
            subst etz
            have hq1z:(0:Int) < ((1:Nat):Int):=by omega
            go_wp2
            go_loopg [20,21] (1) (fun gg s20 s21 wr=>∃ (j:Nat) (z:Int),1≤j∧j≤1∧1 - j≤gg∧s21=.int .i64 j∧s20=.int .i64 z∧Aside (z=(allS N 4 (pg ++ [⟨0,0,0⟩]) (([wireF N pg]).take j)).2)∧Aside (RFrm w1.heap.size wz wr)∧Aside (RSt wr w1.heap.size w1.heap.size N (allS N 4 (pg ++ [⟨0,0,0⟩]) (([wireF N pg]).take j)).1 (.slice none 0 0)))
            case atStart=>exact ⟨1,([wireF N pg]).getD 0 0,by omega,by omega,by omega,rfl,rfl,(by show _=_;rw [allS_one]),Frm.refl _ _ _ _,by show RSt _ _ _ _ _ _;rw [allS_one];exact RSz.out⟩
            case round=>
             obtain ⟨j,z,hj1,hj,hgj,rfl,rfl,HZ,FK,RK⟩:=hrel
             have hlenj:=allS_len N 4 (pg ++ [⟨0,0,0⟩]) (([wireF N pg]).take j)
             rw [List.length_take,hTl,Nat.min_eq_left hj] at hlenj
             have hszr:w1.heap.size≤wr.heap.size:=Nat.le_trans hbE.out (Nat.le_trans hszEz FK.out.below.size)
             by_cases hltj:j < 1
             ·exact absurd hltj (by omega)
             ·have hltjz:¬ (j:Int) < ((1:Nat):Int):=by omega
              have hjq:j=1:=by omega
              have htt:allS N 4 (pg ++ [⟨0,0,0⟩]) (([wireF N pg]).take j)=orS N (pg,[]):=by
               have h1:=allS_all N 4 (pg ++ [⟨0,0,0⟩]) ([wireF N pg])
               rw [hTl] at h1
               rw [hjq,h1,HO.out]
              rw [htt] at HZ RK hlenj
              generalize orS N (pg,[])=p8 at HZ RK hlenj HSI2
              obtain ⟨pg8,pw⟩:=p8
              dsimp only at hlenj
              have HSI3:Hid (scan (fun g _ k=>resS N (decide (1 < lev)) tr res nx ss g k) g (k+1)=(pg8,row ++ [pw])):=HSI2.out
              have HZ2:Hid (z=pw):=HZ.out
              have RK2:Hid (RSt wr w1.heap.size w1.heap.size N pg8 (.slice none 0 0)):=RK.out
              have OWy:Hid (wr.ownsRow wC.heap.size 3 1 u13 (RL+k) (ints FR)):=Frm.own FK.out OWz.out (by decide) (by decide)
              have FCy:Hid (RFrm w1.heap.size wC wr):=Frm.trans FCz.out FK.out
              have hpn20:pg8.length≤20000:=by have:=resRow_len N ss (decide (1 < lev)) tr res nx (k+1) (by omega) hS2.2 g;rw [HSI3.out] at this;dsimp only at this;omega
              have hszy:wC.heap.size≤wr.heap.size:=FCy.out.below.size
              clear HZ RK htt hlenj hz0 hq1z
              go_wp2_with (at_builtin;refine wpList_app rfl (.tmp 206) (.tmp 208) 35 rfl wC.heap.size 3 (.int .i64 0) 1 8 Try.underlying35 int_infoL rfl (by decide) (by decide) u13 (RL+k) (ints FR) rfl ?own (wr.heap.size+1) (some ⟨wr.heap.size,0,none⟩) 1 1 [.int .i64 z] rfl ?rd ?one ?hb ?hbase ?_)
              case own=>exact (OWy.out).alloc _
              case rd=>exact Rd.lit wr #[.int .i64 z] 3 (sz:=1) (m:=1) rfl
              case one=>first | (intro u hu;simp at hu;subst hu;rfl) | rfl
              case hb=>omega
              case hbase=>first | (simp;omega) | omega
              intro v' w' hown' hgrow' hat'
              have FC3:Hid (RFrm w1.heap.size wC w'):=Frm.grownNew (FCy.out.alloc hszr _) hgrow' (fun j hj=>(OWy.out.lt j hj).1) hbC.out
              have RS3:Hid (RSt w' w1.heap.size w1.heap.size N pg8 (.slice none 0 0)):=(RK2.out.alloc _).grownT (OWy.out.alloc _) hgrow' (by decide) (by decide)
              have OW3:Hid (w'.ownsRow wC.heap.size 3 1 v' (RL+(k+1)) (ints (FR ++ [pw]))):=by
               show w'.ownsRow _ _ _ _ _ _
               rw [iint_snoc,← HZ2.out]
               exact hown'
              clear hown' hgrow' hat'
              obtain ⟨GA9,gc9,hrow9,_⟩:=RS3.out.op
              have hgl:¬ (20000:Int) < ((pg8.length:Nat):Int):=by omega
              generalize pg8.length=gl at hrow9 hgl
              have HR9:Hid (Row w' w1.heap.size 37 [.int .i64 N,.slice GA9 gl gc9,.slice none 0 0]):=hrow9
              clear hrow9
              obtain ⟨e0,e1,e2,el⟩:=HR9.out.cells3
              go_wp2
              go_roundg (bb - (k+1))
              case measure=>omega
              case rel=>
               refine ⟨k+1,by omega,by omega,by go_num,FC3.out,(show RSt _ _ _ _ _ _ by rw [HSI3.out];exact RS3.out),?_⟩
               show World.ownsRow _ _ _ _ _ _ _
               rw [HSI3.out]
               show World.ownsRow _ _ _ _ _ _ (ints (RF ++ (row ++ [pw])))
               rw [← List.append_assoc,HFR.out]
               exact OW3.out
           case' neg=>
            have HO:Hid (orS N (pg,pt)=allS N 4 pg pt):=by show _=_;rw [orS,if_neg (by dsimp only;omega)]
            obtain ⟨wz,rfl⟩:∃ wz:World,wz=wr:=⟨_,rfl⟩
            have RSz:Hid (RSt wz w1.heap.size w1.heap.size N pg (.slice none 0 0)):=RI'.out
            have OIz:Hid (wz.ownsRow wE.heap.size 3 1 (.slice PA pt.length pc) pt.length (ints pt)):=OI'.out
            have OWz:Hid (wz.ownsRow wC.heap.size 3 1 u13 (RL+k) (ints FR)):=OWr.out
            have FCz:Hid (RFrm w1.heap.size wC wz):=FCr.out
            have hszEz:wE.heap.size≤wz.heap.size:=hszi2.out
            clear RI' OI' OWr FCr FI
            generalize hqn:pt.length=qn at OIz hqq hq0
            have hTl:pt.length=qn:=hqn
            clear hqn
            obtain ⟨tz,etz,hz0,hzl⟩:=own_int OIz.out 0 (by omega)
            subst etz
            have hq1z:(0:Int) < ((qn:Nat):Int):=by omega
            go_wp2
            go_loopg [20,21] (qn) (fun gg s20 s21 wr=>∃ (j:Nat) (z:Int),1≤j∧j≤qn∧qn - j≤gg∧s21=.int .i64 j∧s20=.int .i64 z∧Aside (z=(allS N 4 pg ((pt).take j)).2)∧Aside (RFrm w1.heap.size wz wr)∧Aside (RSt wr w1.heap.size w1.heap.size N (allS N 4 pg ((pt).take j)).1 (.slice none 0 0)))
            case atStart=>exact ⟨1,(pt).getD 0 0,by omega,by omega,by omega,rfl,rfl,(by show _=_;rw [allS_one]),Frm.refl _ _ _ _,by show RSt _ _ _ _ _ _;rw [allS_one];exact RSz.out⟩
            case round=>
             obtain ⟨j,z,hj1,hj,hgj,rfl,rfl,HZ,FK,RK⟩:=hrel
             have hlenj:=allS_len N 4 pg ((pt).take j)
             rw [List.length_take,hTl,Nat.min_eq_left hj] at hlenj
             have hszr:w1.heap.size≤wr.heap.size:=Nat.le_trans hbE.out (Nat.le_trans hszEz FK.out.below.size)
             by_cases hltj:j < qn
             ·have hltjz:(j:Int) < ((qn:Nat):Int):=by omega
              have HST:Hid (allS N 4 pg ((pt).take (j+1))=gateS N 4 (allS N 4 pg ((pt).take j)) ((pt).getD j 0)):=allS_take _ _ _ _ j hj1 (by rw [hTl];exact hltj)
              generalize allS N 4 pg ((pt).take j)=p8 at HZ RK HST hlenj
              obtain ⟨pg8,pw⟩:=p8
              dsimp only at hlenj
              obtain ⟨tz',etz,hcj,_⟩:=own_int (Frm.own FK.out OIz.out (by decide) (by decide)) j hltj
              cases etz
              generalize hxj:(pt).getD j 0=xj at hcj HST
              have HZ':Hid (z=pw):=HZ.out
              have RK8:Hid (RSt wr w1.heap.size w1.heap.size N pg8 (.slice none 0 0)):=RK.out
              obtain ⟨GA,gc,hrow9,hown9⟩:=RK8.out.op
              generalize hpn:pg8.length=pn at hrow9 hown9 hlenj
              have HPN:Hid (pg8.length=pn):=hpn
              have hpn26:pn≤26000:=by omega
              have HROW:Hid (Row wr w1.heap.size 37 [.int .i64 N,.slice GA pn gc,.slice none 0 0]):=hrow9
              have HOG:Hid (wr.ownsRow w1.heap.size 77 3 (.slice GA pn gc) pn (gatesCells pg8)):=hown9
              clear hrow9 hown9 hpn hxj HZ RK hlenj
              obtain ⟨e0,e1,e2,el⟩:=HROW.out.cells3
              go_wp2_with fail
              refine wp_region_L (fun w'=>Row w' w1.heap.size 37 [.int .i64 N,.slice GA pn gc,.slice none 0 0]∧w'.cell? ⟨tz,j,none⟩=some (.int .i64 xj)) [9,10,11] (by kernel_rfl) ⟨HROW.out.drew,hcj⟩ (fun hHeld=>?_)
              have HROWd:Hid (Row wr.drew w1.heap.size 37 [.int .i64 N,.slice GA pn gc,.slice none 0 0]):=hHeld.1
              have HOGd:Hid (wr.drew.ownsRow w1.heap.size 77 3 (.slice GA pn gc) pn (gatesCells pg8)):=HOG.out
              have FKd:Hid (RFrm w1.heap.size wz wr.drew):=Frm.drew FK.out
              have hszd:Hid (w1.heap.size≤wr.drew.heap.size):=hszr
              clear HROW HOG FK RK8 e0 e1 e2 el hcj
              revert hHeld HROWd HOGd FKd hszd
              generalize wr.drew=wQ
              intro hHeld HROWd HOGd FKd hszd
              have hszd2:=hszd.out
              have hbl4:=HROWd.out.lt
              refine lTakeW 0 ?vc1 [[9,1],[10],[11]] rfl (by rfl) ?yc1 hHeld ?rc1
              case yc1=>intro w' hSw;clear hSw;go_simp;try (with_reducible rfl)
              go_simp
              refine lTakeW 1 ?vc2 [[9],[10],[11]] rfl (by rfl) ?yc2 hHeld ?rc2
              case yc2=>
               intro w' hSw
               obtain ⟨s1,s2⟩:=hSw
               have hSh:Hid (Row w' w1.heap.size 37 [.int .i64 N,.slice GA pn gc,.slice none 0 0]):=s1
               clear s1
               obtain ⟨z0,z1,z2,zl⟩:=hSh.out.cells3
               go_simp
               try (with_reducible rfl)
              go_simp
              refine lTakeW 2 ?vc3 [[9,8,7],[10],[11]] rfl (by rfl) ?yc3 hHeld ?rc3
              case yc3=>intro w' hSw;clear hSw;go_simp;try (with_reducible rfl)
              go_simp
              refine lTakeW 3 ?vc4 [[9,8,7,6,5],[10],[11]] rfl (by rfl) ?yc4 hHeld ?rc4
              case yc4=>intro w' hSw;clear hSw;go_simp;try (with_reducible rfl)
              go_simp
              refine lTakeW 4 ?vc5 [[9,8,7,6,5],[10],[11]] rfl (by rfl) ?yc5 hHeld ?rc5
              case yc5=>intro w' hSw;clear hSw;go_simp;try (with_reducible rfl)
              go_simp
              refine lTakeW 5 ?vc6 [[9,8,7,6],[10],[11]] rfl (by rfl) ?yc6 hHeld ?rc6
              case yc6=>
               intro w' hSw
               obtain ⟨s1,s2⟩:=hSw
               have hSh:Hid (Row w' w1.heap.size 37 [.int .i64 N,.slice GA pn gc,.slice none 0 0]):=s1
               clear s1
               obtain ⟨z0,z1,z2,zl⟩:=hSh.out.cells3
               go_simp
               try (with_reducible rfl)
              go_simp
              refine lTakeW 6 ?vc7 [[9,8,7],[10],[11]] rfl (by rfl) ?yc7 hHeld ?rc7
              case yc7=>
               intro w' hSw
               obtain ⟨s1,s2⟩:=hSw
               have hSh:Hid (Row w' w1.heap.size 37 [.int .i64 N,.slice GA pn gc,.slice none 0 0]):=s1
               clear s1
               obtain ⟨z0,z1,z2,zl⟩:=hSh.out.cells3
               go_simp
               try (with_reducible rfl)
              go_simp
              refine lTakeW 7 ?vc8 [[9,8],[10],[11]] rfl (by rfl) ?yc8 hHeld ?rc8
              case yc8=>intro w' hSw;clear hSw;go_simp;try (with_reducible rfl)
              go_simp
              refine restL_one (i:=8) (by kernel_rfl) rfl (fun K hK=>?_)
              go_simp
              refine hK.out _ _ (fun _=>?keep) (fun hHeld=>?_)
              case keep=>exact ⟨hHeld.1.alloc _,(World.cell?_alloc_lt _ _ _ (World.block_lt_of_cell? _ _ hHeld.2)).trans hHeld.2⟩
              have hHeld:=hHeld rfl
              clear hK K
              try go_simp
              refine restL_one (i:=9) (by kernel_rfl) rfl (fun K hK=>?_)
              refine step_app rfl (.tmp 194) (.tmp 201) 34 rfl w1.heap.size 77 (.agg #[.int .i64 0,.int .i64 0,.int .i64 0]) 3 24 Try.underlying34 gate_infoL rfl (by decide) (by decide) (.slice GA pn gc) pn (gatesCells pg8) rfl ?own (wQ.heap.size+1) (some ⟨wQ.heap.size,0,none⟩) 1 1 [.int .i64 4,.int .i64 z,.int .i64 xj] rfl ?rd ?one ?hb ?hbase ?_
              case own=>exact (HOGd.out).alloc _
              case rd=>exact Rd.lit wQ #[.int .i64 4,.int .i64 z,.int .i64 xj] 77 (sz:=3) (m:=1) rfl
              case one=>first | exact gt_one _ _ _ | rfl
              case hb=>omega
              case hbase=>first | (simp;omega) | omega
              intro v' w' hown' hgrow' hat'
              obtain ⟨VA,vc,rfl,_⟩:=Rd.own hown'
              obtain ⟨p1,p2,p3,p4⟩:=RSt.push (g:=⟨4,z,xj⟩) ((HROWd.out).alloc _) ((HOGd.out).alloc _) (Nat.le_refl _) HPN.out hgrow' hown' ((FKd.out).alloc hszd.out _)
              have PR:Hid (Row w' w1.heap.size 37 [.int .i64 N,.slice GA pn gc,.slice none 0 0]):=p1
              have PS:Hid (RSt (w'.setCell ⟨w1.heap.size,1,none⟩ (.slice VA (pn+1) vc)) w1.heap.size w1.heap.size N (pg8 ++ [⟨4,z,xj⟩]) (.slice none 0 0)):=p2
              have PF:=Lib.hid p3
              have PG:=Lib.hid p4
              clear p1 p2 p3 p4
              have q1:=PR.out.cell 1
              have qf:=PR.out.frozen 1
              simp only [List.getElem?_cons_zero,List.getElem?_cons_succ] at q1
              clear hown' hgrow' hat'
              refine hK.out _ _ (fun h=>absurd h (by decide)) (fun _=>?_)
              clear hK K
              try go_simp
              refine restL_one (i:=10) (by kernel_rfl) rfl (fun K hK=>?_)
              go_simp
              refine hK.out _ _ (fun h=>absurd h (by decide)) (fun _=>?_)
              clear hK K
              try go_simp
              refine restL_one (i:=11) (by kernel_rfl) rfl (fun K hK=>?_)
              go_simp
              refine hK.out _ _ (fun h=>absurd h (by decide)) (fun _=>?_)
              clear hK K
              try go_simp
              refine restL_done (by kernel_rfl) ?_ _
              have HR8:Hid (Row (World.setCell w' ⟨w1.heap.size,1,none⟩ (.slice VA (pn+1) vc)) w1.heap.size 37 [.int .i64 N,.slice VA (pn+1) vc,.slice none 0 0]):=PR.out.set 1 (.slice VA (pn+1) vc)
              clear PG q1 qf PR
              revert HR8 PS PF
              generalize World.setCell w' ⟨w1.heap.size,1,none⟩ (.slice VA (pn+1) vc)=w8
              intro PS PF HR8
              obtain ⟨e0,e1,e2,el⟩:=HR8.out.cells3
              have hpn4:pn+1≤30000:=by omega
              go_wp2_with (go_at_call 61;refine (rlast_any N (pn+1) vc 0 0 VA none _ hN100 hpn4).mono ?_;rintro e w9 ⟨rfl,hb9⟩)
              have RK9:Hid (RSt w9 w1.heap.size w1.heap.size N (pg8 ++ [⟨4,z,xj⟩]) (.slice none 0 0)):=PS.out.below hb9
              have FK9:Hid (RFrm w1.heap.size wz w9):=Frm.trans PF.out (Frm.ofBelow hb9 (Nat.le_of_lt PS.out.blk.1))
              clear hb9 PS PF HR8 e0 e1 e2 el
              go_roundg (qn - (j+1))
              case measure=>omega
              case rel=>
               refine ⟨j+1,(N:Int)+((pn:Int)+1) - 1,by omega,by omega,by omega,by go_num,by go_num,?_,FK9.out,?_⟩
               ·show _=_
                rw [HST.out]
                show _=wireF N pg8
                rw [wireF,HPN.out]
                omega
               ·show RSt _ _ _ _ _ _
                rw [HST.out]
                show RSt _ _ _ _ (pg8 ++ [⟨4,pw,xj⟩]) _
                rw [← HZ'.out]
                exact RK9.out
             ·have hltjz:¬ (j:Int) < ((qn:Nat):Int):=by omega
              have hjq:j=qn:=by omega
              have htt:allS N 4 pg ((pt).take j)=orS N (pg,pt):=by
               have h1:=allS_all N 4 pg (pt)
               rw [hTl] at h1
               rw [hjq,h1,HO.out]
              rw [htt] at HZ RK hlenj
              generalize orS N (pg,pt)=p8 at HZ RK hlenj HSI2
              obtain ⟨pg8,pw⟩:=p8
              dsimp only at hlenj
              have HSI3:Hid (scan (fun g _ k=>resS N (decide (1 < lev)) tr res nx ss g k) g (k+1)=(pg8,row ++ [pw])):=HSI2.out
              have HZ2:Hid (z=pw):=HZ.out
              have RK2:Hid (RSt wr w1.heap.size w1.heap.size N pg8 (.slice none 0 0)):=RK.out
              have OWy:Hid (wr.ownsRow wC.heap.size 3 1 u13 (RL+k) (ints FR)):=Frm.own FK.out OWz.out (by decide) (by decide)
              have FCy:Hid (RFrm w1.heap.size wC wr):=Frm.trans FCz.out FK.out
              have hpn20:pg8.length≤20000:=by have:=resRow_len N ss (decide (1 < lev)) tr res nx (k+1) (by omega) hS2.2 g;rw [HSI3.out] at this;dsimp only at this;omega
              have hszy:wC.heap.size≤wr.heap.size:=FCy.out.below.size
              clear HZ RK htt hlenj hz0 hq1z
              go_wp2_with (at_builtin;refine wpList_app rfl (.tmp 206) (.tmp 208) 35 rfl wC.heap.size 3 (.int .i64 0) 1 8 Try.underlying35 int_infoL rfl (by decide) (by decide) u13 (RL+k) (ints FR) rfl ?own (wr.heap.size+1) (some ⟨wr.heap.size,0,none⟩) 1 1 [.int .i64 z] rfl ?rd ?one ?hb ?hbase ?_)
              case own=>exact (OWy.out).alloc _
              case rd=>exact Rd.lit wr #[.int .i64 z] 3 (sz:=1) (m:=1) rfl
              case one=>first | (intro u hu;simp at hu;subst hu;rfl) | rfl
              case hb=>omega
              case hbase=>first | (simp;omega) | omega
              intro v' w' hown' hgrow' hat'
              have FC3:Hid (RFrm w1.heap.size wC w'):=Frm.grownNew (FCy.out.alloc hszr _) hgrow' (fun j hj=>(OWy.out.lt j hj).1) hbC.out
              have RS3:Hid (RSt w' w1.heap.size w1.heap.size N pg8 (.slice none 0 0)):=(RK2.out.alloc _).grownT (OWy.out.alloc _) hgrow' (by decide) (by decide)
              have OW3:Hid (w'.ownsRow wC.heap.size 3 1 v' (RL+(k+1)) (ints (FR ++ [pw]))):=by
               show w'.ownsRow _ _ _ _ _ _
               rw [iint_snoc,← HZ2.out]
               exact hown'
              clear hown' hgrow' hat'
              obtain ⟨GA9,gc9,hrow9,_⟩:=RS3.out.op
              have hgl:¬ (20000:Int) < ((pg8.length:Nat):Int):=by omega
              generalize pg8.length=gl at hrow9 hgl
              have HR9:Hid (Row w' w1.heap.size 37 [.int .i64 N,.slice GA9 gl gc9,.slice none 0 0]):=hrow9
              clear hrow9
              obtain ⟨e0,e1,e2,el⟩:=HR9.out.cells3
              go_wp2
              go_roundg (bb - (k+1))
              case measure=>omega
              case rel=>
               refine ⟨k+1,by omega,by omega,by go_num,FC3.out,(show RSt _ _ _ _ _ _ by rw [HSI3.out];exact RS3.out),?_⟩
               show World.ownsRow _ _ _ _ _ _ _
               rw [HSI3.out]
               show World.ownsRow _ _ _ _ _ _ (ints (RF ++ (row ++ [pw])))
               rw [← List.append_assoc,HFR.out]
               exact OW3.out
        ·have hltkz:¬ (k:Int) < (bb:Int):=by omega
         obtain rfl:bb=k:=by omega
         have hrowk:(scan (fun g _ k=>resS N (decide (1 < lev)) tr res nx S g k) g bb).2.length=bb:=scan_length _ _ _
         generalize scan (fun g _ k=>resS N (decide (1 < lev)) tr res nx S g k) g bb=q at RS OW hleni hrowk HE0
         obtain ⟨gi,row⟩:=q
         dsimp only at hrowk
         have HE1:Hid (lowM t (m+1)=(gi,res ++ [row])):=HE0.out
         have RS2:Hid (RSt wr w1.heap.size w1.heap.size N gi (.slice none 0 0)):=RS.out
         have OW2:Hid (wr.ownsRow wC.heap.size 3 1 u13 (RL+bb) (ints (RF ++ row))):=OW.out
         clear RS OW HE0 HBr hleni
         go_wp2
         go_roundg (nn - (m+1))
         case measure=>omega
         case rel=>
          refine ⟨m+1,by omega,by omega,by go_num,FF.out,(show RSt _ _ _ _ _ _ by rw [HE1.out];exact RS2.out),?_⟩
          show World.ownsRow _ _ _ _ _ _ _
          rw [HE1.out]
          show World.ownsRow _ _ _ _ _ (res ++ [row]).flatten.length (ints (res ++ [row]).flatten)
          rw [List.flatten_append,List.flatten_cons,List.flatten_nil,List.append_nil,HRF.out,List.length_append,HRL.out,hrowk]
          exact OW2.out
      ·have hltz:¬ (m:Int) < (nn:Int):=by omega
       obtain rfl:nn=m:=by omega
       have HLR0:Hid (lowR t=⟨(N:Int),(lowM t nn).1,(lowM t nn).2.getD (nn - 1) []⟩∧lowErr t=0):=⟨by rw [lowR,if_pos HR.out,HNN.out,HLN.out],by rw [lowErr,if_pos HR.out]⟩
       obtain ⟨n',rfl⟩:∃ n',nn=n'+1:=⟨nn - 1,by omega⟩
       have HLR:Hid (lowR t=⟨(N:Int),(lowM t (n'+1)).1,(lowM t (n'+1)).2.getD n' []⟩∧lowErr t=0):=HLR0.out
       have hrl:=lowM_row (t:=t) (n'+1) n' (by omega)
       rw [HBB.out] at hrl
       have HRG:Hid (∀ k,k < bb→(lowM t (n'+1)).2.flatten.getD (n' * bb+k) 0=((lowM t (n'+1)).2.getD n' []).getD k 0∧n' * bb+k < (lowM t (n'+1)).2.flatten.length):=fun k hk=>flat_get bb _ HMRW.out n' k (by rw [hmlen];omega) hk
       clear HLR0 HMRW hmlen
       generalize (lowM t (n'+1)).2.flatten=RF at OW HRG
       generalize (lowM t (n'+1)).2.getD n' []=R at HLR HRG hrl
       generalize (lowM t (n'+1)).1=G at HLR RS hlenm
       generalize RF.length=RL at OW HRG
       have RS1:Hid (RSt wr w1.heap.size w1.heap.size N G (.slice none 0 0)):=RS.out
       have OW1:Hid (wr.ownsRow wC.heap.size 3 1 u13 RL (ints RF)):=OW.out
       obtain ⟨RA9,rc9,rfl,_⟩:=Rd.own OW1.out
       obtain ⟨rp,hrp⟩:∃ rp:Nat,rp=n' * bb:=⟨_,rfl⟩
       have hrp12:rp≤1200:=by have:n' * bb≤400 * 3:=Nat.mul_le_mul (by omega) hb3;omega
       have hzb:(n':Int) * (bb:Int)=(rp:Int):=by rw [hrp,Int.natCast_mul]
       have hwrp:IntKind.i64.wrap (rp:Int)=(rp:Int):=IntWalk.i64_in _ (by omega)
       have hwn:IntKind.i64.wrap (n':Int)=(n':Int):=IntWalk.i64_in _ (by omega)
       rw [← hrp] at HRG
       have hbG:Hid (w1.heap.size≤wr.heap.size):=Nat.le_trans hbC.out hsz
       clear RS OW hrp HBr
       go_wp2
       clear k0 k1 k2 kl RTa
       obtain ⟨wG,rfl⟩:∃ wG:World,wG=wr:=⟨_,rfl⟩
       go_loopg [22] bb (fun gg s22 wr=>∃ (k:Nat) (OA:Option Addr) (oc:Nat),k≤bb∧bb - k≤gg∧s22=.int .i64 k∧Aside (RFrm w1.heap.size wG wr)∧Aside (RSt wr w1.heap.size w1.heap.size N G (.slice OA k oc))∧Aside (wr.ownsRow wG.heap.size 3 1 (.slice OA k oc) k (ints (R.take k))))
       case atStart=>exact ⟨0,none,0,Nat.zero_le _,by omega,rfl,Frm.refl _ _ _ _,RS1.out,World.ownsRow_nil _ _ _ _⟩
       case round=>
        obtain ⟨k,OA,oc,hk,hgk,rfl,FK,RK,OK⟩:=hrel
        have HBr:Hid (Below w1.heap.size w1 wr):=HBC.out.trans (FF.out.below.trans FK.out.below)
        have hszr:Hid (w1.heap.size≤wr.heap.size):=Nat.le_trans hbG.out FK.out.below.size
        have hszG:Hid (wG.heap.size≤wr.heap.size):=FK.out.below.size
        by_cases hltk:k < bb
        ·have hltkz:(k:Int) < (bb:Int):=by omega
         obtain ⟨hrx,hri⟩:=HRG.out k hltk
         obtain ⟨rg,er,hrc,_⟩:=own_int (Frm.own FK.out OW1.out (by decide) (by decide)) (rp+k) hri
         subst er
         rw [hrx] at hrc
         obtain ⟨rix,hrix⟩:∃ rix:Nat,rix=rp+k:=⟨_,rfl⟩
         rw [← hrix] at hrc hri
         have hrpk:(rp:Int)+(k:Int)=(rix:Int):=by omega
         have hwrix:IntKind.i64.wrap (rix:Int)=(rix:Int):=IntWalk.i64_in _ (by omega)
         have hril:(rix:Int) < (RL:Int):=by omega
         have hRt:Hid (ints (R.take (k+1))=ints (R.take k) ++ [.int .i64 (R.getD k 0)]):=by
          show _=_
          rw [← iint_snoc,List.getD_eq_getElem?_getD,List.getElem?_eq_getElem (by omega),Option.getD_some,List.take_append_getElem (by omega)]
         generalize R.getD k 0=xk at hrc hRt
         obtain ⟨GA,gc,hrow9,_⟩:=RK.out.op
         generalize G.length=pn at hrow9
         have HROW:Hid (Row wr w1.heap.size 37 [.int .i64 N,.slice GA pn gc,.slice OA k oc]):=hrow9
         have RTa:=hiD (rowCells RA.out HBr.out)
         clear hrow9 hrx hrix
         go_wp2_with fail
         refine wp_region_L (fun w'=>Row w' w1.heap.size 37 [.int .i64 N,.slice GA pn gc,.slice OA k oc]∧Row w' w.heap.size 25 [.int .i64 t.states,.slice HA hn hc,.slice (some nad) (n'+1) nc]∧w'.cell? ⟨rg,rix,none⟩=some (.int .i64 xk)) [14,15,16] (by kernel_rfl) ⟨HROW.out.drew,RTa.out.drew,hrc⟩ (fun hHeld=>?_)
         have FKd:Hid (RFrm w1.heap.size wG wr.drew):=Frm.drew FK.out
         have RKd:Hid (RSt wr.drew w1.heap.size w1.heap.size N G (.slice OA k oc)):=RK.out
         have OKd:Hid (wr.drew.ownsRow wG.heap.size 3 1 (.slice OA k oc) k (ints (R.take k))):=OK.out
         have hszd:Hid (w1.heap.size≤wr.drew.heap.size):=hszr.out
         have hszGd:wG.heap.size≤wr.drew.heap.size:=hszG.out
         clear HROW FK RK OK hrc RTa HBr hszr hszG
         revert hHeld FKd RKd OKd hszd hszGd
         generalize wr.drew=wQ
         intro hHeld FKd RKd OKd hszd hszGd
         refine lTakeW 0 ?ve1 [[14,1],[15],[16]] rfl (by rfl) ?ye1 hHeld ?re1
         case ye1=>intro w' hSw;clear hSw;go_simp;try (with_reducible rfl)
         go_simp
         refine lTakeW 1 ?ve2 [[14],[15],[16]] rfl (by rfl) ?ye2 hHeld ?re2
         case ye2=>
          intro w' hSw
          obtain ⟨s1,s2,s3⟩:=hSw
          have hSh:Hid (Row w' w1.heap.size 37 [.int .i64 N,.slice GA pn gc,.slice OA k oc]):=s1
          have hSn:Hid (Row w' w.heap.size 25 [.int .i64 t.states,.slice HA hn hc,.slice (some nad) (n'+1) nc]):=s2
          clear s1 s2
          obtain ⟨z0,z1,z2,zl⟩:=hSh.out.cells3
          obtain ⟨y0,y1,y2,yl⟩:=hSn.out.cells3
          go_simp
          try (with_reducible rfl)
         go_simp
         refine lTakeW 2 ?ve3 [[14,13,12,11],[15],[16]] rfl (by rfl) ?ye3 hHeld ?re3
         case ye3=>intro w' hSw;clear hSw;go_simp;try (with_reducible rfl)
         go_simp
         refine lTakeW 3 ?ve4 [[14,13,12,11,10,8,6,5,4],[15],[16]] rfl (by rfl) ?ye4 hHeld ?re4
         case ye4=>intro w' hSw;clear hSw;go_simp;try (with_reducible rfl)
         go_simp
         refine lTakeW 4 ?ve5 [[14,13,12,11,10,8,6,5],[15],[16]] rfl (by rfl) ?ye5 hHeld ?re5
         case ye5=>
          intro w' hSw
          obtain ⟨s1,s2,s3⟩:=hSw
          have hSh:Hid (Row w' w1.heap.size 37 [.int .i64 N,.slice GA pn gc,.slice OA k oc]):=s1
          have hSn:Hid (Row w' w.heap.size 25 [.int .i64 t.states,.slice HA hn hc,.slice (some nad) (n'+1) nc]):=s2
          clear s1 s2
          obtain ⟨z0,z1,z2,zl⟩:=hSh.out.cells3
          obtain ⟨y0,y1,y2,yl⟩:=hSn.out.cells3
          go_simp
          try (with_reducible rfl)
         go_simp
         refine lTakeW 5 ?ve6 [[14,13,12,11,10,8,6],[15],[16]] rfl (by rfl) ?ye6 hHeld ?re6
         case ye6=>
          intro w' hSw
          obtain ⟨s1,s2,s3⟩:=hSw
          have hSh:Hid (Row w' w1.heap.size 37 [.int .i64 N,.slice GA pn gc,.slice OA k oc]):=s1
          have hSn:Hid (Row w' w.heap.size 25 [.int .i64 t.states,.slice HA hn hc,.slice (some nad) (n'+1) nc]):=s2
          clear s1 s2
          obtain ⟨z0,z1,z2,zl⟩:=hSh.out.cells3
          obtain ⟨y0,y1,y2,yl⟩:=hSn.out.cells3
          go_simp
          try (with_reducible rfl)
         go_simp
         refine lTakeW 6 ?ve7 [[14,13,12,11,10,8],[15],[16]] rfl (by rfl) ?ye7 hHeld ?re7
         case ye7=>intro w' hSw;clear hSw;go_simp;try (with_reducible rfl)
         go_simp
         refine lTakeW 7 ?ve8 [[14,13,12,11,10,8],[15],[16]] rfl (by rfl) ?ye8 hHeld ?re8
         case ye8=>intro w' hSw;clear hSw;go_simp;try (with_reducible rfl)
         go_simp
         refine lTakeW 8 ?ve9 [[14,13,12,11,10],[15],[16]] rfl (by rfl) ?ye9 hHeld ?re9
         case ye9=>intro w' hSw;clear hSw;go_simp;try (with_reducible rfl)
         go_simp
         refine lTakeW 9 ?ve10 [[14,13,12,11,10],[15],[16]] rfl (by rfl) ?ye10 hHeld ?re10
         case ye10=>intro w' hSw;clear hSw;go_simp;try (with_reducible rfl)
         go_simp
         refine lTakeW 10 ?ve11 [[14,13,12,11],[15],[16]] rfl (by rfl) ?ye11 hHeld ?re11
         case ye11=>intro w' hSw;clear hSw;go_simp;try (with_reducible rfl)
         go_simp
         refine lTakeW 11 ?ve12 [[14,13,12],[15],[16]] rfl (by rfl) ?ye12 hHeld ?re12
         case ye12=>
          intro w' hSw
          obtain ⟨s1,s2,s3⟩:=hSw
          have hSh:Hid (Row w' w1.heap.size 37 [.int .i64 N,.slice GA pn gc,.slice OA k oc]):=s1
          have hSn:Hid (Row w' w.heap.size 25 [.int .i64 t.states,.slice HA hn hc,.slice (some nad) (n'+1) nc]):=s2
          clear s1 s2
          obtain ⟨z0,z1,z2,zl⟩:=hSh.out.cells3
          obtain ⟨y0,y1,y2,yl⟩:=hSn.out.cells3
          go_simp
          try (with_reducible rfl)
         go_simp
         refine lTakeW 12 ?ve13 [[14,13],[15],[16]] rfl (by rfl) ?ye13 hHeld ?re13
         case ye13=>
          intro w' hSw
          obtain ⟨s1,s2,s3⟩:=hSw
          have hSh:Hid (Row w' w1.heap.size 37 [.int .i64 N,.slice GA pn gc,.slice OA k oc]):=s1
          have hSn:Hid (Row w' w.heap.size 25 [.int .i64 t.states,.slice HA hn hc,.slice (some nad) (n'+1) nc]):=s2
          clear s1 s2
          obtain ⟨z0,z1,z2,zl⟩:=hSh.out.cells3
          obtain ⟨y0,y1,y2,yl⟩:=hSn.out.cells3
          go_simp
          try (with_reducible rfl)
         go_simp
         refine restL_one (i:=13) (by kernel_rfl) rfl (fun K hK=>?_)
         go_simp
         refine hK.out _ _ (fun _=>?keep) (fun hHeld=>?_)
         case keep=>exact ⟨hHeld.1.alloc _,hHeld.2.1.alloc _,(World.cell?_alloc_lt _ _ _ (World.block_lt_of_cell? _ _ hHeld.2.2)).trans hHeld.2.2⟩
         have hHeld:=hHeld rfl
         clear hK K
         try go_simp
         refine restL_one (i:=14) (by kernel_rfl) rfl (fun K hK=>?_)
         refine step_app rfl (.tmp 221) (.tmp 233) 35 rfl wG.heap.size 3 (.int .i64 0) 1 8 Try.underlying35 int_infoL rfl (by decide) (by decide) (.slice OA k oc) k (ints (R.take k)) rfl ?own (wQ.heap.size+1) (some ⟨wQ.heap.size,0,none⟩) 1 1 [.int .i64 xk] rfl ?rd ?one ?hb ?hbase ?_
         case own=>exact OKd.out.alloc _
         case rd=>exact Rd.lit wQ #[.int .i64 xk] 3 (sz:=1) (m:=1) rfl
         case one=>intro u hu;simp at hu;subst hu;rfl
         case hb=>omega
         case hbase=>first | (simp;omega) | omega
         intro v' w' hown' hgrow' hat'
         obtain ⟨VA,vc,rfl,_⟩:=Rd.own hown'
         have FK3:Hid (RFrm w1.heap.size wG w'):=Frm.grownNew (FKd.out.alloc hszd.out _) hgrow' (fun j hj=>(OKd.out.lt j hj).1) hbG.out
         have RK3:Hid (RSt w' w1.heap.size w1.heap.size N G (.slice OA k oc)):=(RKd.out.alloc _).grownT (OKd.out.alloc _) hgrow' (by decide) (by decide)
         have OK3:Hid (w'.ownsRow wG.heap.size 3 1 (.slice VA (k+1) vc) (k+1) (ints (R.take (k+1)))):=(by show w'.ownsRow _ _ _ _ _ _;rw [hRt.out];exact hown')
         obtain ⟨GA3,gc3,hrow3,_⟩:=RK3.out.op
         have HR3:Hid (Row w' w1.heap.size 37 [.int .i64 N,.slice GA3 G.length gc3,.slice OA k oc]):=hrow3
         have q2:=HR3.out.cell 2
         have qf:=HR3.out.frozen 2
         simp only [List.getElem?_cons_zero,List.getElem?_cons_succ] at q2
         clear hown' hgrow' hat' hrow3
         refine hK.out _ _ (fun h=>absurd h (by decide)) (fun _=>?_)
         clear hK K
         try go_simp
         refine restL_one (i:=15) (by kernel_rfl) rfl (fun K hK=>?_)
         go_simp
         refine hK.out _ _ (fun h=>absurd h (by decide)) (fun _=>?_)
         clear hK K
         try go_simp
         refine restL_one (i:=16) (by kernel_rfl) rfl (fun K hK=>?_)
         go_simp
         refine hK.out _ _ (fun h=>absurd h (by decide)) (fun _=>?_)
         clear hK K
         try go_simp
         refine restL_done (by kernel_rfl) ?_ _
         go_wp2
         go_roundg (bb - (k+1))
         case measure=>omega
         case rel=>exact ⟨k+1,VA,vc,by omega,by omega,by go_num,Frm.set (p:=⟨w1.heap.size,2,none⟩) FK3.out HR3.out (Nat.le_refl _) _,RK3.out.setOuts _,own_set (p:=⟨w1.heap.size,2,none⟩) OK3.out HR3.out (by decide) _⟩
        ·have hltkz:¬ (k:Int) < (bb:Int):=by omega
         obtain rfl:bb=k:=by omega
         have hRT:R.take bb=R:=by rw [← hrl,List.take_length]
         rw [hRT] at OK
         have RCr:=hiD (rowCells RC.out HBr.out)
         have HBd:=hiD (below_on2 HB.out HBr.out)
         have hcb:w.heap.size+1 < w1.heap.size:=RC.out.lt
         obtain ⟨GA,gc,hrow9,hown9⟩:=RK.out.op
         have HROW:Hid (Row wr w1.heap.size 37 [.int .i64 N,.slice GA G.length gc,.slice OA bb oc]):=hrow9
         have HOG:Hid (wr.ownsRow w1.heap.size 77 3 (.slice GA G.length gc) G.length (gatesCells G)):=hown9
         have HRO:Hid (wr.ownsRow wG.heap.size 3 1 (.slice OA bb oc) bb (ints R)):=OK.out
         clear hrow9 hown9 hRT RK OK
         obtain ⟨e0,e1,e2,el⟩:=HROW.out.cells3
         obtain ⟨d0,d1,d2,dl⟩:=RCr.out.cells3
         obtain ⟨f0,f1,f2⟩:=RCr.out.froz3
         have hcne:¬ w1.heap.size=w.heap.size+1:=by omega
         have hcne2:¬ w.heap.size+1=w1.heap.size:=by omega
         go_wp2
         clear e0 e1 e2 el d0 d1 d2 dl f0 f1 f2
         have c2:=RCr.out.set 0 (.int .i64 N)
         have c3:=c2.set 1 (.slice GA G.length gc)
         have c4:=c3.set 2 (.slice OA bb oc)
         have p2:=own_set (p:=⟨w.heap.size+1,0,none⟩) HOG.out RCr.out (by decide) (.int .i64 N)
         have p3:=own_set (p:=⟨w.heap.size+1,1,none⟩) p2 c2 (by decide) (.slice GA G.length gc)
         have p4:=own_set (p:=⟨w.heap.size+1,2,none⟩) p3 c3 (by decide) (.slice OA bb oc)
         have q2:=own_set (p:=⟨w.heap.size+1,0,none⟩) HRO.out RCr.out (by decide) (.int .i64 N)
         have q3:=own_set (p:=⟨w.heap.size+1,1,none⟩) q2 c2 (by decide) (.slice GA G.length gc)
         have q4:=own_set (p:=⟨w.heap.size+1,2,none⟩) q3 c3 (by decide) (.slice OA bb oc)
         have r0:=c4.cell 0
         have r1:=c4.cell 1
         have r2:=c4.cell 2
         have hbl:=((HBd.out.setCell (p:=⟨w.heap.size+1,0,none⟩) (by show w.heap.size≤w.heap.size+1;omega) (.int .i64 N)).setCell (p:=⟨w.heap.size+1,1,none⟩) (by show w.heap.size≤w.heap.size+1;omega) (.slice GA G.length gc)).setCell (p:=⟨w.heap.size+1,2,none⟩) (by show w.heap.size≤w.heap.size+1;omega) (.slice OA bb oc)
         clear c2 c3 c4 p2 p3 q2 q3
         simp only [List.set_cons_zero,List.set_cons_succ,List.getElem?_cons_zero,List.getElem?_cons_succ] at r0 r1 r2
         revert p4 q4 r0 r1 r2 hbl
         generalize (World.setCell (World.setCell (World.setCell wr ⟨w.heap.size+1,0,none⟩ (.int .i64 N)) ⟨w.heap.size+1,1,none⟩ (.slice GA G.length gc)) ⟨w.heap.size+1,2,none⟩ (.slice OA bb oc))=wz
         intro p4 q4 r0 r1 r2 hbl
         refine bodyPost_ret (v:=.tuple #[.agg #[.int .i64 N,.slice GA G.length gc,.slice OA bb oc],.int .i64 0]) (by simp [results,Try.results33,go_sem,r0,r1,r2]) rfl ?_
         rw [HLR.out.1,HLR.out.2]
         exact ⟨GA,OA,G.length,gc,bb,oc,rfl,⟨Rd.of_own p4,Rd.of_own q4,by unfold maxLen;omega,by unfold maxLen;omega⟩,⟨(own_from p4).mono (by omega),(own_from q4).mono (by have:=hbG.out;omega)⟩,hbl⟩
end Go.Proofs.Ytiemhbogbaamlaa
