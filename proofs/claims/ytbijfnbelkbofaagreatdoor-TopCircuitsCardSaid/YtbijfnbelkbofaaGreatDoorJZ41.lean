/-
  Lemmas for the law TopCircuits.
-/
import Derived.Test.YtbijfnbelkbofaaGreatDoorJZ40
import Derived.Deep.RegionLaw
set_option linter.unusedSimpArgs false
set_option linter.unusedVariables false
namespace Go.Proofs.YtbijfnbelkbofaaGreatDoor
open Go.RowKit
theorem Rows2At.get {w:World} {base:Nat} {E I:TypeId} {v:Value} {rows:List (List Int)} (h:Rows2At w base E I v rows) (i:Nat) (hi:i < rows.length):
 ∃ g c u,v=.slice (some ⟨g,0,none⟩) rows.length c∧w.cell? ⟨g,i,none⟩=some u∧w.ownsRow base I 1 u (rows.getD i []).length (ints (rows.getD i [])):=by
 obtain ⟨vs,h1,h2,h3⟩:=h;obtain ⟨g,c,rfl,_,_⟩:=h1.form (by omega);refine ⟨g,c,vs.getD i undef,rfl,?_,h3 i hi⟩;rw [h1.cellAt i (by omega),List.getD_eq_getElem?_getD,List.getElem?_eq_getElem (by omega)];rfl
theorem Frm.drew {B:Nat} {T1 T2:TypeId} {w w1:World} (h:Frm B T1 T2 w w1):Frm B T1 T2 w w1.drew:=⟨⟨h.below.os,h.below.tape,h.below.output,h.below.size,h.below.block⟩,h.keep⟩
structure LRes (w:World) (B:Nat) (cs:List Value) (hn:Nat) (tests res:List (List Int)):Prop where
 hood:∃ HA hc,cs[2]?=some (.slice HA hn hc)
 tests:∃ tv Bt,cs[6]?=some tv∧Rows2At w Bt 22 3 tv tests
 res:∃ rv Br,cs[7]?=some rv∧Rows2At w Br 22 3 rv res
theorem LRes.frm {w w':World} {B hn:Nat} {cs:List Value} {tests res:List (List Int)} (h:LRes w B cs hn tests res) (f:LFrm B w w'):LRes w' B cs hn tests res:=by
 obtain ⟨h1,⟨tv,Bt,e,h2⟩,rv,Br,e',h3⟩:=h;exact ⟨h1,⟨tv,Bt,e,h2.frm f (by decide) (by decide) (by decide) (by decide)⟩,rv,Br,e',h3.frm f (by decide) (by decide) (by decide) (by decide)⟩
set_option maxRecDepth 100000 in
set_option maxHeartbeats 4000000 in
theorem lresult_any (B b N hn pos k S xc:Nat) (gs:List Gt) (cs:List Value) (tests res:List (List Int)) (lev:Int) (next:List Int) (XA:Option Addr) (w:World) (h:LSt w B b N gs cs) (hN:N≤100) (hl:gs.length≤19900)
 (hR:LRes w B cs hn tests res) (hX:Rd w B 1 XA S (ints next)) (hlev:1≤lev) (hlev2:lev≤hn) (hpos:(hn:Int) - lev=pos) (hhn:hn≤25) (hk:k≤2) (hS:1≤S) (hS8:S≤8)
 (htl:tests.length=hn) (htr:(tests.getD pos []).length=S)
 (hup:1 < lev→∀ s,s < S→0≤next.getD s 0∧(next.getD s 0).toNat < res.length∧k < (res.getD (next.getD s 0).toNat []).length)
 (hdn:lev=1→∀ s,s < S→0≤next.getD s 0∧next.getD s 0≤7) (hB:B≤w.heap.size):
 Calls Tryz.prog 30 #[.pointer (some ⟨b,0,none⟩),.agg #[.int .i64 lev,.slice XA S xc],.int .i64 k] w fun e w'=>
  e=.returned (.int .i64 (resS N (decide (1 < lev)) (tests.getD pos []) res next S gs k).2)∧LSt w' B b N (resS N (decide (1 < lev)) (tests.getD pos []) res next S gs k).1 cs∧LFrm B w w':=by
 have H:=hiD h;have HR:=hiD hR;have HX:=hiD hX;have HTL:=hiD htl;have HTR:=hiD htr;have HUP:=hiD hup;have HDN:=hiD hdn;have HLX:Hid (next.length=S):=by have:=hX.1;rw [ints_length,Nat.mul_one] at this;exact this
 have hph:pos < hn:=by omega
 have HUS:=hiD hB;obtain ⟨⟨HA,hc,eh⟩,⟨tv,Bt,et,hT⟩,rv,Br,er,hRR⟩:=HR.out;obtain ⟨tg,tc,tu,rfl,htc,hto⟩:=hT.get pos (by omega);rw [htr] at hto;obtain ⟨TA,tc2,rfl,_⟩:=Rd.own hto;rw [htl] at et;have ET:=hiD et;have ER:=hiD er;have EH:=hiD eh;have OT:=hiD hto;have HTC:=hiD htc;have hnb:Hid (hn≤maxLen):=by show _≤_;unfold maxLen;omega
 have hblk:=h.blk;clear h hR hX htl htr hup hdn et er eh hto htc hT hRR hB;have c8:=(H.out.cs 6).trans ET.out;have c4:=(H.out.cs 2).trans EH.out;have c9:=HTC.out;have hpi:(pos:Int) < (hn:Int):=by omega
 have hpp:(0:Int)≤(pos:Int):=by omega
 have hwp:IntKind.i64.wrap (pos:Int)=(pos:Int):=IntWalk.i64_in _ (by omega);have htgl:tg < w.heap.size:=World.block_lt_of_cell? w _ c9;go_enter Tryz.func30,Tryz.ntmps30;go_wp2_with fail;go_quiet (fail);go_wp2;have RN:Hid (Row (World.alloc w _) w.heap.size 65 [.int .i64 lev,.slice XA S xc]):=Row.new w 65 [.int .i64 lev,.slice XA S xc];have LS1:Hid (LSt (World.alloc w (.cells #[.int .i64 lev,.slice XA S xc] 65)) B b N gs cs):=H.out.alloc _;have HF01:Hid (LFrm B w (World.alloc w (.cells #[.int .i64 lev,.slice XA S xc] 65))):=(Frm.refl B _ _ w).alloc HUS.out _;have hw01:Hid (w.heap.size≤(World.alloc w (.cells #[.int .i64 lev,.slice XA S xc] 65)).heap.size):=by show _≤_;simp
 have OT1:Hid (World.ownsRow (World.alloc w (.cells #[.int .i64 lev,.slice XA S xc] 65)) Bt 3 1 (.slice TA S tc2) S (ints (tests.getD pos []))):=OT.out.alloc _;have HR1:Hid (LRes (World.alloc w (.cells #[.int .i64 lev,.slice XA S xc] 65)) B cs hn tests res):=HR.out.frm HF01.out;have HXW:Hid (∀ p:Addr,p.block < B→(World.alloc w (.cells #[.int .i64 lev,.slice XA S xc] 65)).cell? p=w.cell? p):=fun p hp=>World.cell?_alloc_lt w _ p (by have:=HUS.out;omega)
 clear c8 c4 c9 hpi hpp hwp htgl hblk;revert RN LS1 HF01 hw01 OT1 HR1 HXW;generalize World.alloc w (.cells #[.int .i64 lev,.slice XA S xc] 65)=w1;intro RN LS1 HF01 hw01 OT1 HR1 HXW;by_cases hup:1 < lev
 ·have HDU:Hid (decide (1 < lev)=true):=decide_eq_true hup
  go_loopg [8,9,10,29,34,59] S (fun gg s8 _ _ s29 _ _ wr=>∃ kk:Nat,kk≤S∧S - kk≤gg∧s29=.int .i64 kk∧Aside (LFrm B w1 wr)∧Aside (LSt wr B b N (termsS N true (tests.getD pos []) res next gs k kk).1 cs)∧Aside (wr.ownsRow w1.heap.size 3 1 s8 (termsS N true (tests.getD pos []) res next gs k kk).2.length (ints (termsS N true (tests.getD pos []) res next gs k kk).2)))
  case atStart=>exact ⟨0,Nat.zero_le _,by omega,rfl,(Frm.refl B _ _ w1).drewN _,LS1.out,World.ownsRow_nil _ _ _ _⟩
  case round=>
   obtain ⟨kk,hkk,hgg,rfl,FF,LS,OW⟩:=hrel;have RN':Hid (Row wr w.heap.size 65 [.int .i64 lev,.slice XA S xc]):=Frm.row FF.out RN.out (by decide) (by decide);obtain ⟨n0,n1,nl⟩:=RN'.out.cells2;have hsz:w1.heap.size≤wr.heap.size:=FF.out.below.size;have hBr:Hid (B≤wr.heap.size):=Nat.le_trans HUS.out (Nat.le_trans hw01.out hsz);obtain ⟨hln1,hln2⟩:=termsS_len N true (tests.getD pos []) res next gs k kk
   by_cases hlt:kk < S
   ·have hltz:(kk:Int) < (S:Int):=by omega
    have HXr:Rd wr B 1 XA S (ints next):=HX.out.keep (fun p hp=>(FF.out.below.cell (by omega)).trans (HXW.out p hp));obtain ⟨xad,exa,hxb,hz⟩:=HXr.int hlt;subst exa;have HTR2:=Frm.own FF.out OT1.out (by decide) (by decide);obtain ⟨TA',tc',e9,hRT⟩:=Rd.own HTR2
    cases e9
    obtain ⟨tad,eta,htb,htz⟩:=hRT.int hlt;subst eta;have hblr:=LS.out.blk;have HTS:Hid ((termsS N true (tests.getD pos []) res next gs k (kk+1))=termStep N true (tests.getD pos []) res next k (termsS N true (tests.getD pos []) res next gs k kk) kk):=termsS_succ ..;obtain ⟨z0,z1,z2⟩:=HUP.out hup kk hlt;generalize hzz:next.getD kk 0=z at hz z0 z1 z2
    have HZ:=hiD hzz
    obtain ⟨zn,rfl⟩:∃ zn:Nat,z=(zn:Int):=⟨z.toNat,by omega⟩
    rw [Int.toNat_natCast] at z1 z2;obtain ⟨_,⟨_,_,_,_⟩,rv',Br',er',hRR⟩:=HR1.out.frm FF.out;have er2:=ER.out;rw [er'] at er2
    cases er2
    obtain ⟨rg,rc,ru,hrve,hrc,hro⟩:=hRR.get zn z1;subst hrve;obtain ⟨RA,rc2,hrue,hRR2⟩:=Rd.own hro;subst hrue;obtain ⟨rad,hrae,hrb,hrz⟩:=hRR2.int z2;subst hrae;have c9:=(LS.out.cs 7).trans er';have hzi:(zn:Int) < (res.length:Int):=by omega
    have hki:(k:Int) < ((res.getD zn []).length:Int):=by omega
    generalize hxt:(tests.getD pos []).getD kk 0=xt at htz;have HXT:=hiD hxt;generalize hxr:(res.getD zn []).getD k 0=xr at hrz;have HXR:=hiD hxr;generalize (res.getD zn []).length=rl at *;generalize res.length=resl at *;generalize hp:(termsS N true (tests.getD pos []) res next gs k kk)=p at LS OW hln1 hln2 HTS;have HP:=hiD hp;obtain ⟨pg,pt⟩:=p;dsimp only at hln1 hln2;have LS':Hid (LSt wr B b N pg cs):=LS.out;have OW':Hid (wr.ownsRow w1.heap.size 3 1 u8 pt.length (ints pt)):=OW.out
    have HTS':Hid ((termsS N true (tests.getD pos []) res next gs k (kk+1))=(pg ++ [⟨3,xt,xr⟩],pt ++ [wireF N pg])):=by
     show _=_;rw [HTS.out,termStep,if_pos rfl,HXT.out,HZ.out,Int.toNat_natCast,HXR.out]
    generalize hq:pt.length=q at OW' hln2;have HQ:=hiD hq;clear LS OW HTS hzz hxt hxr hp hq HTR2 hRT er' hRR hro hRR2 HXr;go_wp2_with fail
    go_region_law (first
     | (go_simp; go_at_call 28
        refine (lgate_any B b N pg cs 3 xt xr _ (by exact LS'.out) hN (by omega)).mono ?_;rintro e w2 ⟨rfl,hl2,hf2⟩;have LS2:=hiD hl2;have FF2:Hid (LFrm B w1 w2):=Frm.trans (Frm.drew FF.out) hf2;have OW2:Hid (w2.ownsRow w1.heap.size 3 1 u8 q (ints pt)):=Frm.own hf2 (by exact OW'.out) (by decide) (by decide);have hls:=LS2.out.blk;have hsz2:w1.heap.size≤w2.heap.size:=FF2.out.below.size
        clear hl2 hf2)
     | (refine step_app rfl (.tmp 38) (.tmp 57) 22 rfl w1.heap.size 3 (.int .i64 0) 1 8 Tryz.underlying22 int_infoL rfl (by decide) (by decide) u8 q (ints pt) rfl ?own (w2.heap.size + 1) (some ⟨w2.heap.size, 0, none⟩) 1 1 [.int .i64 (wireF N pg)] rfl ?rd ?one ?hb ?hbase ?_
        case own=>exact OW2.out.alloc _
        case rd=>exact Rd.lit w2 #[.int .i64 (wireF N pg)] 3 (sz:=1) (m:=1) rfl
        case one=>intro u hu;simp at hu;subst hu;rfl
        case hb=>omega
        case hbase=>simp;omega
        intro v' w' hown' hgrow' hat';have FF3:Hid (LFrm B w1 w'):=Frm.grownNew (FF2.out.alloc (by omega) _) hgrow' (fun k hk=>(OW2.out.lt k hk).1) (Nat.le_trans HUS.out hw01.out);have LS3:Hid (LSt w' B b N (pg ++ [⟨3,xt,xr⟩]) cs):=(LS2.out.alloc _).grownT (OW2.out.alloc _) hgrow' (by decide) (by decide)
        have OW3:Hid (w'.ownsRow w1.heap.size 3 1 v' (q+1) (ints (pt ++ [wireF N pg]))):=(by
         show w'.ownsRow _ _ _ _ _ _;rw [iint_snoc]
         exact hown')
        clear hown' hgrow' hat'))
    all_goals
     go_wp2;go_roundg (S - (kk+1))
     case measure=>omega
     case rel=>
      refine ⟨kk+1,by omega,by omega,by go_num,FF3.out,(show LSt _ _ _ _ _ _ by rw [HTS'.out];exact LS3.out),?_⟩;show World.ownsRow _ _ _ _ _ _ _;rw [HTS'.out,List.length_append,List.length_singleton,HQ.out];exact OW3.out
   ·have hltz:¬ (kk:Int) < (S:Int):=by omega
    obtain rfl:kk=S:=by omega
    generalize hp:(termsS N true (tests.getD pos []) res next gs k kk)=p at LS OW hln1 hln2;have HP:=hiD hp;have HRS:Hid (resS N true (tests.getD pos []) res next kk gs k=orS N p):=by show _=_;rw [resS,hp]
    obtain ⟨pg,pt⟩:=p;dsimp only at hln1 hln2;have LS':Hid (LSt wr B b N pg cs):=LS.out;have OW':Hid (wr.ownsRow w1.heap.size 3 1 u8 pt.length (ints pt)):=OW.out;generalize hq:pt.length=q at OW' hln2;have HQ:=hiD hq;clear LS OW hp;obtain ⟨PA,pc,rfl,_⟩:=Rd.own OW'.out;by_cases hq0:q=0
    ·have HO:Hid (orS N (pg,pt)=(pg ++ [⟨0,0,0⟩],wireF N pg)):=by show _=_;rw [orS,if_pos (by dsimp only;omega)]
     have hqz:((q:Int) == 0)=true:=by simpa using hq0
     clear hq0 hq;go_wp2_with fail;refine (lgate_any B b N pg cs 0 0 0 _ LS'.out hN (by omega)).mono ?_;rintro e w2 ⟨rfl,hl2,hf2⟩;have LS2:=hiD hl2;have FF2:Hid (LFrm B w w2):=Frm.trans HF01.out (Frm.trans FF.out hf2);clear hl2 hf2;go_wp2;go_ret;rw [HDU.out,HRS.out,HO.out];exact ⟨rfl,LS2.out,FF2.out⟩
    ·have HO:Hid (orS N (pg,pt)=allS N 4 pg pt):=by show _=_;rw [orS,if_neg (by dsimp only;omega)]
     have hqz:((q:Int) == 0)=false:=by simpa using hq0
     clear hq;go_wp2_with fail;refine (lall_any B b N w1.heap.size q pg cs 4 (.slice PA q pc) pt _ LS'.out hN (by omega) OW'.out (by omega) (by omega)).mono ?_;rintro e w2 ⟨rfl,hl2,hf2⟩;have LS2:=hiD hl2;have FF2:Hid (LFrm B w w2):=Frm.trans HF01.out (Frm.trans FF.out hf2);clear hl2 hf2;go_wp2;go_ret;rw [HDU.out,HRS.out,HO.out];exact ⟨rfl,LS2.out,FF2.out⟩
 ·have HDU:Hid (decide (1 < lev)=false):=decide_eq_false hup;have hlev1:Hid (lev=1):=by show _=_;omega
  go_loopg [8,9,10,29,34,59] S (fun gg s8 _ _ s29 _ _ wr=>∃ kk:Nat,kk≤S∧S - kk≤gg∧s29=.int .i64 kk∧Aside (LFrm B w1 wr)∧Aside (LSt wr B b N (termsS N false (tests.getD pos []) res next gs k kk).1 cs)∧Aside (wr.ownsRow w1.heap.size 3 1 s8 (termsS N false (tests.getD pos []) res next gs k kk).2.length (ints (termsS N false (tests.getD pos []) res next gs k kk).2)))
  case atStart=>exact ⟨0,Nat.zero_le _,by omega,rfl,(Frm.refl B _ _ w1).drewN _,LS1.out,World.ownsRow_nil _ _ _ _⟩
  case round=>
   obtain ⟨kk,hkk,hgg,rfl,FF,LS,OW⟩:=hrel;have RN':Hid (Row wr w.heap.size 65 [.int .i64 lev,.slice XA S xc]):=Frm.row FF.out RN.out (by decide) (by decide);obtain ⟨n0,n1,nl⟩:=RN'.out.cells2;have hsz:w1.heap.size≤wr.heap.size:=FF.out.below.size;have hBr:Hid (B≤wr.heap.size):=Nat.le_trans HUS.out (Nat.le_trans hw01.out hsz);obtain ⟨hln1,hln2⟩:=termsS_len N false (tests.getD pos []) res next gs k kk
   by_cases hlt:kk < S
   ·have hltz:(kk:Int) < (S:Int):=by omega
    have HXr:Rd wr B 1 XA S (ints next):=HX.out.keep (fun p hp=>(FF.out.below.cell (by omega)).trans (HXW.out p hp));obtain ⟨xad,exa,hxb,hz⟩:=HXr.int hlt;subst exa;have HTR2:=Frm.own FF.out OT1.out (by decide) (by decide);obtain ⟨TA',tc',e9,hRT⟩:=Rd.own HTR2
    cases e9
    obtain ⟨tad,eta,htb,htz⟩:=hRT.int hlt;subst eta;have hblr:=LS.out.blk;have HTS:Hid ((termsS N false (tests.getD pos []) res next gs k (kk+1))=termStep N false (tests.getD pos []) res next k (termsS N false (tests.getD pos []) res next gs k kk) kk):=termsS_succ ..;obtain ⟨z0,z7⟩:=HDN.out hlev1.out kk hlt;generalize hzz:next.getD kk 0=z at hz z0 z7
    have HZ:=hiD hzz;have hbit:(bits BinOp.and IntKind.i64 (z / 2 ^ k) 1 == 1)=bitI z k:=by rw [bit_run z k z0 z7];rfl
    generalize hxt:(tests.getD pos []).getD kk 0=xt at htz;have HXT:=hiD hxt;generalize hp:(termsS N false (tests.getD pos []) res next gs k kk)=p at LS OW hln1 hln2 HTS;have HP:=hiD hp;obtain ⟨pg,pt⟩:=p;dsimp only at hln1 hln2;have LS':Hid (LSt wr B b N pg cs):=LS.out;have OW':Hid (wr.ownsRow w1.heap.size 3 1 u8 pt.length (ints pt)):=OW.out
    have HTS':Hid ((termsS N false (tests.getD pos []) res next gs k (kk+1))=if bitI z k=true then (pg,pt ++ [xt]) else (pg,pt)):=by
     show _=_;rw [HTS.out,termStep,if_neg (by decide),HXT.out,HZ.out]
    generalize hq:pt.length=q at OW' hln2;have HQ:=hiD hq;clear LS OW HTS hzz hxt hp hq HTR2 hRT HXr;generalize bitI z k=bz at hbit HTS'
    cases bz
    ·have HT0:Hid ((termsS N false (tests.getD pos []) res next gs k (kk+1))=(pg,pt)):=by show _=_;have:=HTS'.out;simpa using this
     clear HTS';go_wp2;go_roundg (S - (kk+1))
     case measure=>omega
     case rel=>
      refine ⟨kk+1,by omega,by omega,by go_num,FF.out,(show LSt _ _ _ _ _ _ by rw [HT0.out];exact LS'.out),?_⟩;show World.ownsRow _ _ _ _ _ _ _;rw [HT0.out,HQ.out];exact OW'.out
    ·have hls:=LS'.out.blk;have HT0:Hid ((termsS N false (tests.getD pos []) res next gs k (kk+1))=(pg,pt ++ [xt])):=by show _=_;have:=HTS'.out;simpa using this
     clear HTS'
     go_wp2_with (at_builtin;refine wpList_app rfl (.tmp 65) (.tmp 70) 22 rfl w1.heap.size 3 (.int .i64 0) 1 8 Tryz.underlying22 int_infoL rfl (by decide) (by decide) u8 (q) (ints pt) rfl ?own (wr.heap.size+1) (some ⟨wr.heap.size,0,none⟩) 1 1 [.int .i64 xt] rfl ?rd ?one ?hb ?hbase ?_)
     case own=>exact (OW'.out).alloc _
     case rd=>exact Rd.lit wr #[.int .i64 xt] 3 (sz:=1) (m:=1) rfl
     case one=>first | (intro u hu;simp at hu;subst hu;rfl) | rfl
     case hb=>omega
     case hbase=>first | (simp;omega) | omega
     intro v' w' hown' hgrow' hat';have FF2:Hid (LFrm B w1 w'):=Frm.grownNew (FF.out.alloc hBr.out _) hgrow' (fun k hk=>(OW'.out.lt k hk).1) (Nat.le_trans HUS.out hw01.out);have LS2:Hid (LSt w' B b N pg cs):=(LS'.out.alloc _).grownT (OW'.out.alloc _) hgrow' (by decide) (by decide)
     have OW2:Hid (w'.ownsRow w1.heap.size 3 1 v' (q+1) (ints (pt ++ [xt]))):=by
      show w'.ownsRow _ _ _ _ _ _;rw [iint_snoc];exact hown'
     clear hown' hgrow' hat' hbit;go_wp2;go_roundg (S - (kk+1))
     case measure=>omega
     case rel=>
      refine ⟨kk+1,by omega,by omega,by go_num,FF2.out,(show LSt _ _ _ _ _ _ by rw [HT0.out];exact LS2.out),?_⟩;show World.ownsRow _ _ _ _ _ _ _;rw [HT0.out,List.length_append,List.length_singleton,HQ.out];exact OW2.out
   ·have hltz:¬ (kk:Int) < (S:Int):=by omega
    obtain rfl:kk=S:=by omega
    generalize hp:(termsS N false (tests.getD pos []) res next gs k kk)=p at LS OW hln1 hln2;have HP:=hiD hp;have HRS:Hid (resS N false (tests.getD pos []) res next kk gs k=orS N p):=by show _=_;rw [resS,hp]
    obtain ⟨pg,pt⟩:=p;dsimp only at hln1 hln2;have LS':Hid (LSt wr B b N pg cs):=LS.out;have OW':Hid (wr.ownsRow w1.heap.size 3 1 u8 pt.length (ints pt)):=OW.out;generalize hq:pt.length=q at OW' hln2;have HQ:=hiD hq;clear LS OW hp;obtain ⟨PA,pc,rfl,_⟩:=Rd.own OW'.out;by_cases hq0:q=0
    ·have HO:Hid (orS N (pg,pt)=(pg ++ [⟨0,0,0⟩],wireF N pg)):=by show _=_;rw [orS,if_pos (by dsimp only;omega)]
     have hqz:((q:Int) == 0)=true:=by simpa using hq0
     clear hq0 hq;go_wp2_with fail;refine (lgate_any B b N pg cs 0 0 0 _ LS'.out hN (by omega)).mono ?_;rintro e w2 ⟨rfl,hl2,hf2⟩;have LS2:=hiD hl2;have FF2:Hid (LFrm B w w2):=Frm.trans HF01.out (Frm.trans FF.out hf2);clear hl2 hf2;go_wp2;go_ret;rw [HDU.out,HRS.out,HO.out];exact ⟨rfl,LS2.out,FF2.out⟩
    ·have HO:Hid (orS N (pg,pt)=allS N 4 pg pt):=by show _=_;rw [orS,if_neg (by dsimp only;omega)]
     have hqz:((q:Int) == 0)=false:=by simpa using hq0
     clear hq;go_wp2_with fail;refine (lall_any B b N w1.heap.size q pg cs 4 (.slice PA q pc) pt _ LS'.out hN (by omega) OW'.out (by omega) (by omega)).mono ?_;rintro e w2 ⟨rfl,hl2,hf2⟩;have LS2:=hiD hl2;have FF2:Hid (LFrm B w w2):=Frm.trans HF01.out (Frm.trans FF.out hf2);clear hl2 hf2;go_wp2;go_ret;rw [HDU.out,HRS.out,HO.out];exact ⟨rfl,LS2.out,FF2.out⟩
end Go.Proofs.YtbijfnbelkbofaaGreatDoor
