/-
 A part.
-/
import Derived.Test.YtiemhbogbaamlaaYF15
import Derived.Test.YtiemhbogbaamlaaYF7
import Derived.Test.YtiemhbogbaamlaaYF4
import Derived.BigRegion
set_option linter.unusedSimpArgs false
set_option linter.unusedVariables false
namespace Go.Proofs.Ytiemhbogbaamlaa
open Go.RowKit
theorem gate_infoL:(Try.prog.info? 77).map (fun i=>(i.zero,i.size,i.bytes))=some (some (.agg #[.int .i64 0,.int .i64 0,.int .i64 0]),3,24):=by kernel_rfl
theorem int_infoL:(Try.prog.info? 3).map (fun i=>(i.zero,i.size,i.bytes))=some (some (.int .i64 0),1,8):=by kernel_rfl
def LSt (w:World) (B b N:Nat) (gs:List Gt) (cs:List Value):Prop:=
 ∃ gv:Value,Row w b 91 (.int .i64 N :: gv :: cs)∧w.ownsRow B 77 3 gv gs.length (gatesCells gs)∧B≤b
abbrev LFrm (B:Nat) (w w':World):Prop:=Frm B 91 77 w w'
theorem LSt.blk {w:World} {B b N:Nat} {gs:List Gt} {cs:List Value} (h:LSt w B b N gs cs):b < w.heap.size∧B≤b:=by
 obtain ⟨gv,h1,_,h3⟩:=h
 exact ⟨h1.lt,h3⟩
theorem LSt.cs {w:World} {B b N:Nat} {gs:List Gt} {cs:List Value} (h:LSt w B b N gs cs) (i:Nat):w.cell? ⟨b,i+2,none⟩=cs[i]?:=by
 obtain ⟨gv,h1,_,h3⟩:=h
 exact (h1.cell (i+2)).trans (by simp)
theorem LSt.keep {w w':World} {B b N:Nat} {gs:List Gt} {cs:List Value} (h:LSt w B b N gs cs) (hb:∀ k,k < w.heap.size→w'.heap[k]?=w.heap[k]?):LSt w' B b N gs cs:=by
 obtain ⟨gv,h1,h2,h3⟩:=h
 refine ⟨gv,(hb b h1.lt).trans h1,⟨h2.1,h2.2.imp id (fun ⟨g,cap,cur,a,b',c,d⟩=>⟨g,cap,cur,a,b',(hb g (heap_lt c)).trans c,d⟩)⟩,h3⟩
theorem LSt.below {w w':World} {B b N:Nat} {gs:List Gt} {cs:List Value} (h:LSt w B b N gs cs) (hb:Below w.heap.size w w'):LSt w' B b N gs cs:=h.keep hb.block
theorem LSt.alloc {w:World} {B b N:Nat} {gs:List Gt} {cs:List Value} (h:LSt w B b N gs cs) (o:Obj):LSt (w.alloc o) B b N gs cs:=h.keep (fun k hk=>Below.heap_alloc w o k hk)
theorem LSt.grown {w w':World} {B b N:Nat} {gs:List Gt} {cs:List Value} {row:Option Nat} (h:LSt w B b N gs cs) (hg:w.grownBy w' row) (hr:∀ k,row=some k→w.heap.size≤k):LSt w' B b N gs cs:=
 h.keep (fun k hk=>hg.block k hk (fun e=>by have:=hr k e.symm;omega))
theorem LSt.grownT {w w':World} {B b N:Nat} {gs:List Gt} {cs:List Value} {base sz n:Nat} {e:TypeId} {v:Value} {xs:List Value} (h:LSt w B b N gs cs) (ho:w.ownsRow base e sz v n xs) (hg:w.grownBy w' v.ownBlock) (h1:e≠91) (h2:e≠77):LSt w' B b N gs cs:=by
 obtain ⟨gv,r1,r2,r3⟩:=h
 have key:∀ k cs' T,T≠e→w.heap[k]?=some (Obj.cells cs' T (0,0))→w'.heap[k]?=some (Obj.cells cs' T (0,0)):=fun k cs' T ht hh=>by
  rw [hg.block k (heap_lt hh) (fun he=>by
   obtain ⟨cur,hc,_⟩:=own_block_type ho he.symm
   rw [hc] at hh
   injection hh with hh
   injection hh with _ h4
   exact ht h4.symm)]
  exact hh
 exact ⟨gv,key b _ _ h1.symm r1,⟨r2.1,r2.2.imp id (fun ⟨g,cap,cur,a,b',c,d⟩=>⟨g,cap,cur,a,b',key g cur _ h2.symm c,d⟩)⟩,r3⟩
theorem LSt.set {w:World} {B b N:Nat} {gs:List Gt} {cs:List Value} (h:LSt w B b N gs cs) (i:Nat) (u:Value):LSt (w.setCell ⟨b,i+2,none⟩ u) B b N gs (cs.set i u):=by
 obtain ⟨gv,h1,h2,h3⟩:=h
 exact ⟨gv,h1.set (i+2) u,own_set (p:=⟨b,i+2,none⟩) h2 h1 (by decide) u,h3⟩
set_option maxRecDepth 100000 in
set_option maxHeartbeats 1000000 in
theorem lgate_any (B b N:Nat) (gs:List Gt) (cs:List Value) (op x y:Int) (w:World) (h:LSt w B b N gs cs) (hN:N≤100) (hl:gs.length≤30000):
 Calls Try.prog 51 #[.pointer (some ⟨b,0,none⟩),.int .i64 op,.int .i64 x,.int .i64 y] w fun e w'=>e=.returned (.int .i64 (wireF N gs))∧LSt w' B b N (gs ++ [⟨op,x,y⟩]) cs∧LFrm B w w':=by
 obtain ⟨gv,hr,ho,hB⟩:=h
 have RL:=hiD hr
 have OG:=hiD ho
 have c0:=RL.out.cell 0
 have c1:=RL.out.cell 1
 have hbl:=RL.out.lt
 have f1:=RL.out.frozen 1
 simp only [List.getElem?_cons_zero,List.getElem?_cons_succ] at c0 c1
 generalize hn:gs.length=n at hl OG
 have HL:=hiD hn
 have hW:Hid (wireF N gs=(N:Int)+n):=by show _=_;rw [wireF,hn]
 clear hr ho hn
 go_enter Try.func51,Try.ntmps51
 go_wp2_with (at_builtin;refine wpList_app rfl (.tmp 14) (.tmp 19) 34 rfl B 77 (.agg #[.int .i64 0,.int .i64 0,.int .i64 0]) 3 24 Try.underlying34 gate_infoL rfl (by decide) (by decide) gv n (gatesCells gs) rfl ?own (w.heap.size+1) (some ⟨w.heap.size,0,none⟩) 1 1 [.int .i64 op,.int .i64 x,.int .i64 y] rfl ?rd ?one ?hb ?hbase ?_)
 case own=>exact OG.out.alloc _
 case rd=>exact Rd.lit w #[.int .i64 op,.int .i64 x,.int .i64 y] 77 (sz:=3) (m:=1) rfl
 case one=>intro u hu;simp at hu;rcases hu with rfl | rfl | rfl <;> rfl
 case hb=>omega
 case hbase=>simp;omega
 intro v' w' hown' hgrow' hat'
 have F1:Hid (LFrm B w w'):=Frm.grown2 ((Frm.refl B _ _ w).alloc (by omega) _) (OG.out.alloc _) (Nat.le_refl _) (by simp;omega) hgrow'
 have RL':Hid (Row w' b 91 (.int .i64 N :: gv :: cs)):=(RL.out.alloc _).grown hgrow' (fun e=>(own_ne_row OG.out RL.out (by decide)) e.symm)
 have OG':Hid (w'.ownsRow B 77 3 v' (n+1) (gatesCells gs ++ [.int .i64 op,.int .i64 x,.int .i64 y])):=hown'
 clear hown' hgrow' hat' c0 c1 f1 hbl
 obtain ⟨A',c',rfl,_⟩:=Rd.own OG'.out
 have c0:=RL'.out.cell 0
 have c1:=RL'.out.cell 1
 have hbl:=RL'.out.lt
 have f1:=RL'.out.frozen 1
 simp only [List.getElem?_cons_zero,List.getElem?_cons_succ] at c0 c1
 have hw1:IntKind.i64.wrap ((N:Int)+(n+1))=(N:Int)+(n+1):=IntWalk.i64_in _ (by omega)
 have hw2:IntKind.i64.wrap ((N:Int)+(n+1) - 1)=(N:Int)+(n+1) - 1:=IntWalk.i64_in _ (by omega)
 go_wp2_with fail
 go_quiet (fail)
 go_wp2
 go_ret
 refine ⟨ret_i64 (by rw [hW.out];omega),⟨.slice A' (n+1) c',?_,?_,hB⟩,?_⟩
 ·exact (RL'.out.set 1 (.slice A' (n+1) c')).drewN _
 ·have h1:=own_set (p:=⟨b,1,none⟩) OG'.out RL'.out (by decide) (.slice A' (n+1) c')
  rw [gatesCells_append,gatesCells_one,List.length_append,List.length_singleton,HL.out]
  exact h1
 ·exact (Frm.set (p:=⟨b,1,none⟩) F1.out RL'.out hB _).drewN _
def notsW (N:Nat):List Int:=(List.range N).map (fun (j:Nat)=>(N:Int)+j)
theorem notsW_get (N k:Nat) (h:k < N):(notsW N).getD k 0=(N:Int)+k:=by
 simp [notsW,List.getD_eq_getElem?_getD,List.getElem?_map,List.getElem?_range h]
theorem notsW_upto (N k:Nat):((List.range (k+1)).map (fun (j:Nat)=>(N:Int)+j))=((List.range k).map (fun (j:Nat)=>(N:Int)+j)) ++ [(N:Int)+k]:=by simp [List.range_succ]
set_option maxHeartbeats 1000000 in
theorem llit_any (b N bb i k nc:Nat) (NA:Option Addr) (one:Bool) (q:Int) (w:World) (h6:w.cell? ⟨b,6,none⟩=some (.int .i64 bb)) (h7:w.cell? ⟨b,7,none⟩=some (.slice NA N nc)) (hR:Rd w w.heap.size 1 NA N (ints (notsW N)))
 (hlt:i * bb+k < N) (hN:N≤100) (hq:q=if one=true then 1 else 0):
 Calls Try.prog 79 #[.pointer (some ⟨b,0,none⟩),.int .i64 i,.int .i64 k,.int .i64 q] w fun e w'=>e=.returned (.int .i64 (litF N (i * bb+k) one))∧w=w':=by
 have HR:=hiD hR
 clear hR
 generalize hm:i * bb=m at hlt
 have hmi:(i:Int) * (bb:Int)=(m:Int):=by rw [← hm];simp
 have hmk:(m:Int)+(k:Int)=((m+k:Nat):Int):=by omega
 clear hm
 cases one
 ·obtain rfl:q=0:=by simpa using hq
  obtain ⟨ad,rfl,hb',hz⟩:=HR.out.int hlt
  rw [notsW_get N _ hlt] at hz
  have hz2:(0:Int)≤((m+k:Nat):Int):=by omega
  have hz3:((m+k:Nat):Int) < (N:Int):=by omega
  generalize m+k=j at hz hmk hlt hz2 hz3
  clear hq
  go_enter Try.func79,Try.ntmps79
  go_wp2
  go_ret
  exact ⟨ret_i64 rfl,rfl⟩
 ·obtain rfl:q=1:=by simpa using hq
  have hz2:(0:Int)≤((m+k:Nat):Int):=by omega
  have hz3:((m+k:Nat):Int) < (N:Int):=by omega
  generalize m+k=j at hmk hlt hz2 hz3
  clear hq
  go_enter Try.func79,Try.ntmps79
  go_wp2
  go_ret
  exact ⟨ret_i64 rfl,rfl⟩
set_option maxRecDepth 100000 in
set_option maxHeartbeats 2000000 in
theorem lall_any (B b N Bw n:Nat) (gs:List Gt) (cs:List Value) (op:Int) (wv:Value) (ws:List Int) (w:World) (h:LSt w B b N gs cs) (hN:N≤100) (hl:gs.length≤20000)
 (hw:w.ownsRow Bw 3 1 wv n (ints ws)) (h1:1≤n) (hn:n≤100):
 Calls Try.prog 80 #[.pointer (some ⟨b,0,none⟩),.int .i64 op,wv] w fun e w'=>e=.returned (.int .i64 (allS N op gs ws).2)∧LSt w' B b N (allS N op gs ws).1 cs∧LFrm B w w':=by
 have H:=hiD h
 have OW:=hiD hw
 have HL:Hid (ws.length=n):=by have:=hw.1;rw [ints_length,Nat.mul_one] at this;exact this
 obtain ⟨g,cap,rfl,hgB,hgl⟩:=hw.form (by omega)
 have hcap:n≤cap∧cap≤maxLen:=by
  rcases hw.2 with ⟨hh,_⟩ | ⟨g',cap',cur,hh,_,_,h4,h5,_⟩
  ·cases hh
  ·injection hh with hh1 hh2 hh3
   subst hh3
   exact ⟨h4,h5⟩
 clear h hw
 obtain ⟨m,rfl⟩:∃ m,n=m+1:=⟨n - 1,by omega⟩
 have key:∀ (w1:World),LFrm B w w1→∀ k,k < m+1→w1.cell? ⟨g,k,none⟩=some (.int .i64 (ws.getD k 0)):=fun w1 hf k hk=>by
  have:=(Frm.own hf OW.out (by decide) (by decide)).cellAt k (by omega)
  rw [this]
  exact ints_get _ _ (by rw [HL.out];omega)
 have KEY:=hiD key
 have c0:=KEY.out w (Frm.refl _ _ _ _) 0 (by omega)
 generalize hz0:ws.getD 0 0=z0 at c0
 have HZ0:=hiD hz0
 obtain ⟨hcap1,hcap2⟩:=hcap
 unfold maxLen at hcap2
 clear key hz0
 by_cases hm:m=0
 ·subst hm
  have HE:Hid (allS N op gs ws=(gs,z0)):=by
   show _=_
   rw [← allS_all,HL.out,allS_one,HZ0.out]
  by_cases hc1:cap=1
  ·subst hc1
   go_enter Try.func80,Try.ntmps80
   go_wp2
   go_loopg [7,9,16] 0 (fun gg s7 _ s16 wr=>s16=.int .i64 0∧s7=.int .i64 z0∧wr=w)
   case atStart=>exact ⟨rfl,rfl,rfl⟩
   case round=>
    obtain ⟨rfl,rfl,rfl⟩:=hrel
    go_wp2
    go_ret
    refine ⟨ret_i64 (by rw [HE.out]),?_,Frm.refl _ _ _ _⟩
    rw [HE.out]
    exact H.out
  ·have hc2:1 < cap:=by omega
   go_enter Try.func80,Try.ntmps80
   go_wp2
   go_loopg [7,9,16] 0 (fun gg s7 _ s16 wr=>s16=.int .i64 0∧s7=.int .i64 z0∧wr=w)
   case atStart=>exact ⟨rfl,rfl,rfl⟩
   case round=>
    obtain ⟨rfl,rfl,rfl⟩:=hrel
    go_wp2
    go_ret
    refine ⟨ret_i64 (by rw [HE.out]),?_,Frm.refl _ _ _ _⟩
    rw [HE.out]
    exact H.out
 ·have hc1:¬ cap=1:=by omega
  have hc2:1 < cap:=by omega
  go_enter Try.func80,Try.ntmps80
  go_wp2
  clear c0 hc1 hc2
  go_loopg [7,9,16] m (fun gg s7 _ s16 wr=>∃ (kk:Nat) (z:Int),kk≤m∧m - kk≤gg∧s16=.int .i64 kk∧s7=.int .i64 z∧Aside (z=(allS N op gs (ws.take (kk+1))).2)∧Aside (LSt wr B b N (allS N op gs (ws.take (kk+1))).1 cs)∧Aside (LFrm B w wr))
  case atStart=>exact ⟨0,z0,Nat.zero_le _,by omega,rfl,rfl,(show _=_ by rw [allS_one,HZ0.out]),(show LSt _ _ _ _ _ _ by rw [allS_one];exact H.out),Frm.refl _ _ _ _⟩
  case round=>
   obtain ⟨kk,z,hkk,hgg,rfl,rfl,HZ,LS,FF⟩:=hrel
   by_cases hlt:kk < m
   ·have hltz:(kk:Int) < (m:Int):=by omega
    have c1:=KEY.out wr FF.out (1+kk) (by omega)
    have c2:=c1
    rw [Nat.add_comm] at c2
    have hlen:=allS_len N op gs (ws.take (kk+1))
    rw [List.length_take,HL.out,Nat.min_eq_left (by omega)] at hlen
    have HS:Hid (allS N op gs (ws.take (kk+1+1))=gateS N op (allS N op gs (ws.take (kk+1))) (ws.getD (1+kk) 0)):=by
     show _=_
     rw [allS_take N op gs ws (kk+1) (by omega) (by rw [HL.out];omega),Nat.add_comm 1 kk]
    generalize ws.getD (1+kk) 0=x at c1 c2 HS
    generalize allS N op gs (ws.take (kk+1))=p at HZ LS hlen HS
    obtain ⟨pg,pw⟩:=p
    have HZ':Hid (z=pw):=HZ.out
    have LS':Hid (LSt wr B b N pg cs):=LS.out
    dsimp only at hlen
    clear HZ LS
    go_wp2_with fail
    refine (lgate_any B b N pg cs op z x _ LS'.out hN (by omega)).mono ?_
    rintro e w2 ⟨rfl,hl2,hf2⟩
    have LS2:=hiD hl2
    have FF2:Hid (LFrm B w w2):=Frm.trans FF.out hf2
    clear hl2 hf2
    go_wp2
    go_roundg (m - (kk+1))
    case measure=>omega
    case rel=>
     refine ⟨kk+1,wireF N pg,by omega,by omega,by go_num,rfl,(show _=_ by rw [HS.out];rfl),(show LSt _ _ _ _ _ _ by rw [HS.out];have:=LS2.out;rw [HZ'.out] at this;exact this),FF2.out⟩
   ·have hltz:¬ (kk:Int) < (m:Int):=by omega
    obtain rfl:kk=m:=by omega
    have HA:Hid (allS N op gs (ws.take (kk+1))=allS N op gs ws):=by show _=_;rw [← HL.out,allS_all]
    go_wp2
    go_ret
    refine ⟨ret_i64 (by rw [HZ.out,HA.out]),?_,FF.out⟩
    rw [← HA.out]
    exact LS.out
end Go.Proofs.Ytiemhbogbaamlaa
