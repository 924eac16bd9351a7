/-
  Lemmas for the law TopCircuits.
-/
import Derived.RangeFuncNested
import Derived.RangeFuncBound
import Derived.RangeFuncCalls
import Derived.RangeFuncLeaves
import Derived.Test.YtbijfnbelkbofaaGreatDoorJZ45
import Derived.Shelf.Abstract
import Derived.Shelf.RegionOpen
import Derived.WalkKit
import Derived.OwnWalkIn
import Derived.TacticsInMore
import Derived.LoopNIn
import Derived.LoopIn
import Derived.Test.YtbijfnbelkbofaaGreatDoorJZ1
import Derived.Test.YtbijfnbelkbofaaGreatDoorJZ17
set_option linter.unusedSimpArgs false
set_option linter.unusedVariables false
namespace Go.Proofs.YtbijfnbelkbofaaGreatDoor
open Go.RowKit
def SeqPx {α:Type} (P:Program) (gf:Nat) (lb:Array Value) (encs:α→Array Value) (Kp:World→World→Prop) (Px:α→World→Prop) (w:World):Prop:=
 ∀ (l:Nat) (J Jx:World→Prop) (W:World),w.heap.size≤l→l < W.heap.size→Below w.heap.size w W→(∀ A B,J A→Below A.heap.size A B→J B)→(∀ A B,Jx A→Below A.heap.size A B→Jx B) →
  (∀ x W1,J W1→Px x W1→YieldAt Fence.wide 1 P l (encs x) W1 fun e W'=>(e=.returned (.bool true)∧J W'∧Kp W1 W')∨(e=.returned (.bool false)∧Jx W')) →
  J W→CallsIn Fence.wide 2 P gf (#[.func (.yield l) #[] #[]] ++ lb) W fun e W'=>(∃ v,e=.returned v)∧(J W'∨Jx W')
def StepPx (B:Nat) (X Y:World):Prop:=∃ row,X.grownBy Y row∧∀ r,row=some r→B≤r∧∃ o:Obj,X.heap[r]?=some o∧o.isCells=false
def postPx (B:Nat) (Kp:World→World→Prop) (I:World→Prop) (Ix:Code→World→Prop) (W:World):Exit→Act→World→Prop
 | .normal,_,W'=>KeepsFrom B W W'∧Kp W W'∧I W'
 | .ret,_,W'=>KeepsFrom B W W'∧Ix .ret W'
 | .exit id,_,W'=>KeepsFrom B W W'∧Ix (.exit id) W'
 | .goto t,_,W'=>KeepsFrom B W W'∧Ix (.goto t) W'
 | .panic _,_,_=>False
 | .outgrown,_,_=>False
theorem StepPx.putObj {B:Nat} {W:World} {l:Nat} {o:Obj} (o':Obj) (hB:B≤l) (hl:W.heap[l]?=some o) (ho:o.isCells=false):StepPx B W (W.putObj l o'):=
 ⟨some l,grownBy_putObj' W l o',fun r e=>by cases e;exact ⟨hB,o,hl,ho⟩⟩
theorem StepPx.alloc (B:Nat) (W:World) (o:Obj):StepPx B W (W.alloc o):=⟨none,World.grownBy_alloc W o none,fun r e=>by cases e⟩
theorem StepPx.below {B:Nat} {W W':World} (h:Below W.heap.size W W'):StepPx B W W':=⟨none,⟨h.os,h.tape,h.output,h.size,fun i hi _=>h.block i hi⟩,fun r e=>by cases e⟩
theorem wpIn_rangePx {α:Type} {P:Program} {g:Operand} {ps:Array Tmp} {assign body:Code} {Q:Exit→Act→World→Prop} {a:Act} {w:World}
 {gf:Nat} {lb:Array Value} (hg:a.eval g=.func (.func gf) #[] lb) (eg:∀ args w,(callFunc gf args).run P w=.ok (.enter gf args) w)
 {encs:α→Array Value} (hps:∀ x,(encs x).size=ps.size) {Kp:World→World→Prop} {Px:α→World→Prop} (hseq:SeqPx P gf lb encs Kp Px w)
 (hKt:∀ {A B C:World},Kp A B→Kp B C→Kp A C) (hKb:∀ (W:World) (l:Nat) (o o':Obj),w.heap.size≤l→W.heap[l]?=some o→o.isCells=false→Kp W (W.putObj l o'))
 (I:World→Prop) (Ix:Code→World→Prop) (hI:∀ A B,I A→StepPx w.heap.size A B→I B) (hIx:∀ c A B,Ix c A→StepPx w.heap.size A B→Ix c B) (h0:I w)
 (hPx:∀ x A B,Px x A→StepPx w.heap.size A B→Px x B) (a₁:α→Act)
 (hassign:∀ (l:Nat) (x:α) (W:World) (K:Act→World→Prop),K (a₁ x) W →
  assign.wpIn (Fence.wide.inRound l) 1 P (Exit.then K (fun _ _ _=>False)) { tmps:=(ps.zip (encs x)).foldl (fun t (p,v)=>t.setIfInBounds p v) a.tmps,defers:=[] } W)
 (hbody:∀ (l:Nat) (x:α) (W:World),I W→Px x W→body.wpIn (Fence.wide.inRound l) 1 P (postPx w.heap.size Kp I Ix W) (a₁ x) W)
 (hdone:∀ (D:Nat) (W:World),w.heap.size≤D→I W→W.heap[D]?=some (.deferred (some []))→Q .normal { a with defers:={ target:=.collected D,args:=#[] } :: a.defers } W)
 (hstop:∀ (D:Nat) (c:Code) (W:World),w.heap.size≤D→Ix c W→W.heap[D]?=some (.deferred (some []))→c.wpIn Fence.wide 3 P Q { a with defers:={ target:=.collected D,args:=#[] } :: a.defers } W):
 (Code.rangeFunc g ps assign body).wpIn Fence.wide 3 P Q a w:=by
 refine wpIn_rangeFunc (fun fn hfn=>?_)
 obtain ⟨rec,hrec⟩:∃ rec:LoopState→Option Code→Loop,rec=fun st pe=>{ state:=st,pending:=pe,fn,tmps:=a.tmps,params:=ps,assign,body,defers:=w.heap.size }:=⟨_,rfl⟩
 have hst:∀ st pe,(rec st pe).state=st:=by intro st pe;rw [hrec]
 obtain ⟨W1,hW1⟩:∃ W1,(w.alloc (.deferred (some []))).alloc (.loop (rec .ready none))=W1:=⟨_,rfl⟩
 have hsz1:W1.heap.size=w.heap.size+2:=by rw [← hW1];simp
 have hL1:W1.heap[w.heap.size+1]?=some (.loop (rec .ready none)):=by
  have h:=World.alloc_heap_new (w.alloc (.deferred (some []))) (.loop (rec .ready none));rw [World.size_alloc,hW1] at h;exact h
 have hK1:W1.heap[w.heap.size]?=some (.deferred (some [])):=by
  rw [← hW1];exact (Below.heap_alloc _ _ _ (by simp)).trans (World.alloc_heap_new w _)
 have hI1:I W1:=by rw [← hW1];exact hI _ _ (hI _ _ h0 (.alloc _ _ _)) (.alloc _ _ _)
 have hb1:Below w.heap.size w W1:=by rw [← hW1];exact ((Below.refl _ w).alloc (Nat.le_refl _) _).alloc (by simp) _
 refine ⟨w.heap.size+1,[{ target:=.collected w.heap.size,args:=#[] }],W1,{ target:=.fn (.func gf) lb,args:=#[.func (.yield (w.heap.size+1)) #[] #[]] },W1,gf,
  #[.func (.yield (w.heap.size+1)) #[] #[]] ++ lb,W1,?_,?_,fun _ _=>trivial,?_,fun _=>by omega,?_⟩
 ·rw [← hW1,hrec];exact run_enterLoop_outer _ _ _ _ _
 ·simp only [resolve,hg]
  simp [go_sem]
 ·simp [invoke,go_sem,eg]
 have hold:∀ {A B:World} {k:Nat} {o:Obj},Below A.heap.size A B→A.heap[k]?=some o→B.heap[k]?=some o:=fun hb hk=>(hb.block _ (Array.getElem?_eq_some_iff.1 hk).1).trans hk
 refine (hseq (w.heap.size+1)
  (fun W=>I W∧W.heap[w.heap.size+1]?=some (.loop (rec .ready none))∧W.heap[w.heap.size]?=some (.deferred (some [])))
  (fun W=>∃ c,Ix c W∧W.heap[w.heap.size+1]?=some (.loop (rec .done (some c)))∧W.heap[w.heap.size]?=some (.deferred (some [])))
  W1 (by omega) (by omega) hb1 (fun A B hs hb=>⟨hI A B hs.1 (.below hb),hold hb hs.2.1,hold hb hs.2.2⟩) (fun A B hs hb=>let ⟨c,h1,h2,h3⟩:=hs;⟨c,hIx c A B h1 (.below hb),hold hb h2,hold hb h3⟩) ?_ ⟨hI1,hL1,hK1⟩).mono ?_
 ·-- one round
  rintro x W ⟨hi,hl,hk⟩ hpx;have hy:=run_yield (P:=P) (args:=encs x) hl (by rw [hrec];exact hps x);rw [hrec] at hy;have hlt:w.heap.size+1 < W.heap.size:=(Array.getElem?_eq_some_iff.1 hl).1;refine ⟨fn,_,assign,body,hy,?_⟩;refine roundIn_of_wpIn trivial (hassign _ x W _ ?_);clear hy;refine ⟨_,run_beginRound hl (hst _ _),?_⟩
  obtain ⟨rb,hrb⟩:∃ rb,rb={ rec .ready none with state:=LoopState.busy }:=⟨_,rfl⟩
  have hr3:∀ (st:LoopState) (pe:Option Code),({ rb with state:=st,pending:=pe }:Loop)=rec st pe:=by intro st pe;rw [hrb,hrec]
  rw [← hrb];have hl2:(W.putObj (w.heap.size+1) (.loop rb)).heap[w.heap.size+1]?=some (.loop rb):=World.putObj_heap_same hlt;have hk2:(W.putObj (w.heap.size+1) (.loop rb)).heap[w.heap.size]?=some (.deferred (some [])):=(World.putObj_heap_other (by omega)).trans hk;have hs2:StepPx w.heap.size W (W.putObj (w.heap.size+1) (.loop rb)):=.putObj _ (by omega) hl rfl;have hw2:Kp W (W.putObj (w.heap.size+1) (.loop rb)):=hKb _ _ _ _ (by omega) hl rfl;refine wpIn_mono (hbody _ x _ (hI _ _ hi hs2) (hPx _ _ _ hpx hs2)) ?_
  have fin:∀ (jump:Option Code) (W3:World),KeepsFrom w.heap.size (W.putObj (w.heap.size+1) (.loop rb)) W3 →
   ∃ W4,(Instr.endRound (w.heap.size+1) jump).run P W3=.ok (.bool jump.isNone) W4∧StepPx w.heap.size W3 W4∧Kp W3 W4∧W4.heap[w.heap.size+1]?=some (.loop (rec (if jump.isNone then .ready else .done) jump))∧W4.heap[w.heap.size]?=some (.deferred (some [])):=fun jump W3 hk3=>by
   have hl3:=hk3.same _ _ (by omega) hl2 rfl;have hD3:=hk3.same _ _ (Nat.le_refl _) hk2 rfl;refine ⟨_,run_endRound (P:=P) jump hl3,.putObj _ (by omega) hl3 rfl,hKb _ _ _ _ (by omega) hl3 rfl,?_,(World.putObj_heap_other (by omega)).trans hD3⟩;rw [World.putObj_heap_same (Array.getElem?_eq_some_iff.1 hl3).1,hr3]
  rintro e a3 W3 hp
  cases e with
  | normal=>
   obtain ⟨hk3,hkp3,hi3⟩:=hp;obtain ⟨W4,hr,hs,hc,hl4,hk4⟩:=fin none W3 hk3;exact ⟨_,_,hr,.inl ⟨rfl,⟨hI _ _ hi3 hs,hl4,hk4⟩,hKt (hKt hw2 hkp3) hc⟩⟩
  | ret=>
   obtain ⟨hk3,hi3⟩:=hp;obtain ⟨W4,hr,hs,hc,hl4,hk4⟩:=fin (some .ret) W3 hk3;exact ⟨_,_,hr,.inr ⟨rfl,.ret,hIx _ _ _ hi3 hs,hl4,hk4⟩⟩
  | exit id=>
   obtain ⟨hk3,hi3⟩:=hp;obtain ⟨W4,hr,hs,hc,hl4,hk4⟩:=fin (some (.exit id)) W3 hk3;exact ⟨_,_,hr,.inr ⟨rfl,.exit id,hIx _ _ _ hi3 hs,hl4,hk4⟩⟩
  | goto t=>
   obtain ⟨hk3,hi3⟩:=hp;obtain ⟨W4,hr,hs,hc,hl4,hk4⟩:=fin (some (.goto t)) W3 hk3;exact ⟨_,_,hr,.inr ⟨rfl,.goto t,hIx _ _ _ hi3 hs,hl4,hk4⟩⟩
  | panic ch=>exact hp.elim
  | outgrown=>exact hp.elim
 ·-- behind the iterator
  rintro e W2 ⟨⟨v,rfl⟩,(⟨hi,hl,hk⟩ | ⟨c,hi,hl,hk⟩)⟩
  ·exact ⟨none,_,(by have h:=run_endLoop (P:=P) hl (by rw [hst];simp);rw [hrec] at h;exact h),hdone _ _ (Nat.le_refl _) (hI _ _ hi (.putObj _ (by omega) hl rfl)) ((World.putObj_heap_other (by omega)).trans hk)⟩
  ·exact ⟨some c,_,(by have h:=run_endLoop (P:=P) hl (by rw [hst];simp);rw [hrec] at h;exact h),hstop _ c _ (Nat.le_refl _) (hIx _ _ _ hi (.putObj _ (by omega) hl rfl)) ((World.putObj_heap_other (by omega)).trans hk)⟩
end Go.Proofs.YtbijfnbelkbofaaGreatDoor
namespace Go.Proofs.YtbijfnbelkbofaaGreatDoor
open Go.RowKit Go.Shelf
attribute [local go_sem] Oper.semAt_some
def encW (x:Int × Nat × List ByteArray):Array Value:=#[.int .i64 x.1,.slice (some ⟨x.2.1,0,none⟩) x.2.2.length x.2.2.length]
def PxW (x:Int × Nat × List ByteArray) (W:World):Prop:=Wd W x.2.1 x.2.2∧0 < x.2.2.length
def KpW (B:Nat) (W W':World):Prop:=Below B W W'∧∀ (k:Nat) (cs:Array Value) (fz:Nat × Nat),W.heap[k]?=some (Obj.cells cs 9 fz)→W'.heap[k]?=some (Obj.cells cs 9 fz)
theorem KpW.row {B:Nat} {W W':World} {g:Nat} {xs:List Value} (h:KpW B W W') (hr:Row W g 9 xs):Row W' g 9 xs:=h.2 g _ (0,0) hr
set_option maxRecDepth 100000 in
set_option maxHeartbeats 4000000 in
theorem lines_seq (wB:World) (G:GEnv wB) (s:ByteArray) (hs:s.size≤99999) (sb:Nat) (w:World) (hbel:Below wB.heap.size wB w) (rS:Row w sb 9 [.string s]):
 SeqPx Tryz.prog 111 #[.pointer (some ⟨sb,0,none⟩)] encW (KpW wB.heap.size) PxW w:=by
 intro l J Jx W hl hl2 hW hJ hJx hY h0;refine callsIn_of_wp Tryz.func111 rfl trivial ?_ rfl;simp only [Tryz.ntmps111,List.size_toArray,List.length_cons,List.length_nil,Nat.reduceAdd,Nat.reduceSub,Array.replicate_succ,Array.replicate_zero,List.push_toArray,List.append_toArray,List.nil_append,List.cons_append];have HG:=hiD G;have RSW:=rowCells rS hW;have BW:=hiD (hbel.trans (hW.mono hbel.size));have HY:=hiD hY;have HJ:=hiD hJ;have H0:=hiD h0;have c0:=RSW.cell 0;have cl:=RSW.lt;simp only [List.getElem?_cons_zero] at c0;clear G rS hbel hY hJ hJx h0 hW hl hl2 RSW;gi_wp2;refine ⟨trivial,(callsIn_wide.2 (split_any 10 s (by omega) W (HG.out.up BW.out))).mono ?_⟩;rintro e W1 ⟨ps,hpl,hps,rfl,hrow,hb⟩;have HR1:=hiD hrow;have J1:=hiD (HJ.out _ _ H0.out hb);have B1:=hiD (below_on2 BW.out (hb.mono (Nat.le_refl _)));have HPS:=hiD hps
 obtain ⟨n,hn⟩:∃ n,ps.length=n:=⟨_,rfl⟩
 rw [hn];have HN:=hiD hn
 have hn9:n≤100001:=by
  have h1:List.count 10 s.data.toList≤s.data.toList.length:=List.count_le_length;rw [ba_len] at h1;omega
 generalize W.heap.size=p0 at HR1;clear hpl hps hrow hb hn c0 cl H0;gi_wp2
 gi_loopw [3,4,5,9] (fun _ _ _ s9 wr=>∃ i:Nat,i≤n∧s9=.int .i64 (i:Int)∧Aside (J wr)∧Aside (Row wr p0 9 (ps.map Value.string))∧Aside (Below wB.heap.size wB wr)) (fun _ _ _ s9 _=>n - (intOf s9).toNat)
 case atStart=>exact ⟨0,Nat.zero_le _,rfl,J1.out,HR1.out,B1.out⟩
 case round=>
  obtain ⟨i,hi,rfl,hj,hr,hb⟩:=hrel;by_cases hlt:i < n
  ·have hltz:(i:Int) < (n:Int):=by omega
   have hil:i < ps.length:=by rw [HN.out];exact hlt
   have c0:=hr.out.cell i;rw [List.getElem?_map,List.getElem?_eq_getElem hil] at c0;have hxs:(ps[i]'hil).size≤s.size:=HPS.out _ (List.getElem_mem hil);have cl:=hr.out.lt;simp only [Option.map_some] at c0;revert c0 hxs;generalize ps[i]'hil=x;intro c0 hxs;clear hil;gi_wp2;refine ⟨trivial,(callsIn_wide.2 (cut_any x ⟨#[35]⟩ (by omega) wr (HG.out.up hb.out))).mono ?_⟩;rintro e W2 ⟨a3,t3,b3,rfl,⟨ha3,ht3⟩,hb2⟩;have J2:=hiD (HJ.out _ _ hj.out hb2);have R2:=hiD (rowCells hr.out hb2);have B2:=hiD (hb.out.trans (hb2.mono hb.out.size));clear hb2 c0 cl hj hr hb;gi_wp2;refine ⟨trivial,(callsIn_wide.2 (words_any a3 (by omega) W2)).mono ?_⟩;rintro e W3 ⟨ws,a,hwl,hws,rfl,ho,hb3⟩;have J3:=hiD (HJ.out _ _ J2.out hb3);have R3:=hiD (rowCells R2.out hb3);have B3:=hiD (B2.out.trans (hb3.mono B2.out.size));have HWS:=hiD hws;have HO:=hiD ho;clear hb3 J2 R2 B2 hws ho;by_cases hw0:ws.length=0
   ·have d1:decide ((0:Int) < (ws.length:Int))=false:=decide_eq_false (by omega);have d2:decide (0 < ws.length)=false:=decide_eq_false (by omega);revert HO d1 d2;generalize ws.length=m at *;intro HO d1 d2;clear hw0 hwl;gi_wp2;refine ⟨fun _ h=>(by cases h),?_⟩;gi_wp2;go_roundw
    case rel=>exact ⟨i+1,by omega,by go_num,J3.out,R3.out,B3.out⟩
    case measure=>simp [intOf];omega
   ·have d1:decide ((0:Int) < (ws.length:Int))=true:=decide_eq_true (by omega);have d2:decide (0 < ws.length)=true:=decide_eq_true (by omega)
    have hwd:Wd W3 a ws:=by
     obtain ⟨cur,h1,_⟩:=own_block_type HO.out (k:=a) rfl;refine ⟨by omega,fun x hx=>Nat.le_trans (HWS.out x hx) (by omega),⟨cur,(0,0),h1⟩,fun k hk=>?_⟩;have h2:=HO.out.cells (g:=a) rfl k (.string (ws.getD k ByteArray.empty)) (by rw [List.getElem?_map,List.getElem?_eq_getElem hk,List.getD_eq_getElem?_getD,List.getElem?_eq_getElem hk];rfl);rw [add_zero_off] at h2;exact h2
    obtain ⟨fn,tmps,assign,body,hy,hR⟩:=HY.out ((i:Int)+1,a,ws) W3 J3.out ⟨hwd,Nat.pos_of_ne_zero hw0⟩;dsimp only [encW] at hy;have HR:=hiD hR;clear hR hwd hw0 hwl HWS HO;revert hy d1 d2;generalize ws.length=m;intro hy d1 d2;gi_wp2;refine HR.out.mono ?_;rintro e W4 (⟨rfl,hj4,hk4⟩ | ⟨rfl,hjx⟩)
    ·have R4:=hiD (hk4.row R3.out);have B4:=hiD (B3.out.trans hk4.1);have J4:=hiD hj4;clear hj4 hk4 hy HR;gi_wp2;go_roundw
     case rel=>exact ⟨i+1,by omega,by go_num,J4.out,R4.out,B4.out⟩
     case measure=>simp [intOf];omega
    ·have JX:=hiD hjx;clear hjx hy HR;gi_wp2;refine bodyPost_ret (results_none rfl _ _ _) rfl ?_;exact ⟨⟨_,rfl⟩,.inr JX.out⟩
  ·obtain rfl:i=n:=by omega
   have J9:=hiD hj.out;clear hlt hj hr hb;gi_wp2;go_end0;exact ⟨⟨_,rfl⟩,.inl J9.out⟩
end Go.Proofs.YtbijfnbelkbofaaGreatDoor
namespace Go.Proofs.YtbijfnbelkbofaaGreatDoor
open Go.RowKit Go.Maps
theorem row_infoJ:(Tryz.prog.info? 179).map (fun i=>(i.zero,i.size,i.bytes))=some (some (.agg #[.slice none 0 0,.int .i64 0]),2,32):=by kernel_rfl
theorem rw_oneJ (A:Option Addr) (n c:Nat) (a:Int):∀ u ∈ [Value.slice A n c,Value.int .i64 a],u.oneCell'=true:=by
 intro u hu;simp only [List.mem_cons,List.not_mem_nil,or_false] at hu;rcases hu with rfl | rfl <;> rfl
theorem run_slice_head {P:Program} (W:World) (t e:TypeId) (ht:P.underlying t=some (.slice e)) (hz:∀ w,(Go.sizeOf e).run P w=.ok 1 w) (ad:Addr) (len cap n:Nat) (h:n≤cap):
 (Instr.slice t (.slice (some ad) len cap) none (some (.int .i64 (n:Int))) (some (.int .i64 (n:Int)))).run P W=.ok (.slice (some ad) n n) W:=by
 have ht':P.underlying t=some (.slice (P.elem t)):=by simp [Program.elem,ht]
 have he:P.elem t=e:=by simp [Program.elem,ht]
 rw [run_slice_hm W t _ _ _ ht' .i64 .i64 _ _ (by omega) (by omega) (by omega),he,hz];have h0:ad.add 0=ad:=by unfold Addr.add;rw [if_pos rfl]
 simp [Result.andThen,sliced,h0]
set_option maxRecDepth 100000 in
set_option maxHeartbeats 4000000 in
theorem prow_any (B pb mb:Nat) (t:KT.Tab) (P:TP) (F:Value→Option Value) (hd:Int) (a n:Nat) (ws:List ByteArray) (w:World) (hp:PrS B pb mb t P F hd w) (hw:Wd w a ws) (hn:ws.length=n):
 Calls Tryz.prog 119 #[.pointer (some ⟨pb,0,none⟩),.slice (some ⟨a,0,none⟩) n n] w (PrPost B pb mb P w):=by
 have HP:=hiD hp;have HW:=hiD hw;have HN:=hiD hn;have hn1:n≤100001:=hn ▸ hw.len
 have hal:=hw.lt;have h9:=hp.h9;clear hp hw hn;obtain ⟨HA,hn,hc,VA,vn,vc,RA,rn,rc,vs,rs⟩:=P;dsimp only at h9;have HEL:=hiD (fun (s:ByteArray) (hs:s.size≤100000) (W:World) (h:PrS B pb mb t ⟨HA,hn,hc,VA,vn,vc,RA,rn,rc,vs,rs⟩ F hd W)=>element_any s hs pb mb t.states t.sym hd HA VA RA hn hc vn vc rn rc F h.nm W h.row h.mp);have hBw:B≤w.heap.size:=Nat.le_trans HP.out.pB (Nat.le_of_lt HP.out.row.lt);have pR:=HP.out.row;dsimp only [prCells] at pR;obtain ⟨p0,p1,p2,p3,p4,p5,p6,pl⟩:=pR.cells7;clear pR;go_enter Tryz.func119,Tryz.ntmps119;by_cases h3:n=hn+2
 rotate_left 1
 ·have e1:((n:Int) == (hn:Int)+2)=false:=by simp;omega
  have e2:((n:Int) != (hn:Int)+2)=true:=by simp;omega
  clear h3;go_wp2;go_ret;exact ⟨15,rfl,prRes_below HP.out (Below.refl _ _)⟩
 have HNM:=hiD h3;have e1:((n:Int) == (hn:Int)+2)=true:=by simp;omega
 have e2:((n:Int) != (hn:Int)+2)=false:=by simp;omega
 have hnn:hn < n:=by omega
 have hnz:(hn:Int) < (n:Int):=by omega
 clear h3;obtain ⟨xh,c1,hx1⟩:=HW.out.word (k:=hn) (by rw [HN.out];omega)
 cases dv:(xh.toList == [45,62]) with
 | false=>
  go_wp2;go_ret;exact ⟨15,rfl,prRes_below HP.out (Below.refl _ _)⟩
 | true=>
 go_upto_region 6 with fail;clear p0 p1 p2 p3 p4 p5 p6 pl;clear e1 e2 dv c1 hx1
 go_loopg [6,7,8,9,10,32] n (fun gg s6 _ _ _ _ s32 wr=>∃ (i q:Nat) (l:List Int) (A:Option Addr) (c:Nat),i≤n∧n - i≤gg∧q≤i∧s32=.int .i64 (i:Int)∧s6=.slice A q c∧Aside (i≤hn∧q=i∨hn < i∧q+1=i)∧Aside (wr.ownsRow w.heap.size 3 1 (.slice A q c) q (ints l))∧Aside (Below w.heap.size w wr))
 case atStart=>exact ⟨0,0,[],none,0,Nat.zero_le _,by omega,Nat.le_refl _,rfl,rfl,.inl ⟨Nat.zero_le _,rfl⟩,World.ownsRow_nil _ _ _ _,Below.refl _ _⟩
 case round=>
  obtain ⟨i,q,l,A,c,hi,hgg,hqi,rfl,rfl,hv,ho,hb⟩:=hrel;have hsz:w.heap.size≤wr.heap.size:=hb.out.size;have halr:a < wr.heap.size:=by omega
  by_cases hlt:i < n
  ·have hltz:(i:Int) < (n:Int):=by omega
   obtain ⟨x,hx,hxs⟩:=(HW.out.below hb.out).word (k:=i) (by rw [HN.out];omega);by_cases hin:i=hn
   ·subst hin;have hv2:q=i:=by have:=hv.out;omega
    have HV2:=hiD hv2;clear hv2;go_wp2;go_roundg (n - (i+1))
    case measure=>omega
    case rel=>exact ⟨i+1,q,l,A,c,by omega,by omega,by omega,by go_num,rfl,.inr ⟨by omega,by rw [HV2.out]⟩,ho.out,hb.out⟩
   ·have e1:((i:Int) == (hn:Int))=false:=by simp;omega
    have HIN:=hiD (show (i≤hn∧q=i∨hn < i∧q+1=i)∧¬ i=hn from ⟨hv.out,hin⟩);clear hin;go_wp2_with fail;refine (HEL.out x hxs wr (HP.out.below hb.out)).mono ?_;rintro e w1 ⟨z,k,rfl,hz,rfl⟩;by_cases hk:k=0
    rotate_left 1
    ·have k1:(k == 0)=false:=by simp [hk]
     have k2:(k != 0)=true:=by simp [hk]
     go_wp2;go_ret;exact ⟨k,rfl,prRes_below HP.out hb.out⟩
    subst hk;clear hz
    go_wp2_with (at_builtin;refine wpList_app rfl (.tmp 49) (.tmp 51) 22 rfl w.heap.size 3 (.int .i64 0) 1 8 Tryz.underlying22 int_infoJ rfl (by decide) (by decide) (.slice A q c) (q) (ints l) rfl ?own (wr.heap.size+1) (some ⟨wr.heap.size,0,none⟩) 1 1 [.int .i64 z] rfl ?rd ?one ?hb ?hbase ?_)
    case own=>exact (ho.out).alloc _
    case rd=>exact Rd.lit wr #[.int .i64 z] 3 (sz:=1) (m:=1) rfl
    case one=>first | (intro u hu;simp at hu;subst hu;rfl) | rfl
    case hb=>omega
    case hbase=>first | (simp;omega) | omega
    intro v' w' hown' hgrow' hat';obtain ⟨A2,c2,rfl,_⟩:=Rd.own hown';have hcat:ints l ++ [Value.int .i64 z]=ints (l ++ [z]):=by simp [ints]
    rw [hcat] at hown'
    have hb2:=((hb.out.alloc hsz (.cells #[.int .i64 z] 3)).grown hgrow' (Nat.le_trans hsz (by simp)) (fun k hk=>(ho.out.lt k hk).1))
    have HO2:=hiD hown';have HB2:=hiD hb2;clear hown' hgrow' hat' hcat hb2;go_wp2;go_roundg (n - (i+1))
    case measure=>omega
    case rel=>exact ⟨i+1,q+1,l ++ [z],A2,c2,by omega,by omega,by omega,by go_num,rfl,(by show _∨_;have:=HIN.out;omega),HO2.out,HB2.out⟩
  ·have hq:q=hn+1:=by have:=hv.out;have:=HNM.out;omega
   subst hq;have hltz:¬ (i:Int) < (n:Int):=by omega
   clear hlt hgg hqi hi hv;obtain ⟨g,cap,hv,_,hgl⟩:=ho.out.form (by omega);injection hv with hv1 hv2 hv3;subst hv1 hv3;have hcc:hn+1≤c:=own_cap ho.out
   obtain ⟨z,hz⟩:∃ z,l.getD hn 0=z:=⟨_,rfl⟩
   have HZ:=hiU hz;have hsl:=fun W=>run_slice_head (P:=Tryz.prog) W 22 3 Tryz.underlying22 size_intK ⟨g,0,none⟩ (hn+1) c hn (by omega)
   have hn0:(0:Int)≤(hn:Int):=by omega
   have hn2:(hn:Int) < (hn:Int)+1:=by omega
   clear hz hv2;go_upto_region 14 with fail;refine wp_region_L (fun w'=>World.ownsRow w' w.heap.size 3 1 (.slice (some ⟨g,0,none⟩) (hn+1) c) (hn+1) (ints l)) [10] (by kernel_rfl) (by exact own_below ho.out ((Below.refl wr.heap.size wr).drew) (Nat.le_refl _)) (fun hHeld=>?_);have HD:=hiD ((Below.refl wr.heap.size wr).drew);have HBd:=hiD (below_on2 hb.out HD.out);have HOq:=hiD (own_below ho.out HD.out (Nat.le_refl _));clear HD;revert hHeld HBd HOq;generalize World.drew wr=wq;intro hHeld HBd HOq;refine lP 0 ?_;go_simp;refine lP 1 ?_;go_simp;refine lP 2 ?_;go_simp;refine lP 4 ?_;go_simp;refine lP 5 ?_;go_simp;refine lTakeW 3 ?va6 [[10]] rfl (by rfl) ?ya6 hHeld ?ra6
   case ya6=>
    intro w' hSw;have hS0:=hSw;clear hSw;obtain ⟨ad9,e9,hl9,q9⟩:=Rd.int (Rd.of_own hS0) (k:=hn) (by omega)
    cases e9
    rw [add_zero_off,HZ.out ()] at q9;dsimp only at hl9;go_simp
    try (with_reducible rfl)
   go_simp;refine lTakeW 6 ?va7 [[10]] rfl (by rfl) ?ya7 hHeld ?ra7
   case ya7=>
    intro w' hSw;have hS0:=hSw;clear hSw;obtain ⟨ad9,e9,hl9,q9⟩:=Rd.int (Rd.of_own hS0) (k:=hn) (by omega)
    cases e9
    rw [add_zero_off,HZ.out ()] at q9;dsimp only at hl9;go_simp
    try (with_reducible rfl)
   go_simp;refine lTakeW 7 ?va8 [[10]] rfl (by rfl) ?ya8 hHeld ?ra8
   case ya8=>
    intro w' hSw;have hS0:=hSw;clear hSw;obtain ⟨ad9,e9,hl9,q9⟩:=Rd.int (Rd.of_own hS0) (k:=hn) (by omega)
    cases e9
    rw [add_zero_off,HZ.out ()] at q9;dsimp only at hl9;go_simp
    try (with_reducible rfl)
   go_simp;refine lP 8 ?_;go_simp;refine restL_one (i:=9) (by kernel_rfl) rfl (fun K hK=>?_);go_simp;refine hK.out _ _ (fun _=>?keep) (fun hHeld=>?_)
   case keep=>exact World.ownsRow.alloc hHeld _
   have hHeld:=hHeld rfl;clear hK K
   try go_simp
   refine restL_one (i:=10) (by kernel_rfl) rfl (fun K hK=>?_);go_simp;refine hK.out _ _ (fun h=>absurd h (by decide)) (fun _=>?_);clear hK K
   try go_simp
   refine restL_done (by kernel_rfl) ?_ _;have HX7:Hid (Row (World.alloc wq (.cells #[.slice (some ⟨g,0,none⟩) hn hn,.int .i64 z] 179)) wq.heap.size 179 [.slice (some ⟨g,0,none⟩) hn hn,.int .i64 z]):=Row.new wq 179 [.slice (some ⟨g,0,none⟩) hn hn,.int .i64 z];have HD:=hiD ((Below.refl wq.heap.size wq).alloc (Nat.le_refl _) (.cells #[.slice (some ⟨g,0,none⟩) hn hn,.int .i64 z] 179));have HB7:=hiD (below_on2 HBd.out HD.out);have HP7:=hiD (HP.out.below HB7.out);have HO7:=hiD (own_below HOq.out HD.out (Nat.le_refl _));clear hHeld HD HOq hsl hn0 hn2 hltz hgl hsz halr HBd ho hb;revert HX7 HB7 HP7 HO7;generalize (World.alloc wq (.cells #[.slice (some ⟨g,0,none⟩) hn hn,.int .i64 z] 179))=w7;generalize wq.heap.size=rb;intro HX7 HB7 HP7 HO7;obtain ⟨x0,x1,xl⟩:=HX7.out.cells2;by_cases hz0:z < 0
   ·have d1:decide (z < 0)=true:=decide_eq_true hz0;have htk:(ints l).take hn=ints (l.take hn):=by simp [ints,List.map_take]
    have hta:=(TyRd.own HO7.out).take (Nat.le_succ hn);rw [htk] at hta;have HC:=contains_ints (some ⟨g,0,none⟩) hn hn (l.take hn) z w7 hta.rd (by omega)
    obtain ⟨b,hbq⟩:∃ b,(l.take hn).contains z=b:=⟨_,rfl⟩
    rw [hbq] at HC;clear htk hta hbq;go_wp2_with fail;refine HC.mono ?_;clear HC;rintro e w8 ⟨rfl,hw8⟩;subst w8
    cases b with
    | false=>
     go_wp2;go_ret;exact ⟨2,rfl,prRes_below HP.out HB7.out⟩
    | true=>
    clear d1;have pR:=HP7.out.row;dsimp only [prCells] at pR;obtain ⟨p0,p1,p2,p3,p4,p5,p6,pl⟩:=pR.cells7;clear pR;by_cases h4:400≤rn
    ·have d2:decide ((400:Int)≤(rn:Int))=true:=decide_eq_true (by omega);have d3:decide (400≤rn)=true:=decide_eq_true h4;go_wp2;go_ret;exact ⟨6,rfl,prRes_below HP.out HB7.out⟩
    have d2:decide ((400:Int)≤(rn:Int))=false:=decide_eq_false (by omega);have d3:decide (400≤rn)=false:=decide_eq_false h4;have hBs:B≤w7.heap.size:=Nat.le_trans hBw HB7.out.size;go_upto_region 19 with fail;clear d2 d3;clear p0 p1 p2 p3 p4 p5 p6 pl;clear x0 x1 xl;refine wp_region_L (fun w'=>Row w' pb 122 [.int .i64 t.states,.int .i64 t.sym,.slice HA hn hc,.slice VA vn vc,.slice RA rn rc,.map (some mb),.int .i64 hd]∧Row w' rb 179 [.slice (some ⟨g,0,none⟩) hn hn,.int .i64 z]) [8,9,10,11,12] (by kernel_rfl) (by exact ⟨HP7.out.row.drew,HX7.out.drew⟩) (fun hHeld=>?_);have HD:=hiD ((Below.refl w7.heap.size w7).drew);have HPd:=hiD (HP7.out.below HD.out);have HOd:=hiD (own_below HO7.out HD.out (Nat.le_refl _));have HBd:=hiD (below_on2 HB7.out HD.out);clear HD HP7 HO7 HB7 HX7;revert hHeld HPd HOd HBd;generalize World.drew w7=wQ;intro hHeld HPd HOd HBd;refine lP 0 ?_;go_simp;refine lP 1 ?_;go_simp;refine lP 2 ?_;go_simp;refine lP 3 ?_;go_simp;refine lP 4 ?_;go_simp;refine lTakeW 5 ?vb6 [[8],[9],[10],[11],[12]] rfl (by rfl) ?yb6 hHeld ?rb6
    case yb6=>
     intro w' hSw;obtain ⟨hS1,hS2⟩:=hSw;have hT1:=hiD hS1;have hT2:=hiD hS2;clear hS1 hS2;obtain ⟨y0,y1,y2,y3,y4,y5,y6,yl⟩:=hT1.out.cells7;obtain ⟨x0,x1,xl⟩:=hT2.out.cells2;go_simp
     try (with_reducible rfl)
    go_simp;refine lTakeW 6 ?vb7 [[8,7],[9],[10],[11],[12]] rfl (by rfl) ?yb7 hHeld ?rb7
    case yb7=>
     intro w' hSw;obtain ⟨hS1,hS2⟩:=hSw;have hT1:=hiD hS1;have hT2:=hiD hS2;clear hS1 hS2;obtain ⟨y0,y1,y2,y3,y4,y5,y6,yl⟩:=hT1.out.cells7;obtain ⟨x0,x1,xl⟩:=hT2.out.cells2;go_simp
     try (with_reducible rfl)
    go_simp;refine restL_one (i:=7) (by kernel_rfl) rfl (fun K hK=>?_);go_simp;refine hK.out _ _ (fun _=>?keep) (fun hHeld=>?_)
    case keep=>exact ⟨Row.alloc hHeld.1 _,Row.alloc hHeld.2 _⟩
    have hHeld:=hHeld rfl;clear hK K
    try go_simp
    refine restL_one (i:=8) (by kernel_rfl) rfl (fun K hK=>?_);refine step_app rfl (.tmp 86) (.tmp 88) 58 rfl B 179 (.agg #[.slice none 0 0,.int .i64 0]) 2 32 Tryz.underlying58 row_infoJ rfl (by decide) (by decide) (.slice RA rn rc) rn (rwsCells t.rows rs) rfl ?own (wQ.heap.size+1) (some ⟨wQ.heap.size,0,none⟩) 1 1 [.slice (some ⟨g,0,none⟩) hn hn,.int .i64 z] rfl ?rd ?one ?hb ?hbase ?_
    case own=>exact HPd.out.rown.alloc _
    case rd=>exact Rd.lit wQ #[.slice (some ⟨g,0,none⟩) hn hn,.int .i64 z] 179 (sz:=2) (m:=1) rfl
    case one=>first | exact rw_oneJ _ _ _ _ | rfl
    case hb=>omega
    case hbase=>first | (have:=HBd.out.size;simp;omega) | (have:=HBd.out.size;omega)
    intro v' w' hown' hgrow' hat';obtain ⟨RA2,rc2,rfl,_⟩:=Rd.own hown';rw [own_blk] at hgrow';have HDa:=hiD ((Below.refl wQ.heap.size wQ).alloc (Nat.le_refl _) (.cells #[.slice (some ⟨g,0,none⟩) hn hn,.int .i64 z] 179));have HPa:=hiD (HPd.out.below HDa.out)
    have hta:=((TyRd.own (own_base (own_below HOd.out HDa.out (Nat.le_refl _)) hBw)).take (Nat.le_succ hn))
    have htk:(ints l).take hn=ints (l.take hn):=by simp [ints,List.map_take]
    rw [htk] at hta;obtain ⟨hp9,hm9,hrow9⟩:=HPa.out.pushR (r:=⟨l.take hn,z⟩) (s:=⟨some ⟨g,0,none⟩,hn,hn⟩) (fun k hk=>by have:=blk_or hat' k hk;simpa using this) hgrow' hown' hta (by show hn≤maxLen;unfold maxLen;omega) (by show rn+1≤1000000;omega);have HP9:=hiD hp9;have HM9:=hiD (((PrMv.ofBelow HBd.out).trans (PrMv.ofBelow HDa.out)).trans hm9);have z4:=hrow9.cell 4;have zf:=hrow9.frozen 4;have zl:=hrow9.lt;dsimp only [prCells] at z4;simp only [List.getElem?_cons_zero,List.getElem?_cons_succ] at z4;clear hta htk hp9 hm9 hrow9 hown' hgrow' hat' HDa HPa HPd HOd HBd;refine hK.out _ _ (fun h=>absurd h (by decide)) (fun _=>?_);clear hK K
    try go_simp
    refine lP 9 ?_;go_simp;refine lP 10 ?_;go_simp;refine lP 11 ?_;go_simp;refine restL_one (i:=12) (by kernel_rfl) rfl (fun K hK=>?_);go_simp;refine hK.out _ _ (fun h=>absurd h (by decide)) (fun _=>?_);clear hK K
    try go_simp
    refine restL_done (by kernel_rfl) ?_ _;go_wp2;go_ret;exact ⟨0,rfl,⟨_,_,_,_,HP9.out,HM9.out⟩⟩
   ·have d1:decide (z < 0)=false:=decide_eq_false hz0;have pR:=HP7.out.row;dsimp only [prCells] at pR;obtain ⟨p0,p1,p2,p3,p4,p5,p6,pl⟩:=pR.cells7;clear pR;by_cases h4:400≤rn
    ·have d2:decide ((400:Int)≤(rn:Int))=true:=decide_eq_true (by omega);have d3:decide (400≤rn)=true:=decide_eq_true h4;go_wp2;go_ret;exact ⟨6,rfl,prRes_below HP.out HB7.out⟩
    have d2:decide ((400:Int)≤(rn:Int))=false:=decide_eq_false (by omega);have d3:decide (400≤rn)=false:=decide_eq_false h4;have hBs:B≤w7.heap.size:=Nat.le_trans hBw HB7.out.size;go_upto_region 19 with fail;clear d2 d3;clear p0 p1 p2 p3 p4 p5 p6 pl;clear x0 x1 xl;clear d1;refine wp_region_L (fun w'=>Row w' pb 122 [.int .i64 t.states,.int .i64 t.sym,.slice HA hn hc,.slice VA vn vc,.slice RA rn rc,.map (some mb),.int .i64 hd]∧Row w' rb 179 [.slice (some ⟨g,0,none⟩) hn hn,.int .i64 z]) [8,9,10,11,12] (by kernel_rfl) (by exact ⟨HP7.out.row.drew,HX7.out.drew⟩) (fun hHeld=>?_);have HD:=hiD ((Below.refl w7.heap.size w7).drew);have HPd:=hiD (HP7.out.below HD.out);have HOd:=hiD (own_below HO7.out HD.out (Nat.le_refl _));have HBd:=hiD (below_on2 HB7.out HD.out);clear HD HP7 HO7 HB7 HX7;revert hHeld HPd HOd HBd;generalize World.drew w7=wQ;intro hHeld HPd HOd HBd;refine lP 0 ?_;go_simp;refine lP 1 ?_;go_simp;refine lP 2 ?_;go_simp;refine lP 3 ?_;go_simp;refine lP 4 ?_;go_simp;refine lTakeW 5 ?vc6 [[8],[9],[10],[11],[12]] rfl (by rfl) ?yc6 hHeld ?rc6
    case yc6=>
     intro w' hSw;obtain ⟨hS1,hS2⟩:=hSw;have hT1:=hiD hS1;have hT2:=hiD hS2;clear hS1 hS2;obtain ⟨y0,y1,y2,y3,y4,y5,y6,yl⟩:=hT1.out.cells7;obtain ⟨x0,x1,xl⟩:=hT2.out.cells2;go_simp
     try (with_reducible rfl)
    go_simp;refine lTakeW 6 ?vc7 [[8,7],[9],[10],[11],[12]] rfl (by rfl) ?yc7 hHeld ?rc7
    case yc7=>
     intro w' hSw;obtain ⟨hS1,hS2⟩:=hSw;have hT1:=hiD hS1;have hT2:=hiD hS2;clear hS1 hS2;obtain ⟨y0,y1,y2,y3,y4,y5,y6,yl⟩:=hT1.out.cells7;obtain ⟨x0,x1,xl⟩:=hT2.out.cells2;go_simp
     try (with_reducible rfl)
    go_simp;refine restL_one (i:=7) (by kernel_rfl) rfl (fun K hK=>?_);go_simp;refine hK.out _ _ (fun _=>?keep) (fun hHeld=>?_)
    case keep=>exact ⟨Row.alloc hHeld.1 _,Row.alloc hHeld.2 _⟩
    have hHeld:=hHeld rfl;clear hK K
    try go_simp
    refine restL_one (i:=8) (by kernel_rfl) rfl (fun K hK=>?_);refine step_app rfl (.tmp 86) (.tmp 88) 58 rfl B 179 (.agg #[.slice none 0 0,.int .i64 0]) 2 32 Tryz.underlying58 row_infoJ rfl (by decide) (by decide) (.slice RA rn rc) rn (rwsCells t.rows rs) rfl ?own (wQ.heap.size+1) (some ⟨wQ.heap.size,0,none⟩) 1 1 [.slice (some ⟨g,0,none⟩) hn hn,.int .i64 z] rfl ?rd ?one ?hb ?hbase ?_
    case own=>exact HPd.out.rown.alloc _
    case rd=>exact Rd.lit wQ #[.slice (some ⟨g,0,none⟩) hn hn,.int .i64 z] 179 (sz:=2) (m:=1) rfl
    case one=>first | exact rw_oneJ _ _ _ _ | rfl
    case hb=>omega
    case hbase=>first | (have:=HBd.out.size;simp;omega) | (have:=HBd.out.size;omega)
    intro v' w' hown' hgrow' hat';obtain ⟨RA2,rc2,rfl,_⟩:=Rd.own hown';rw [own_blk] at hgrow';have HDa:=hiD ((Below.refl wQ.heap.size wQ).alloc (Nat.le_refl _) (.cells #[.slice (some ⟨g,0,none⟩) hn hn,.int .i64 z] 179));have HPa:=hiD (HPd.out.below HDa.out)
    have hta:=((TyRd.own (own_base (own_below HOd.out HDa.out (Nat.le_refl _)) hBw)).take (Nat.le_succ hn))
    have htk:(ints l).take hn=ints (l.take hn):=by simp [ints,List.map_take]
    rw [htk] at hta;obtain ⟨hp9,hm9,hrow9⟩:=HPa.out.pushR (r:=⟨l.take hn,z⟩) (s:=⟨some ⟨g,0,none⟩,hn,hn⟩) (fun k hk=>by have:=blk_or hat' k hk;simpa using this) hgrow' hown' hta (by show hn≤maxLen;unfold maxLen;omega) (by show rn+1≤1000000;omega);have HP9:=hiD hp9;have HM9:=hiD (((PrMv.ofBelow HBd.out).trans (PrMv.ofBelow HDa.out)).trans hm9);have z4:=hrow9.cell 4;have zf:=hrow9.frozen 4;have zl:=hrow9.lt;dsimp only [prCells] at z4;simp only [List.getElem?_cons_zero,List.getElem?_cons_succ] at z4;clear hta htk hp9 hm9 hrow9 hown' hgrow' hat' HDa HPa HPd HOd HBd;refine hK.out _ _ (fun h=>absurd h (by decide)) (fun _=>?_);clear hK K
    try go_simp
    refine lP 9 ?_;go_simp;refine lP 10 ?_;go_simp;refine lP 11 ?_;go_simp;refine restL_one (i:=12) (by kernel_rfl) rfl (fun K hK=>?_);go_simp;refine hK.out _ _ (fun h=>absurd h (by decide)) (fun _=>?_);clear hK K
    try go_simp
    refine restL_done (by kernel_rfl) ?_ _;go_wp2;go_ret;exact ⟨0,rfl,⟨_,_,_,_,HP9.out,HM9.out⟩⟩
end Go.Proofs.YtbijfnbelkbofaaGreatDoor
