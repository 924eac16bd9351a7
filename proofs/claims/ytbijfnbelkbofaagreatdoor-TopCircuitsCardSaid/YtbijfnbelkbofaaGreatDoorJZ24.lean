/-
  Lemmas for the law TopCircuits.
-/
import Derived.Test.YtbijfnbelkbofaaGreatDoorJZ23
import Derived.Test.YtbijfnbelkbofaaGreatDoorJZ18
import Derived.Test.YtbijfnbelkbofaaGreatDoorJZ17
set_option linter.unusedSimpArgs false
set_option linter.unusedVariables false
namespace Go.Proofs.YtbijfnbelkbofaaGreatDoor
open Go.RowKit
structure Mv (R:Nat→Prop) (w:World) (R':Nat→Prop) (w':World):Prop where
 kept:Kept R w w'
 old:∀ k,k < w.heap.size→R' k→R k
section
variable {R R1 R' S:Nat→Prop} {w w1 w':World}
theorem Mv.refl (R:Nat→Prop) (w:World):Mv R w R w:=⟨Kept.refl _ _,fun _ _ h=>h⟩
theorem Mv.trans (h:Mv R w R1 w1) (k:Mv R1 w1 R' w'):Mv R w R' w':=⟨h.kept.trans k.kept h.old,fun i hi hr=>h.old i hi (k.old i (Nat.lt_of_lt_of_le hi h.kept.size) hr)⟩
theorem Mv.below (R:Nat→Prop) (h:Below w.heap.size w w'):Mv R w R w':=⟨Kept.ofBelow h,fun _ _ h=>h⟩
theorem Mv.far (h:Mv R w R1 w1) (k:Kept S w1 w') (hS:∀ i,S i→w.heap.size≤i):Mv R w R1 w':=⟨h.kept.trans k (fun i hi hs=>absurd (hS i hs) (by omega)),h.old⟩
theorem Mv.not (h:Mv R w R1 w1) {k:Nat} (hk:k < w.heap.size) (hn:¬ R k):¬ R1 k:=fun hr=>hn (h.old k hk hr)
theorem Mv.push {A:Option Addr} (h:Mv R w R1 w1) (hk:Kept R1 w1 w') (ho:∀ k,k < w1.heap.size→R' k→R1 k∨blk A=some k) (hA:∀ k,blk A=some k→w.heap.size≤k):Mv R w R' w':=
 ⟨h.kept.trans hk h.old,fun k hk1 hr=>by
  rcases ho k (Nat.lt_of_lt_of_le hk1 h.kept.size) hr with q | q
  ·exact h.old k hk1 q
  ·have:=hA k q;omega⟩
end
structure NdSt (R:Nat→Prop) (e0 xb:Nat) (lev:Int) (XA:Option Addr) (xc:Nat) (next:List Int) (w:World):Prop where
 row:Row w xb 65 [.int .i64 lev,.slice XA next.length xc]
 own:w.ownsRow e0 3 1 (.slice XA next.length xc) next.length (ints next)
 eb:e0≤xb
 nb:¬ R xb
 na:∀ k,blk XA=some k→¬ R k
def TxSt (e0:Nat) (KA:Option Addr) (kc:Nat) (txt:List UInt8) (w:World):Prop:=w.ownsRow e0 5 1 (.slice KA txt.length kc) txt.length (Lib.byteCells txt)
section
variable {R R1 R' S:Nat→Prop} {w w1 w':World} {e0 xb:Nat} {lev:Int} {XA KA:Option Addr} {xc kc:Nat} {next:List Int} {txt:List UInt8}
theorem NdSt.far (h:NdSt R e0 xb lev XA xc next w) (k:Kept S w w') (h1:¬ S xb) (h2:∀ i,blk XA=some i→¬ S i):NdSt R e0 xb lev XA xc next w':=
 ⟨k.row h.row h1,k.own h.own (fun i hi=>h2 i (by rw [← own_blk];exact hi)),h.eb,h.nb,h.na⟩
theorem NdSt.move (h:NdSt R e0 xb lev XA xc next w) (m:Mv R w R' w'):NdSt R' e0 xb lev XA xc next w':=
 ⟨m.kept.row h.row h.nb,m.kept.own h.own (fun i hi=>h.na i (by rw [← own_blk];exact hi)),h.eb,m.not h.row.lt h.nb,fun k hk=>m.not (own_lt h.own k (by rw [own_blk];exact hk)) (h.na k hk)⟩
theorem TxSt.type (h:TxSt e0 KA kc txt w) {k:Nat} (hk:blk KA=some k):∃ cur,w.heap[k]?=some (.cells cur 5 (0,0))∧e0≤k:=own_block_type h (k:=k) (by rw [own_blk];exact hk)
def No8 (R:Nat→Prop) (w:World):Prop:=∀ k,R k→∀ (c:Array Value) (fz:Nat × Nat),w.heap[k]?≠some (.cells c 5 fz)
theorem TxSt.notR (h:TxSt e0 KA kc txt w) (hb:No8 R w):∀ k,blk KA=some k→¬ R k:=fun k hk hr=>by
 obtain ⟨cur,hc,_⟩:=h.type hk;exact hb k hr cur (0,0) hc
theorem TxSt.far (h:TxSt e0 KA kc txt w) (k:Kept S w w') (h2:∀ i,blk KA=some i→¬ S i):TxSt e0 KA kc txt w':=k.own h (fun i hi=>h2 i (by rw [← own_blk];exact hi))
theorem TxSt.move (h:TxSt e0 KA kc txt w) (hb:No8 R w) (m:Mv R w R' w'):TxSt e0 KA kc txt w':=TxSt.far h m.kept (h.notR hb)
theorem NdSt.u8 (h:NdSt R e0 xb lev XA xc next w) (hk:Kept (U8 w e0) w w'):NdSt R e0 xb lev XA xc next w':=by
 refine h.far hk (fun hi=>?_) (fun i hb hi=>?_)
 ·rcases hi.2 with h1 | ⟨c,fz,h1⟩
  ·have:=h.row.lt;omega
  ·have:=h.row;unfold Row at this;rw [this] at h1;injection h1 with h1;injection h1 with _ h1;exact absurd h1 (by decide)
 ·obtain ⟨cur,hc,_⟩:=own_block_type h.own (k:=i) (by rw [own_blk];exact hb);rcases hi.2 with h1 | ⟨c,fz,h1⟩
  ·have:=own_lt h.own i (by rw [own_blk];exact hb);omega
  ·rw [hc] at h1;injection h1 with h1;injection h1 with _ h1;exact absurd h1 (by decide)
theorem Mv.u8 (h:Mv R w R1 w1) (hk:Kept (U8 w1 e0) w1 w') (h0:w.heap.size≤e0):Mv R w R1 w':=h.far hk (fun i hi=>Nat.le_trans h0 hi.1)
theorem NdSt.push {XA':Option Addr} {xc':Nat} {k:Int} (h:NdSt R e0 xb lev XA xc next w) (hb:∀ i,R i→i < w.heap.size) (hn:∀ i,blk XA'=some i→blk XA=some i∨w.heap.size≤i) (hg:w.grownBy w' (blk XA)) (ho:w'.ownsRow e0 3 1 (.slice XA' (next ++ [k]).length xc') (next ++ [k]).length (ints (next ++ [k]))):
 NdSt R e0 xb lev XA' xc' (next ++ [k]) (w'.setCell ⟨xb,1,none⟩ (.slice XA' (next ++ [k]).length xc'))∧Kept (fun i=>i=xb∨blk XA=some i) w (w'.setCell ⟨xb,1,none⟩ (.slice XA' (next ++ [k]).length xc'))∧Row w' xb 65 [.int .i64 lev,.slice XA next.length xc]:=by
 have hne:blk XA≠some xb:=by rw [← own_blk _ next.length xc];exact own_ne_row h.own h.row (by decide)
 have hrow:Row w' xb 65 [.int .i64 lev,.slice XA next.length xc]:=h.row.grown hg (fun q=>hne q.symm);refine ⟨⟨hrow.set 1 _,own_set (p:=⟨xb,1,none⟩) ho hrow (by decide) _,h.eb,h.nb,fun i hi hr=>?_⟩,Kept.set (Kept.grown (Kept.refl _ _) hg (fun k hk=>.inl (.inr hk))) (p:=⟨xb,1,none⟩) (.inl (.inl rfl)) _,hrow⟩;rcases hn i hi with q | q
 ·exact h.na i q hr
 ·have:=hb i hr;omega
theorem NdSt.notR (h:NdSt R e0 xb lev XA xc next w):∀ i,(i=xb∨blk XA=some i)→e0≤i∧¬ R i:=fun i hi=>by
 rcases hi with rfl | hi
 ·exact ⟨h.eb,h.nb⟩
 ·exact ⟨(h.own.lt i (by rw [own_blk];exact hi)).1,h.na i hi⟩
theorem TxSt.notX (h:TxSt e0 KA kc txt w) (hx:NdSt R e0 xb lev XA xc next w):∀ i,blk KA=some i→¬ (i=xb∨blk XA=some i):=fun i hi hq=>by
 obtain ⟨cur,hc,_⟩:=h.type hi;rcases hq with rfl | hq
 ·have:=hx.row;unfold Row at this;rw [this] at hc;injection hc with hc;injection hc with _ hc;exact absurd hc (by decide)
 ·obtain ⟨cur2,hc2,_⟩:=own_block_type hx.own (k:=i) (by rw [own_blk];exact hq);rw [hc] at hc2;injection hc2 with hc2;injection hc2 with _ hc2;exact absurd hc2 (by decide)
end
structure UEnv where
 b:Nat
 S:Nat
 LA:Option Addr
 ln:Nat
 lc:Nat
 ip:FuncId
 cp:Array Value
 ie:FuncId
 ce:Array Value
structure UPos where
 NA:Option Addr
 nc:Nat
 sl:List Sl
def UPos.R (p:UPos) (E:UEnv) (k:Nat):Prop:=k=E.b+5∨k=E.b+6∨k=E.b+8∨blk p.NA=some k∨∃ i,i < p.sl.length∧blk (p.sl.getD i default).at_=some k
def UEnv.vf (E:UEnv):Value:=.func (.func 90) #[] #[.pointer (some ⟨E.b+1,0,none⟩),.pointer (some ⟨E.b+3,0,none⟩),.pointer (some ⟨E.b+7,0,none⟩),.pointer (some ⟨E.b,0,none⟩),.pointer (some ⟨E.b+10,0,none⟩),.pointer (some ⟨E.b+2,0,none⟩),.pointer (some ⟨E.b+9,0,none⟩),.pointer (some ⟨E.b+5,0,none⟩)]
structure UBox (E:UEnv) (w:World):Prop where
 q0:Row w E.b 3 [.int .i64 (E.S:Int)]
 q1:Row w (E.b+1) 24 [.slice E.LA E.ln E.lc]
 q2:Row w (E.b+2) 75 [.func (.func E.ip) #[] E.cp]
 q3:Row w (E.b+3) 70 [.func (.func E.ie) #[] E.ce]
 q7:Row w (E.b+7) 152 [.map (some (E.b+6))]
 q9:Row w (E.b+9) 120 [.map (some (E.b+8))]
 q10:Row w (E.b+10) 153 [E.vf]
def UEnv.fix (E:UEnv) (k:Nat):Prop:=k < E.b+5∨k=E.b+7∨k=E.b+9∨k=E.b+10
def UEnv.cells (E:UEnv) (p:UPos) (n:Nat):List Value:=[.int .i64 (E.S:Int),.slice E.LA E.ln E.lc,.slice p.NA n p.nc]
structure USt (w0:World) (E:UEnv) (p:UPos) (ns:List Nd) (F G:Value→Option Value) (w:World):Prop where
 bel:Below w0.heap.size w0 w
 hb:w0.heap.size≤E.b
 box:UBox E w
 row:Row w (E.b+5) 27 (E.cells p ns.length)
 nown:w.ownsRow (E.b+11) 65 2 (.slice p.NA ns.length p.nc) ns.length (nodesCells ns p.sl)
 sll:p.sl.length=ns.length
 nxt:∀ i,i < ns.length→w.ownsRow (E.b+11) 3 1 (p.sl.getD i default).val (p.sl.getD i default).len (ints (ns.getD i default).next)
 mp:MK w Tryz.prog 9 (E.b+8) F
 ms:MK w Tryz.prog 155 (E.b+6) G
section
variable {w0 w w' w1:World} {E:UEnv} {p p' p1:UPos} {ns:List Nd} {F F' G G':Value→Option Value} {e0:Nat}
theorem UBox.keep (h:UBox E w) (hk:∀ k,E.fix k→k < w.heap.size→w'.heap[k]?=w.heap[k]?):UBox E w':=
 ⟨(hk _ (.inl (by omega)) h.q0.lt).trans h.q0,(hk _ (.inl (by omega)) h.q1.lt).trans h.q1,(hk _ (.inl (by omega)) h.q2.lt).trans h.q2,(hk _ (.inl (by omega)) h.q3.lt).trans h.q3,(hk _ (.inr (.inl rfl)) h.q7.lt).trans h.q7,(hk _ (.inr (.inr (.inl rfl))) h.q9.lt).trans h.q9,(hk _ (.inr (.inr (.inr rfl))) h.q10.lt).trans h.q10⟩
theorem USt.lt (h:USt w0 E p ns F G w) {k:Nat} (hk:p.R E k):E.b+5≤k∧k < w.heap.size:=by
 rcases hk with rfl | rfl | rfl | hk | ⟨i,hi,hk⟩
 ·exact ⟨Nat.le_refl _,h.row.lt⟩
 ·exact ⟨by omega,h.ms.lt⟩
 ·exact ⟨by omega,h.mp.lt⟩
 ·have:=h.nown.lt k (by rw [own_blk];exact hk);exact ⟨by omega,this.2⟩
 ·have:=(h.nxt i (by rw [← h.sll];exact hi)).lt k (by unfold Sl.val;rw [own_blk];exact hk);exact ⟨by omega,this.2⟩
theorem USt.notFix (h:USt w0 E p ns F G w) {k:Nat} (hf:E.fix k):¬ p.R E k:=fun hk=>by
 rcases hk with rfl | rfl | rfl | hk | ⟨i,hi,hk⟩
 ·unfold UEnv.fix at hf;omega
 ·unfold UEnv.fix at hf;omega
 ·unfold UEnv.fix at hf;omega
 ·have:=h.nown.lt k (by rw [own_blk];exact hk);unfold UEnv.fix at hf;omega
 ·have:=(h.nxt i (by rw [← h.sll];exact hi)).lt k (by unfold Sl.val;rw [own_blk];exact hk);unfold UEnv.fix at hf;omega
theorem USt.no8 (h:USt w0 E p ns F G w):No8 (p.R E) w:=by
 intro k hk c fz e
 have key:∀ {T:TypeId} {base sz n:Nat} {v:Value} {xs:List Value},w.ownsRow base T sz v n xs→v.ownBlock=some k→T=5:=fun ho hb=>by
  obtain ⟨cur,hc,_⟩:=own_block_type ho hb;rw [hc] at e;injection e with e;injection e
 have keyM:∀ {K:TypeId} {b:Nat} {f:Value→Option Value},MK w Tryz.prog K b f→b=k→False:=fun hm hb=>by
  subst hb;obtain ⟨es,clock,hb,_⟩:=hm;rw [hb] at e;cases e
 rcases hk with q | q | q | hk | ⟨i,hi,hk⟩
 ·subst q;have:=h.row;unfold Row at this;rw [this] at e;injection e with e;injection e with _ e;exact absurd e (by decide)
 ·exact keyM h.ms q.symm
 ·exact keyM h.mp q.symm
 ·exact absurd (key h.nown (by rw [own_blk];exact hk)) (by decide)
 ·exact absurd (key (h.nxt i (by rw [← h.sll];exact hi)) (by unfold Sl.val;rw [own_blk];exact hk)) (by decide)
theorem USt.same (h:USt w0 E p ns F G w) (hb:Below w0.heap.size w0 w') (hf:∀ k,E.fix k→k < w.heap.size→w'.heap[k]?=w.heap[k]?) (hk:∀ k,p.R E k→w'.heap[k]?=w.heap[k]?):USt w0 E p ns F G w':=
 ⟨hb,h.hb,h.box.keep hf,(hk _ (.inl rfl)).trans h.row,own_same h.nown (fun k q=>hk k (.inr (.inr (.inr (.inl (by rw [← own_blk];exact q)))))),h.sll,
  fun i hi=>own_same (h.nxt i hi) (fun k q=>hk k (.inr (.inr (.inr (.inr ⟨i,by rw [h.sll];exact hi,by rw [← own_blk];exact q⟩))))),h.mp.block (hk _ (.inr (.inr (.inl rfl)))),h.ms.block (hk _ (.inr (.inl rfl)))⟩
theorem USt.far {S:Nat→Prop} (h:USt w0 E p ns F G w) (k:Kept S w w') (h0:∀ i,S i→E.b+11≤i) (hS:∀ i,S i→¬ p.R E i):USt w0 E p ns F G w':=
 h.same (h.bel.trans (k.below (fun i hi=>by have:=h0 i hi;have:=h.hb;omega) h.bel.size)) (fun i hf hi=>k.block i hi (fun hs=>by have:=h0 i hs;unfold UEnv.fix at hf;omega)) (fun i hi=>k.block i (h.lt hi).2 (fun e=>hS i e hi))
theorem USt.below (h:USt w0 E p ns F G w) (hb:Below w.heap.size w w'):USt w0 E p ns F G w':=h.same (h.bel.trans (hb.mono h.bel.size)) (fun k _ hk=>hb.block k hk) (fun k hk=>hb.block k (h.lt hk).2)
theorem USt.u8 (h:USt w0 E p ns F G w) (hk:Kept (U8 w e0) w w') (h0:E.b+11≤e0):USt w0 E p ns F G w':=
 h.far hk (fun i hi=>Nat.le_trans h0 hi.1) (fun i hi hr=>by
  rcases hi.2 with h1 | ⟨c,fz,h1⟩
  ·have:=(h.lt hr).2;omega
  ·exact h.no8 i hr c fz h1)
theorem USt.b11 (h:USt w0 E p ns F G w):E.b+11≤w.heap.size:=h.box.q10.lt
theorem USt.ne (h:USt w0 E p ns F G w):(∀ k,blk p.NA=some k→E.b+11≤k)∧∀ i,i < ns.length→∀ k,blk (p.sl.getD i default).at_=some k→E.b+11≤k∧blk p.NA≠some k:=by
 refine ⟨fun k hk=>(h.nown.lt k (by rw [own_blk];exact hk)).1,fun i hi k hk=>⟨((h.nxt i hi).lt k (by unfold Sl.val;rw [own_blk];exact hk)).1,fun h1=>?_⟩⟩;obtain ⟨c1,q1,_⟩:=own_block_type h.nown (k:=k) (by rw [own_blk];exact h1);obtain ⟨c2,q2,_⟩:=own_block_type (h.nxt i hi) (k:=k) (by unfold Sl.val;rw [own_blk];exact hk);rw [q1] at q2;injection q2 with q2;injection q2 with _ q2;exact absurd q2 (by decide)
theorem USt.mapBoth {b:Nat} (h:USt w0 E p ns F G w) (hbm:b=E.b+8∨b=E.b+6) (hg:w.grownBy w' (some b)) (hm:MK w' Tryz.prog 9 (E.b+8) F') (hs:MK w' Tryz.prog 155 (E.b+6) G'):USt w0 E p ns F' G' w'∧Mv (p.R E) w (p.R E) w':=by
 obtain ⟨e1,e2⟩:=h.ne
 have hbR:p.R E b:=by
  rcases hbm with q | q
  ·exact .inr (.inr (.inl q))
  ·exact .inr (.inl q)
 have hK:Kept (p.R E) w w':=Kept.grown (Kept.refl _ _) hg (fun k hk=>.inl (by injection hk with hk;rw [← hk];exact hbR));have hold:∀ k,k < w.heap.size→k≠b→w'.heap[k]?=w.heap[k]?:=fun k hk h1=>hg.block k hk (fun q=>by injection q with q;exact h1 q)
 exact ⟨⟨h.bel.trans (hK.below (fun k hk=>by have:=(h.lt hk).1;have:=h.hb;omega) h.bel.size),h.hb,h.box.keep (fun k hf hk=>hold k hk (by unfold UEnv.fix at hf;omega)),(hold _ h.row.lt (by omega)).trans h.row,own_same h.nown (fun k hk=>hold k (own_lt h.nown k hk) (by have:=e1 k (by rw [← own_blk];exact hk);omega)),
  h.sll,fun i hi=>own_same (h.nxt i hi) (fun k hk=>hold k (own_lt (h.nxt i hi) k hk) (by have:=(e2 i hi k (by rw [← own_blk];exact hk)).1;omega)),hm,hs⟩,⟨hK,fun _ _ h=>h⟩⟩
theorem USt.mapUp (h:USt w0 E p ns F G w) (hg:w.grownBy w' (some (E.b+8))) (hm:MK w' Tryz.prog 9 (E.b+8) F'):USt w0 E p ns F' G w'∧Mv (p.R E) w (p.R E) w':=
 h.mapBoth (.inl rfl) hg hm (h.ms.kept hg (by intro q;injection q with q;omega))
theorem USt.seenUp (h:USt w0 E p ns F G w) (hg:w.grownBy w' (some (E.b+6))) (hm:MK w' Tryz.prog 155 (E.b+6) G'):USt w0 E p ns F G' w'∧Mv (p.R E) w (p.R E) w':=
 h.mapBoth (.inr rfl) hg (h.mp.kept hg (by intro q;injection q with q;omega)) hm
theorem USt.congrF (h:USt w0 E p ns F G w) (hf:∀ v,F' v=F v):USt w0 E p ns F' G w:=by
 obtain rfl:F'=F:=funext hf;exact h
theorem USt.congrG (h:USt w0 E p ns F G w) (hf:∀ v,G' v=G v):USt w0 E p ns F G' w:=by
 obtain rfl:G'=G:=funext hf;exact h
theorem USt.pushN {NA:Option Addr} {nc:Nat} {x:Nd} {s:Sl} (h:USt w0 E p ns F G w) (hn:∀ k,blk NA=some k→blk p.NA=some k∨w.heap.size≤k) (hg:w.grownBy w' (blk p.NA)) (ho:w'.ownsRow (E.b+11) 65 2 (.slice NA (ns.length+1) nc) (ns.length+1) (nodesCells ns p.sl ++ [.int .i64 x.level,s.val]))
 (hs:w.ownsRow (E.b+11) 3 1 s.val s.len (ints x.next)) (hf:∀ k,blk s.at_=some k→¬ p.R E k):
 USt w0 E { p with NA:=NA,nc:=nc,sl:=p.sl ++ [s] } (ns ++ [x]) F G (w'.setCell ⟨E.b+5,2,none⟩ (.slice NA (ns.length+1) nc))∧Row w' (E.b+5) 27 (E.cells p ns.length) ∧
  Kept (p.R E) w (w'.setCell ⟨E.b+5,2,none⟩ (.slice NA (ns.length+1) nc))∧∀ k,k < w.heap.size→({ p with NA:=NA,nc:=nc,sl:=p.sl ++ [s] }:UPos).R E k→p.R E k∨blk s.at_=some k:=by
 obtain ⟨e1,e2⟩:=h.ne;have hrow:Row w' (E.b+5) 27 (E.cells p ns.length):=h.row.grown hg (fun q=>by have:=e1 _ q.symm;omega);have hK:Kept (p.R E) w w':=Kept.grown (Kept.refl _ _) hg (fun k hk=>.inl (.inr (.inr (.inr (.inl hk)))));have hK2:Kept (p.R E) w (w'.setCell ⟨E.b+5,2,none⟩ (.slice NA (ns.length+1) nc)):=hK.set (p:=⟨E.b+5,2,none⟩) (.inl (.inl rfl)) _
 have hold:∀ k,k < w.heap.size→k≠E.b+5→blk p.NA≠some k→(w'.setCell ⟨E.b+5,2,none⟩ (.slice NA (ns.length+1) nc)).heap[k]?=w.heap[k]?:=fun k hk h1 h2=>
  (Below.heap_setCell w' ⟨E.b+5,2,none⟩ _ k h1).trans (hg.block k hk (fun q=>h2 q.symm))
 have hget:∀ i,i < ns.length→(p.sl ++ [s]).getD i default=p.sl.getD i default:=fun i hi=>gsl_old p.sl s i (by rw [h.sll];exact hi)
 have hgl:(p.sl ++ [s]).getD ns.length default=s:=by rw [← h.sll];exact gsl_snoc p.sl s
 have hnd:∀ i,i < ns.length→(ns ++ [x]).getD i default=ns.getD i default:=fun i hi=>by
  simp only [List.getD_eq_getElem?_getD];rw [List.getElem?_append_left hi]
 have hnl:(ns ++ [x]).getD ns.length default=x:=by simp [List.getD_eq_getElem?_getD]
 have hlen:(ns ++ [x]).length=ns.length+1:=by simp
 refine ⟨⟨h.bel.trans (hK2.below (fun k hk=>by have:=(h.lt hk).1;have:=h.hb;omega) h.bel.size),h.hb,h.box.keep (fun k hf2 hk=>hold k hk (by unfold UEnv.fix at hf2;omega) (fun q=>by have:=e1 k q;unfold UEnv.fix at hf2;omega)),?_,?_,by simp [h.sll],fun i hi=>?_,h.mp.block (hold _ h.mp.lt (by omega) (fun q=>by have:=e1 _ q;omega)),h.ms.block (hold _ h.ms.lt (by omega) (fun q=>by have:=e1 _ q;omega))⟩,hrow,hK2,fun k hk hr=>?_⟩
 ·rw [hlen];exact hrow.set 2 _
 ·rw [hlen,nodesCells_snoc _ _ _ _ h.sll];exact own_set (p:=⟨E.b+5,2,none⟩) ho hrow (by decide) _
 ·rw [hlen] at hi;show World.ownsRow _ _ _ _ ((p.sl ++ [s]).getD i default).val ((p.sl ++ [s]).getD i default).len _;rcases Nat.lt_or_ge i ns.length with hl | hl
  ·rw [hget i hl,hnd i hl]
   exact own_same (h.nxt i hl) (fun k hk=>by
    have hb:blk (p.sl.getD i default).at_=some k:=by rw [← own_blk];exact hk
    exact hold k (own_lt (h.nxt i hl) k hk) (by have:=(e2 i hl k hb).1;omega) (e2 i hl k hb).2)
  ·obtain rfl:i=ns.length:=by omega
   rw [hgl,hnl]
   exact own_same hs (fun k hk=>by
    have hb:blk s.at_=some k:=by rw [← own_blk];exact hk
    exact hold k (own_lt hs k hk) (fun q=>hf k hb (.inl q)) (fun q=>hf k hb (.inr (.inr (.inr (.inl q))))))
 ·rcases hr with rfl | rfl | rfl | q | ⟨i,hi,q⟩
  ·exact .inl (.inl rfl)
  ·exact .inl (.inr (.inl rfl))
  ·exact .inl (.inr (.inr (.inl rfl)))
  ·rcases hn k q with q2 | q2
   ·exact .inl (.inr (.inr (.inr (.inl q2))))
   ·omega
  ·change i < (p.sl ++ [s]).length at hi;change blk ((p.sl ++ [s]).getD i default).at_=some k at q;rw [List.length_append,List.length_singleton,h.sll] at hi;rcases Nat.lt_or_ge i ns.length with hl | hl
   ·rw [hget i hl] at q;exact .inl (.inr (.inr (.inr (.inr ⟨i,by rw [h.sll];exact hl,q⟩))))
   ·obtain rfl:i=ns.length:=by omega
    rw [hgl] at q;exact .inr q
end
structure TOwn (B:Nat) (w:World) (ns:List Nd) (NA:Option Addr) (nc:Nat) (sl:List Sl):Prop where
 nown:w.ownsRow B 65 2 (.slice NA ns.length nc) ns.length (nodesCells ns sl)
 sll:sl.length=ns.length
 nxt:∀ i,i < ns.length→w.ownsRow B 3 1 (sl.getD i default).val (sl.getD i default).len (ints (ns.getD i default).next)
 small:∀ x ∈ ns,x.next.length≤1000
 n63:ns.length≤1000000
section
variable {B B':Nat} {w w':World} {ns:List Nd} {NA HA:Option Addr} {nc hn:Nat} {sl:List Sl} {hood:List Pt} {st:Int}
theorem TOwn.block (h:TOwn B w ns NA nc sl) (hk:∀ k,B≤k→k < w.heap.size→w'.heap[k]?=w.heap[k]?):TOwn B w' ns NA nc sl:=
 ⟨own_same h.nown (fun k q=>hk k (h.nown.lt k q).1 (h.nown.lt k q).2),h.sll,fun i hi=>own_same (h.nxt i hi) (fun k q=>hk k ((h.nxt i hi).lt k q).1 ((h.nxt i hi).lt k q).2),h.small,h.n63⟩
theorem TOwn.below (h:TOwn B w ns NA nc sl) (hb:Below w.heap.size w w'):TOwn B w' ns NA nc sl:=h.block (fun k _ hk=>hb.block k hk)
theorem TOwn.set (h:TOwn B w ns NA nc sl) {p:Addr} (hp:p.block < B) (u:Value):TOwn B (w.setCell p u) ns NA nc sl:=h.block (fun k hk _=>Below.heap_setCell w p u k (by omega))
theorem TOwn.mono (h:TOwn B w ns NA nc sl) (hb:B'≤B):TOwn B' w ns NA nc sl:=⟨own_base h.nown hb,h.sll,fun i hi=>own_base (h.nxt i hi) hb,h.small,h.n63⟩
theorem TOwn.tat (h:TOwn B w ns NA nc sl) (hh:Rd w w.heap.size 2 HA hn (hoodCells hood)) (h63:hn≤maxLen):TAt w ⟨st,hood,ns⟩ HA NA hn ns.length sl:=
 ⟨hh,Rd.of_own h.nown,h.sll,fun i hi=>by
  have h1:=h.nxt i hi;refine ⟨Rd.of_own h1,?_⟩;have h2:=h1.1;rw [ints_length] at h2;have h3:=h.small (ns.getD i default) (by rw [List.getD_eq_getElem?_getD,List.getElem?_eq_getElem hi];exact List.getElem_mem hi)
  try dsimp only at h2 h3
  unfold maxLen
  omega,h63,by have:=h.n63;unfold maxLen;show ns.length≤_;omega⟩
theorem TOwn.nil (B:Nat) (w:World):TOwn B w [] none 0 []:=⟨World.ownsRow_nil _ _ _ _,rfl,fun i hi=>absurd hi (Nat.not_lt_zero _),by simp,by simp⟩
end
end Go.Proofs.YtbijfnbelkbofaaGreatDoor
namespace Go.Proofs.YtbijfnbelkbofaaGreatDoor
open Go.RowKit
structure TrAt (B:Nat) (w:World) (t:Tre) (HA:Option Addr) (hn:Nat) (NA:Option Addr) (nc:Nat) (sl:List Sl):Prop where
 own:TOwn B w t.nodes NA nc sl
 hd:Rd w w.heap.size 2 HA hn (hoodCells t.hood)
 hb:∀ k,blk HA=some k→B≤k
 hm:hn≤1000000
section
variable {B B':Nat} {w w':World} {t:Tre} {HA NA:Option Addr} {hn nc:Nat} {sl:List Sl}
theorem TrAt.tat (h:TrAt B w t HA hn NA nc sl):TAt w t HA NA hn t.nodes.length sl:=by
 obtain ⟨st,hood,ns⟩:=t;exact h.own.tat h.hd (by have:=h.hm;unfold maxLen;omega)
theorem TrAt.below (h:TrAt B w t HA hn NA nc sl) (hb:Below w.heap.size w w'):TrAt B w' t HA hn NA nc sl:=⟨h.own.below hb,h.hd.up hb,h.hb,h.hm⟩
theorem TrAt.mono (h:TrAt B w t HA hn NA nc sl) (hb:B'≤B):TrAt B' w t HA hn NA nc sl:=⟨h.own.mono hb,h.hd,fun k hk=>Nat.le_trans hb (h.hb k hk),h.hm⟩
theorem Rd.set_far {sz n:Nat} {A:Option Addr} {xs:List Value} (h:Rd w w.heap.size sz A n xs) {p:Addr} (hp:∀ k,blk A=some k→k≠p.block) (u:Value):Rd (w.setCell p u) (w.setCell p u).heap.size sz A n xs:=by
 have hs:(w.setCell p u).heap.size=w.heap.size:=by simp
 refine ⟨h.1,fun hn=>?_⟩;obtain ⟨ad,e,hlt,hc⟩:=h.2 hn;refine ⟨ad,e,by rw [hs];exact hlt,fun j v hv=>?_⟩;rw [← hc j v hv];have hne:(ad.add j).block≠p.block:=by rw [add_block];exact hp ad.block (by rw [e];rfl)
 unfold World.cell?;rw [Below.heap_setCell w p u _ hne]
theorem TrAt.set (h:TrAt B w t HA hn NA nc sl) {p:Addr} (hp:p.block < B) (u:Value):TrAt B (w.setCell p u) t HA hn NA nc sl:=
 ⟨h.own.set hp u,h.hd.set_far (fun k hk=>by have:=h.hb k hk;omega) u,h.hb,h.hm⟩
theorem TrAt.none_ (B:Nat) (w:World):TrAt B w noTre none 0 none 0 []:=⟨TOwn.nil B w,Rd.empty _,nofun,Nat.zero_le _⟩
end
def TrB (w:World) (e:Ending) (w':World):Prop:=∃ (t:Tre) (HA:Option Addr) (hn hc:Nat) (NA:Option Addr) (nc:Nat) (sl:List Sl) (k:Int),e=.returned (.tuple #[.agg #[.int .i64 t.states,.slice HA hn hc,.slice NA t.nodes.length nc],.int .i64 k])∧TrAt w.heap.size w' t HA hn NA nc sl∧Below w.heap.size w w'
theorem trB_err {w w':World} (k:Int) (hb:Below w.heap.size w w'):TrB w (.returned (.tuple #[.agg #[.int .i64 0,.slice none 0 0,.slice none 0 0],.int .i64 k])) w':=
 ⟨noTre,none,0,0,none,0,[],k,rfl,TrAt.none_ _ _,hb⟩
end Go.Proofs.YtbijfnbelkbofaaGreatDoor
namespace Go.Proofs.YtbijfnbelkbofaaGreatDoor
open Go.RowKit
structure TF (w0:World) (rb tb:Nat) (x:Tot) (HA BA SA:Option Addr) (hn hc bn bc sn sc:Nat) (w:World):Prop where
 bel:Below w0.heap.size w0 w
 b0:w0.heap.size≤rb
 rt:rb < tb
 rr:Row w rb 51 [.slice none 0 0,.int .i64 0,.slice none 0 0,.slice none 0 0]
 rx:Row w tb 51 [.slice HA hn hc,.int .i64 x.states,.slice BA bn bc,.slice SA sn sc]
 tot:TotAt w x HA BA SA hn bn sn
 fh:∀ k,blk HA=some k→rb < k∧k≠tb
 fb:∀ k,blk BA=some k→rb < k∧k≠tb
 fs:∀ k,blk SA=some k→rb < k∧k≠tb
section
variable {w0 w w1:World} {rb tb:Nat} {x:Tot} {HA BA SA:Option Addr} {hn hc bn bc sn sc:Nat}
theorem TF.below (h:TF w0 rb tb x HA BA SA hn hc bn bc sn sc w) (hb:Below w.heap.size w w1):TF w0 rb tb x HA BA SA hn hc bn bc sn sc w1:=
 ⟨h.bel.trans (hb.mono h.bel.size),h.b0,h.rt,rowCells h.rr hb,rowCells h.rx hb,h.tot.up hb,h.fh,h.fb,h.fs⟩
theorem TF.set (h:TF w0 rb tb x HA BA SA hn hc bn bc sn sc w) (i:Nat) (u:Value):Below w0.heap.size w0 (w.setCell ⟨tb,i,none⟩ u)∧Row (w.setCell ⟨tb,i,none⟩ u) rb 51 [.slice none 0 0,.int .i64 0,.slice none 0 0,.slice none 0 0]∧Row (w.setCell ⟨tb,i,none⟩ u) tb 51 ([.slice HA hn hc,.int .i64 x.states,.slice BA bn bc,.slice SA sn sc].set i u)∧TotAt (w.setCell ⟨tb,i,none⟩ u) x HA BA SA hn bn sn:=
 ⟨h.bel.setCell (p:=⟨tb,i,none⟩) (by have:=h.b0;have:=h.rt;show _≤tb;omega) u,h.rr.far (p:=⟨tb,i,none⟩) (by have:=h.rt;show rb≠tb;omega) u,h.rx.set i u,
  ⟨h.tot.h.set_far (p:=⟨tb,i,none⟩) (fun k hk=>(h.fh k hk).2) u,h.tot.b.set_far (p:=⟨tb,i,none⟩) (fun k hk=>(h.fb k hk).2) u,h.tot.s.set_far (p:=⟨tb,i,none⟩) (fun k hk=>(h.fs k hk).2) u,h.tot.hm,h.tot.bm,h.tot.sm⟩⟩
theorem own_new {w w1:World} {T:TypeId} {sz n c:Nat} {A:Option Addr} {xs:List Value} (ho:w1.ownsRow w.heap.size T sz (.slice A n c) n xs) (h1:rb < w.heap.size) (h2:tb < w.heap.size):∀ k,blk A=some k→rb < k∧k≠tb:=fun k hk=>by
 have:=(ho.lt k (by rw [own_blk];exact hk)).1;omega
theorem TF.hood {A:Option Addr} {n c:Nat} {l:List Pt} (h:TF w0 rb tb x HA BA SA hn hc bn bc sn sc w) (hb:Below w.heap.size w w1) (ho:w1.ownsRow w.heap.size 114 2 (.slice A n c) n (hoodCells l)) (hm:n≤1000000):
 TF w0 rb tb { x with hood:=l } A BA SA n c bn bc sn sc (w1.setCell ⟨tb,0,none⟩ (.slice A n c)):=by
 have h1:=h.below hb;have h2:=h1.set 0 (.slice A n c);have hf:=own_new ho h.rr.lt h.rx.lt;exact ⟨h2.1,h.b0,h.rt,h2.2.1,h2.2.2.1,⟨(Rd.of_own ho).set_far (p:=⟨tb,0,none⟩) (fun k hk=>(hf k hk).2) _,h2.2.2.2.b,h2.2.2.2.s,hm,h.tot.bm,h.tot.sm⟩,hf,h.fb,h.fs⟩
theorem TF.birth {A:Option Addr} {n c:Nat} {l:List Int} (h:TF w0 rb tb x HA BA SA hn hc bn bc sn sc w) (hb:Below w.heap.size w w1) (ho:w1.ownsRow w.heap.size 3 1 (.slice A n c) n (ints l)) (hm:n≤1000000):
 TF w0 rb tb { x with birth:=l } HA A SA hn hc n c sn sc (w1.setCell ⟨tb,2,none⟩ (.slice A n c)):=by
 have h1:=h.below hb;have h2:=h1.set 2 (.slice A n c);have hf:=own_new ho h.rr.lt h.rx.lt;exact ⟨h2.1,h.b0,h.rt,h2.2.1,h2.2.2.1,⟨h2.2.2.2.h,(Rd.of_own ho).set_far (p:=⟨tb,2,none⟩) (fun k hk=>(hf k hk).2) _,h2.2.2.2.s,h.tot.hm,hm,h.tot.sm⟩,h.fh,hf,h.fs⟩
theorem TF.surv {A:Option Addr} {n c:Nat} {l:List Int} (h:TF w0 rb tb x HA BA SA hn hc bn bc sn sc w) (hb:Below w.heap.size w w1) (ho:w1.ownsRow w.heap.size 3 1 (.slice A n c) n (ints l)) (hm:n≤1000000):
 TF w0 rb tb { x with survive:=l } HA BA A hn hc bn bc n c (w1.setCell ⟨tb,3,none⟩ (.slice A n c)):=by
 have h1:=h.below hb;have h2:=h1.set 3 (.slice A n c);have hf:=own_new ho h.rr.lt h.rx.lt;exact ⟨h2.1,h.b0,h.rt,h2.2.1,h2.2.2.1,⟨h2.2.2.2.h,h2.2.2.2.b,(Rd.of_own ho).set_far (p:=⟨tb,3,none⟩) (fun k hk=>(hf k hk).2) _,h.tot.hm,h.tot.bm,hm⟩,h.fh,h.fb,hf⟩
theorem TF.stat {v:Int} (h:TF w0 rb tb x HA BA SA hn hc bn bc sn sc w):TF w0 rb tb { x with states:=v } HA BA SA hn hc bn bc sn sc (w.setCell ⟨tb,1,none⟩ (.int .i64 v)):=by
 have h2:=h.set 1 (.int .i64 v);exact ⟨h2.1,h.b0,h.rt,h2.2.1,h2.2.2.1,⟨h2.2.2.2.h,h2.2.2.2.b,h2.2.2.2.s,h.tot.hm,h.tot.bm,h.tot.sm⟩,h.fh,h.fb,h.fs⟩
end
def TotB (w:World) (e:Ending) (w':World):Prop:=∃ (x:Tot) (HA BA SA:Option Addr) (hn hc bn bc sn sc:Nat) (k:Int),e=.returned (.tuple #[.agg #[.slice HA hn hc,.int .i64 x.states,.slice BA bn bc,.slice SA sn sc],.int .i64 k])∧TotAt w' x HA BA SA hn bn sn∧((∀ k,blk HA=some k→w.heap.size≤k)∧(∀ k,blk BA=some k→w.heap.size≤k)∧∀ k,blk SA=some k→w.heap.size≤k)∧Below w.heap.size w w'
theorem totB_err {w w':World} (k:Int) (hb:Below w.heap.size w w'):TotB w (.returned (.tuple #[.agg #[.slice none 0 0,.int .i64 0,.slice none 0 0,.slice none 0 0],.int .i64 k])) w':=
 ⟨⟨[],0,[],[]⟩,none,none,none,0,0,0,0,0,0,k,rfl,⟨Rd.empty _,Rd.empty _,Rd.empty _,Nat.zero_le _,Nat.zero_le _,Nat.zero_le _⟩,⟨nofun,nofun,nofun⟩,hb⟩
theorem TF.ret {w0 w:World} {rb tb:Nat} {x:Tot} {HA BA SA:Option Addr} {hn hc bn bc sn sc:Nat} (h:TF w0 rb tb x HA BA SA hn hc bn bc sn sc w) (k:Int):
 TotB w0 (.returned (.tuple #[.agg #[.slice HA hn hc,.int .i64 x.states,.slice BA bn bc,.slice SA sn sc],.int .i64 k])) ((((w.setCell ⟨rb,0,none⟩ (.slice HA hn hc)).setCell ⟨rb,1,none⟩ (.int .i64 x.states)).setCell ⟨rb,2,none⟩ (.slice BA bn bc)).setCell ⟨rb,3,none⟩ (.slice SA sn sc))∧Row ((((w.setCell ⟨rb,0,none⟩ (.slice HA hn hc)).setCell ⟨rb,1,none⟩ (.int .i64 x.states)).setCell ⟨rb,2,none⟩ (.slice BA bn bc)).setCell ⟨rb,3,none⟩ (.slice SA sn sc)) rb 51 [.slice HA hn hc,.int .i64 x.states,.slice BA bn bc,.slice SA sn sc]:=by
 have h0:=h.b0
 have key:∀ (W:World),TotAt W x HA BA SA hn bn sn→∀ (i:Nat) (u:Value),TotAt (W.setCell ⟨rb,i,none⟩ u) x HA BA SA hn bn sn:=fun W t i u=>
  ⟨t.h.set_far (p:=⟨rb,i,none⟩) (fun k hk=>by have:=(h.fh k hk).1;show k≠rb;omega) u,t.b.set_far (p:=⟨rb,i,none⟩) (fun k hk=>by have:=(h.fb k hk).1;show k≠rb;omega) u,t.s.set_far (p:=⟨rb,i,none⟩) (fun k hk=>by have:=(h.fs k hk).1;show k≠rb;omega) u,t.hm,t.bm,t.sm⟩
 refine ⟨⟨x,HA,BA,SA,hn,hc,bn,bc,sn,sc,k,rfl,key _ (key _ (key _ (key _ h.tot 0 _) 1 _) 2 _) 3 _,⟨fun k hk=>by have:=(h.fh k hk).1;omega,fun k hk=>by have:=(h.fb k hk).1;omega,fun k hk=>by have:=(h.fs k hk).1;omega⟩,?_⟩,((((h.rr.set 0 _).set 1 _).set 2 _).set 3 _)⟩;exact (((h.bel.setCell (p:=⟨rb,0,none⟩) h0 _).setCell (p:=⟨rb,1,none⟩) h0 _).setCell (p:=⟨rb,2,none⟩) h0 _).setCell (p:=⟨rb,3,none⟩) h0 _
theorem TF.bad {w0 w:World} {rb:Nat} (hb:Below w0.heap.size w0 w) (h0:w0.heap.size≤rb) (hr:Row w rb 51 [.slice none 0 0,.int .i64 0,.slice none 0 0,.slice none 0 0]) (k:Int):
 TotB w0 (.returned (.tuple #[.agg #[.slice none 0 0,.int .i64 0,.slice none 0 0,.slice none 0 0],.int .i64 k])) ((((w.setCell ⟨rb,0,none⟩ (.slice none 0 0)).setCell ⟨rb,1,none⟩ (.int .i64 0)).setCell ⟨rb,2,none⟩ (.slice none 0 0)).setCell ⟨rb,3,none⟩ (.slice none 0 0))∧Row ((((w.setCell ⟨rb,0,none⟩ (.slice none 0 0)).setCell ⟨rb,1,none⟩ (.int .i64 0)).setCell ⟨rb,2,none⟩ (.slice none 0 0)).setCell ⟨rb,3,none⟩ (.slice none 0 0)) rb 51 [.slice none 0 0,.int .i64 0,.slice none 0 0,.slice none 0 0]:=
 ⟨totB_err k ((((hb.setCell (p:=⟨rb,0,none⟩) h0 _).setCell (p:=⟨rb,1,none⟩) h0 _).setCell (p:=⟨rb,2,none⟩) h0 _).setCell (p:=⟨rb,3,none⟩) h0 _),(((hr.set 0 _).set 1 _).set 2 _).set 3 _⟩
theorem TF.make {w0 w w1:World} {rb:Nat} {A:Option Addr} {c:Nat} {l:List Pt} (bel:Below w0.heap.size w0 w) (h0:w0.heap.size≤rb) (rr:Row w rb 51 [.slice none 0 0,.int .i64 0,.slice none 0 0,.slice none 0 0]) (hb:Below w.heap.size w w1) (ho:w1.ownsRow w.heap.size 114 2 (.slice A l.length c) l.length (hoodCells l)) (hm:l.length≤1000000) (st:Int):
 TF w0 rb w1.heap.size ⟨l,st,[],[]⟩ A none none l.length c 0 0 0 0 (w1.alloc (.cells #[.slice A l.length c,.int .i64 st,.slice none 0 0,.slice none 0 0] 51)):=by
 have hrt:rb < w1.heap.size:=Nat.lt_of_lt_of_le rr.lt hb.size;have hd:=(Below.refl w1.heap.size w1).alloc (Nat.le_refl _) (.cells #[.slice A l.length c,.int .i64 st,.slice none 0 0,.slice none 0 0] 51)
 exact ⟨(bel.trans (hb.mono bel.size)).trans (hd.mono (Nat.le_trans bel.size hb.size)),h0,hrt,rowCells (rowCells rr hb) hd,Row.new w1 _ [.slice A l.length c,.int .i64 st,.slice none 0 0,.slice none 0 0],
  ⟨(Rd.of_own ho).up hd,Rd.empty _,Rd.empty _,hm,Nat.zero_le _,Nat.zero_le _⟩,fun k hk=>by have:=ho.lt k (by rw [own_blk];exact hk);have:=rr.lt;omega,nofun,nofun⟩
theorem rightTot_q (x:Tot) (HA BA SA:Option Addr) (hn hc bn bc sn sc:Nat) (w:World) (h:TotAt w x HA BA SA hn bn sn):
 Calls Tryz.prog 51 #[.agg #[.slice HA hn hc,.int .i64 x.states,.slice BA bn bc,.slice SA sn sc]] w fun e w'=>∃ q:Bool,e=.returned (.bool q)∧Below w.heap.size w w':=(rightTot_any x HA BA SA hn hc bn bc sn sc w h).mono fun _ _ ⟨h1,h2⟩=>⟨_,h1,h2⟩
end Go.Proofs.YtbijfnbelkbofaaGreatDoor
