/-
  Lemmas for the law TopCircuits.
-/
import Derived.Test.YtbijfnbelkbofaaGreatDoorJZ16
import Derived.Test.YtbijfnbelkbofaaGreatDoorJZ17
import Derived.Laws.BytesArg
import Derived.Lib.OthersKept
import Derived.Lib.AppendIntMem
import Derived.Lib.MinMax
import Derived.Lib.AtoiErrMem
set_option linter.unusedSimpArgs false
set_option linter.unusedVariables false
namespace Go.Proofs.YtbijfnbelkbofaaGreatDoor
open Go.RowKit
def blk (A:Option Addr):Option Nat:=A.map (·.block)
theorem own_blk (A:Option Addr) (n c:Nat):(Value.slice A n c).ownBlock=blk A:=by cases A <;> rfl
section
variable {w w':World} {base sz n:Nat} {e:TypeId} {v:Value} {xs:List Value}
theorem own_same (ho:w.ownsRow base e sz v n xs) (hk:∀ k,v.ownBlock=some k→w'.heap[k]?=w.heap[k]?):w'.ownsRow base e sz v n xs:=
 ⟨ho.1,ho.2.imp id (fun ⟨g,cap,cur,a,b,c,d⟩=>⟨g,cap,cur,a,b,(hk g (by rw [a];rfl)).trans c,d⟩)⟩
theorem Kept.own {S:Nat→Prop} (h:Kept S w w') (ho:w.ownsRow base e sz v n xs) (hs:∀ k,v.ownBlock=some k→¬ S k):w'.ownsRow base e sz v n xs:=
 own_same ho (fun k hk=>h.block k (own_lt ho k hk) (hs k hk))
theorem Kept.grown {S:Nat→Prop} {a:World} {row:Option Nat} (h:Kept S a w) (hg:w.grownBy w' row) (hr:∀ k,row=some k→S k∨a.heap.size≤k):Kept S a w':=
 ⟨hg.os.trans h.os,hg.tape.trans h.tape,hg.output.trans h.output,Nat.le_trans h.size hg.size,fun k hk hs=>(hg.block k (Nat.lt_of_lt_of_le hk h.size) (fun q=>by
  rcases hr k q.symm with h1 | h1
  ·exact hs h1
  ·omega)).trans (h.block k hk hs)⟩
end
structure BEnv where
 bb:Nat
 mb:Nat
 tb:Nat
 S:Nat
 HA:Option Addr
 hn:Nat
 hc:Nat
def BEnv.fv (E:BEnv):Value:=.func (.func 70) #[] #[.pointer (some ⟨E.tb,0,none⟩)]
structure BPos where
 NA:Option Addr
 nc:Nat
 sl:List Sl
 IA:Option Addr
 ic:Nat
def BPos.R (p:BPos) (E:BEnv) (k:Nat):Prop:=k=E.bb∨k=E.mb∨blk p.NA=some k∨blk p.IA=some k∨∃ i,i < p.sl.length∧blk (p.sl.getD i default).at_=some k
def BEnv.cells (E:BEnv) (p:BPos) (n i:Nat):List Value:=[.int .i64 (E.S:Int),.slice E.HA E.hn E.hc,.slice p.NA n p.nc,.map (some E.mb),.slice p.IA i p.ic,E.fv]
def Sl.val (s:Sl):Value:=.slice s.at_ s.len s.cap
structure BSt (w0:World) (E:BEnv) (p:BPos) (ins:List Int) (ns:List Nd) (F:Value→Option Value) (w:World):Prop where
 bel:Below w0.heap.size w0 w
 bB:w0.heap.size≤E.bb
 bM:w0.heap.size≤E.mb
 row:Row w E.bb 182 (E.cells p ns.length ins.length)
 nown:w.ownsRow w0.heap.size 65 2 (.slice p.NA ns.length p.nc) ns.length (nodesCells ns p.sl)
 iown:w.ownsRow w0.heap.size 3 1 (.slice p.IA ins.length p.ic) ins.length (ints ins)
 sll:p.sl.length=ns.length
 nxt:∀ i,i < ns.length→w.ownsRow w0.heap.size 3 1 (p.sl.getD i default).val (p.sl.getD i default).len (ints (ns.getD i default).next)
 nxI:∀ i,i < ns.length→∀ k,blk (p.sl.getD i default).at_=some k→blk p.IA≠some k
 mp:MK w Tryz.prog 9 E.mb F
structure BMove (E:BEnv) (p:BPos) (w:World) (p':BPos) (w':World):Prop where
 kept:Kept (p.R E) w w'
 old:∀ k,k < w.heap.size→p'.R E k→p.R E k
section
variable {w0 w w' w1:World} {E:BEnv} {p p' p1:BPos} {ins:List Int} {ns:List Nd} {F F':Value→Option Value}
theorem BMove.refl (E:BEnv) (p:BPos) (w:World):BMove E p w p w:=⟨Kept.refl _ _,fun _ _ h=>h⟩
theorem BMove.trans (h:BMove E p w p1 w1) (k:BMove E p1 w1 p' w'):BMove E p w p' w':=
 ⟨h.kept.trans k.kept h.old,fun i hi hr=>h.old i hi (k.old i (Nat.lt_of_lt_of_le hi h.kept.size) hr)⟩
theorem BMove.below (E:BEnv) (p:BPos) (h:Below w.heap.size w w'):BMove E p w p w':=⟨Kept.ofBelow h,fun _ _ h=>h⟩
theorem BMove.far {S:Nat→Prop} (h:BMove E p w p1 w1) (k:Kept S w1 w') (hS:∀ i,S i→w.heap.size≤i):BMove E p w p1 w':=
 ⟨h.kept.trans k (fun i hi hs=>absurd (hS i hs) (by omega)),h.old⟩
theorem BMove.not (h:BMove E p w p1 w1) {k:Nat} (hk:k < w.heap.size) (hn:¬ p.R E k):¬ p1.R E k:=fun hr=>hn (h.old k hk hr)
theorem BSt.lt (h:BSt w0 E p ins ns F w) {k:Nat} (hk:p.R E k):w0.heap.size≤k∧k < w.heap.size:=by
 rcases hk with rfl | rfl | hk | hk | ⟨i,hi,hk⟩
 ·exact ⟨h.bB,h.row.lt⟩
 ·exact ⟨h.bM,h.mp.lt⟩
 ·exact h.nown.lt k (by rw [own_blk];exact hk)
 ·exact h.iown.lt k (by rw [own_blk];exact hk)
 ·exact (h.nxt i (by rw [← h.sll];exact hi)).lt k (by unfold Sl.val;rw [own_blk];exact hk)
theorem BSt.no8 (h:BSt w0 E p ins ns F w) {k:Nat} (hk:p.R E k) (c:Array Value) (fz:Nat × Nat):w.heap[k]?≠some (.cells c 5 fz):=by
 intro e
 have key:∀ {T:TypeId} {base sz n:Nat} {v:Value} {xs:List Value},w.ownsRow base T sz v n xs→v.ownBlock=some k→T=5:=fun ho hb=>by
  obtain ⟨cur,hc,_⟩:=own_block_type ho hb;rw [hc] at e;injection e with e;injection e
 rcases hk with rfl | rfl | hk | hk | ⟨i,hi,hk⟩
 ·have:=h.row;unfold Row at this;rw [this] at e;injection e with e;injection e with _ e;exact absurd e (by decide)
 ·obtain ⟨es,clock,hb,_⟩:=h.mp;rw [hb] at e;cases e
 ·exact absurd (key h.nown (by rw [own_blk];exact hk)) (by decide)
 ·exact absurd (key h.iown (by rw [own_blk];exact hk)) (by decide)
 ·exact absurd (key (h.nxt i (by rw [← h.sll];exact hi)) (by unfold Sl.val;rw [own_blk];exact hk)) (by decide)
theorem BSt.same (h:BSt w0 E p ins ns F w) (hb:Below w0.heap.size w0 w') (hk:∀ k,p.R E k→w'.heap[k]?=w.heap[k]?):BSt w0 E p ins ns F w':=
 ⟨hb,h.bB,h.bM,(hk _ (.inl rfl)).trans h.row,own_same h.nown (fun k q=>hk k (.inr (.inr (.inl (by rw [← own_blk];exact q))))),own_same h.iown (fun k q=>hk k (.inr (.inr (.inr (.inl (by rw [← own_blk];exact q)))))),h.sll,
  fun i hi=>own_same (h.nxt i hi) (fun k q=>hk k (.inr (.inr (.inr (.inr ⟨i,by rw [h.sll];exact hi,by rw [← own_blk];exact q⟩))))),h.nxI,h.mp.block (hk _ (.inr (.inl rfl)))⟩
theorem BSt.far {S:Nat→Prop} (h:BSt w0 E p ins ns F w) (k:Kept S w w') (h0:∀ i,S i→w0.heap.size≤i) (hS:∀ i,S i→¬ p.R E i):BSt w0 E p ins ns F w':=
 h.same (h.bel.trans (k.below h0 h.bel.size)) (fun i hi=>k.block i (h.lt hi).2 (fun e=>hS i e hi))
theorem BSt.below (h:BSt w0 E p ins ns F w) (hb:Below w.heap.size w w'):BSt w0 E p ins ns F w':=h.same (h.bel.trans (hb.mono h.bel.size)) (fun k hk=>hb.block k (h.lt hk).2)
theorem BSt.ne (h:BSt w0 E p ins ns F w):blk p.NA≠some E.bb∧blk p.IA≠some E.bb∧E.mb≠E.bb∧blk p.NA≠some E.mb∧blk p.IA≠some E.mb∧(∀ k,blk p.NA=some k→blk p.IA≠some k)∧∀ i,i < ns.length→blk (p.sl.getD i default).at_≠some E.bb∧blk (p.sl.getD i default).at_≠some E.mb∧∀ k,blk p.NA=some k→blk (p.sl.getD i default).at_≠some k:=by
 have hn:=h.nown;have hi:=h.iown;refine ⟨?_,?_,h.mp.row_ne h.row,?_,?_,?_,fun i hl=>⟨?_,?_,?_⟩⟩
 ·rw [← own_blk _ ns.length p.nc];exact own_ne_row hn h.row (by decide)
 ·rw [← own_blk _ ins.length p.ic];exact own_ne_row hi h.row (by decide)
 ·rw [← own_blk _ ns.length p.nc];exact h.mp.own_ne hn
 ·rw [← own_blk _ ins.length p.ic];exact h.mp.own_ne hi
 ·intro k h1 h2;obtain ⟨c1,q1,_⟩:=own_block_type hn (k:=k) (by rw [own_blk];exact h1);obtain ⟨c2,q2,_⟩:=own_block_type hi (k:=k) (by rw [own_blk];exact h2);rw [q1] at q2;injection q2 with q2;injection q2 with _ q2;exact absurd q2 (by decide)
 ·have:=h.nxt i hl;unfold Sl.val at this;rw [← own_blk _ (p.sl.getD i default).len (p.sl.getD i default).cap];exact own_ne_row this h.row (by decide)
 ·have:=h.nxt i hl;unfold Sl.val at this;rw [← own_blk _ (p.sl.getD i default).len (p.sl.getD i default).cap];exact h.mp.own_ne this
 ·intro k h1 h2;obtain ⟨c1,q1,_⟩:=own_block_type hn (k:=k) (by rw [own_blk];exact h1);obtain ⟨c2,q2,_⟩:=own_block_type (h.nxt i hl) (k:=k) (by unfold Sl.val;rw [own_blk];exact h2);rw [q1] at q2;injection q2 with q2;injection q2 with _ q2;exact absurd q2 (by decide)
theorem BSt.setIn {IA:Option Addr} {ic:Nat} {ins':List Int} (h:BSt w0 E p ins ns F w) (hn:∀ k,blk IA=some k→blk p.IA=some k∨w.heap.size≤k) (hg:w.grownBy w' (blk p.IA)) (ho:w'.ownsRow w0.heap.size 3 1 (.slice IA ins'.length ic) ins'.length (ints ins')):
 BSt w0 E { p with IA:=IA,ic:=ic } ins' ns F (w'.setCell ⟨E.bb,4,none⟩ (.slice IA ins'.length ic))∧BMove E p w { p with IA:=IA,ic:=ic } (w'.setCell ⟨E.bb,4,none⟩ (.slice IA ins'.length ic))∧Row w' E.bb 182 (E.cells p ns.length ins.length):=by
 obtain ⟨e1,e2,e3,e4,e5,e6,e7⟩:=h.ne;have hrow:Row w' E.bb 182 (E.cells p ns.length ins.length):=h.row.grown hg (fun q=>e2 q.symm);have hK:Kept (p.R E) w w':=Kept.grown (Kept.refl _ _) hg (fun k hk=>.inl (.inr (.inr (.inr (.inl hk)))));have hK2:Kept (p.R E) w (w'.setCell ⟨E.bb,4,none⟩ (.slice IA ins'.length ic)):=hK.set (p:=⟨E.bb,4,none⟩) (.inl (.inl rfl)) _
 have hold:∀ k,k < w.heap.size→k≠E.bb→blk p.IA≠some k→(w'.setCell ⟨E.bb,4,none⟩ (.slice IA ins'.length ic)).heap[k]?=w.heap[k]?:=fun k hk h1 h2=>
  (Below.heap_setCell w' ⟨E.bb,4,none⟩ _ k h1).trans (hg.block k hk (fun q=>h2 q.symm))
 refine ⟨⟨h.bel.trans (hK2.below (fun k hk=>(h.lt hk).1) h.bel.size),h.bB,h.bM,hrow.set 4 _,own_same h.nown (fun k hk=>?_),own_set (p:=⟨E.bb,4,none⟩) ho hrow (by decide) _,h.sll,fun i hi=>own_same (h.nxt i hi) (fun k hk=>?_),fun i hi k hk=>?_,h.mp.block (hold _ h.mp.lt e3 e5)⟩,⟨hK2,fun k hk hr=>?_⟩,hrow⟩
 ·have hb:blk p.NA=some k:=by rw [← own_blk];exact hk
  exact hold k (own_lt h.nown k hk) (fun q=>e1 (q ▸ hb)) (e6 k hb)
 ·have hb:blk (p.sl.getD i default).at_=some k:=by rw [← own_blk];exact hk
  exact hold k (own_lt (h.nxt i hi) k hk) (fun q=>(e7 i hi).1 (q ▸ hb)) (h.nxI i hi k hb)
 ·show blk IA≠some k;intro q;rcases hn k q with q2 | q2
  ·exact h.nxI i hi k hk q2
  ·have:=(h.nxt i hi).lt k (by unfold Sl.val;rw [own_blk];exact hk);omega
 ·rcases hr with rfl | rfl | q | q | q
  ·exact .inl rfl
  ·exact .inr (.inl rfl)
  ·exact .inr (.inr (.inl q))
  ·rcases hn k q with q2 | q2
   ·exact .inr (.inr (.inr (.inl q2)))
   ·omega
  ·exact .inr (.inr (.inr (.inr q)))
theorem BSt.popIn {s:Int} (h:BSt w0 E p (ins ++ [s]) ns F w):BSt w0 E p ins ns F (w.setCell ⟨E.bb,4,none⟩ (.slice p.IA ins.length p.ic))∧BMove E p w p (w.setCell ⟨E.bb,4,none⟩ (.slice p.IA ins.length p.ic)):=by
 have ho:w.ownsRow w0.heap.size 3 1 (.slice p.IA ins.length p.ic) ins.length (ints ins):=by
  obtain ⟨_,q⟩:=h.iown;refine ⟨by simp,.inr ?_⟩;rcases q with ⟨q1,q2⟩ | ⟨g,cap,cur,q1,q2,q3,q4,q5,q6,q7⟩
  ·simp at q2
  ·simp only [List.length_append,List.length_singleton] at q1 q4 q7;injection q1 with r1 r2 r3;refine ⟨g,cap,cur,by rw [r1,r3],q2,q3,by omega,q5,q6,?_⟩;have:=congrArg (List.take ins.length) q7;rw [List.take_take,Nat.min_eq_left (by omega)] at this
   simpa [ints] using this
 obtain ⟨a,b,_⟩:=h.setIn (IA:=p.IA) (ic:=p.ic) (ins':=ins) (w':=w) (fun k hk=>.inl hk) ⟨rfl,rfl,rfl,Nat.le_refl _,fun _ _ _=>rfl⟩ ho;exact ⟨a,b⟩
theorem BSt.mapUp (h:BSt w0 E p ins ns F w) (hg:w.grownBy w' (some E.mb)) (hm:MK w' Tryz.prog 9 E.mb F'):BSt w0 E p ins ns F' w'∧BMove E p w p w':=by
 obtain ⟨e1,e2,e3,e4,e5,e6,e7⟩:=h.ne;have hK:Kept (p.R E) w w':=Kept.grown (Kept.refl _ _) hg (fun k hk=>.inl (.inr (.inl (by injection hk with hk;exact hk.symm))));have hold:∀ k,k < w.heap.size→k≠E.mb→w'.heap[k]?=w.heap[k]?:=fun k hk h1=>hg.block k hk (fun q=>by injection q with q;exact h1 q)
 exact ⟨⟨h.bel.trans (hK.below (fun k hk=>(h.lt hk).1) h.bel.size),h.bB,h.bM,(hold _ h.row.lt (fun q=>e3 q.symm)).trans h.row,own_same h.nown (fun k hk=>hold k (own_lt h.nown k hk) (fun q=>e4 (by rw [← q,← own_blk];exact hk))),
  own_same h.iown (fun k hk=>hold k (own_lt h.iown k hk) (fun q=>e5 (by rw [← q,← own_blk];exact hk))),h.sll,fun i hi=>own_same (h.nxt i hi) (fun k hk=>hold k (own_lt (h.nxt i hi) k hk) (fun q=>(e7 i hi).2.1 (by rw [← q,← own_blk];exact hk))),h.nxI,hm⟩,⟨hK,fun _ _ h=>h⟩⟩
theorem BSt.pushN {NA:Option Addr} {nc:Nat} {x:Nd} {s:Sl} (h:BSt w0 E p ins ns F w) (hn:∀ k,blk NA=some k→blk p.NA=some k∨w.heap.size≤k) (hg:w.grownBy w' (blk p.NA)) (ho:w'.ownsRow w0.heap.size 65 2 (.slice NA (ns.length+1) nc) (ns.length+1) (nodesCells ns p.sl ++ [.int .i64 x.level,s.val]))
 (hs:w.ownsRow w0.heap.size 3 1 s.val s.len (ints x.next)) (hf:∀ k,blk s.at_=some k→¬ p.R E k):
 BSt w0 E { p with NA:=NA,nc:=nc,sl:=p.sl ++ [s] } ins (ns ++ [x]) F (w'.setCell ⟨E.bb,2,none⟩ (.slice NA (ns.length+1) nc))∧Row w' E.bb 182 (E.cells p ns.length ins.length) ∧
  Kept (fun k=>p.R E k) w (w'.setCell ⟨E.bb,2,none⟩ (.slice NA (ns.length+1) nc))∧∀ k,k < w.heap.size→({ p with NA:=NA,nc:=nc,sl:=p.sl ++ [s] }:BPos).R E k→p.R E k∨blk s.at_=some k:=by
 obtain ⟨e1,e2,e3,e4,e5,e6,e7⟩:=h.ne;have hrow:Row w' E.bb 182 (E.cells p ns.length ins.length):=h.row.grown hg (fun q=>e1 q.symm);have hK:Kept (p.R E) w w':=Kept.grown (Kept.refl _ _) hg (fun k hk=>.inl (.inr (.inr (.inl hk))));have hK2:Kept (p.R E) w (w'.setCell ⟨E.bb,2,none⟩ (.slice NA (ns.length+1) nc)):=hK.set (p:=⟨E.bb,2,none⟩) (.inl (.inl rfl)) _
 have hold:∀ k,k < w.heap.size→k≠E.bb→blk p.NA≠some k→(w'.setCell ⟨E.bb,2,none⟩ (.slice NA (ns.length+1) nc)).heap[k]?=w.heap[k]?:=fun k hk h1 h2=>
  (Below.heap_setCell w' ⟨E.bb,2,none⟩ _ k h1).trans (hg.block k hk (fun q=>h2 q.symm))
 have hget:∀ i,i < ns.length→(p.sl ++ [s]).getD i default=p.sl.getD i default:=fun i hi=>gsl_old p.sl s i (by rw [h.sll];exact hi)
 have hgl:(p.sl ++ [s]).getD ns.length default=s:=by rw [← h.sll];exact gsl_snoc p.sl s
 have hnd:∀ i,i < ns.length→(ns ++ [x]).getD i default=ns.getD i default:=fun i hi=>by
  simp only [List.getD_eq_getElem?_getD];rw [List.getElem?_append_left hi]
 have hnl:(ns ++ [x]).getD ns.length default=x:=by simp [List.getD_eq_getElem?_getD]
 have hlen:(ns ++ [x]).length=ns.length+1:=by simp
 refine ⟨⟨h.bel.trans (hK2.below (fun k hk=>(h.lt hk).1) h.bel.size),h.bB,h.bM,?_,?_,own_same h.iown (fun k hk=>?_),by simp [h.sll],fun i hi=>?_,fun i hi k hk=>?_,h.mp.block (hold _ h.mp.lt e3 e4)⟩,hrow,hK2,fun k hk hr=>?_⟩
 ·rw [hlen];exact hrow.set 2 _
 ·rw [hlen,nodesCells_snoc _ _ _ _ h.sll];exact own_set (p:=⟨E.bb,2,none⟩) ho hrow (by decide) _
 ·have hb:blk p.IA=some k:=by rw [← own_blk];exact hk
  exact hold k (own_lt h.iown k hk) (fun q=>e2 (q ▸ hb)) (fun q=>e6 k q hb)
 ·rw [hlen] at hi;show World.ownsRow _ _ _ _ ((p.sl ++ [s]).getD i default).val ((p.sl ++ [s]).getD i default).len _;rcases Nat.lt_or_ge i ns.length with hl | hl
  ·rw [hget i hl,hnd i hl]
   exact own_same (h.nxt i hl) (fun k hk=>by
    have hb:blk (p.sl.getD i default).at_=some k:=by rw [← own_blk];exact hk
    exact hold k (own_lt (h.nxt i hl) k hk) (fun q=>(e7 i hl).1 (q ▸ hb)) (fun q=>(e7 i hl).2.2 k q hb))
  ·obtain rfl:i=ns.length:=by omega
   rw [hgl,hnl]
   exact own_same hs (fun k hk=>by
    have hb:blk s.at_=some k:=by rw [← own_blk];exact hk
    exact hold k (own_lt hs k hk) (fun q=>hf k hb (.inl q)) (fun q=>hf k hb (.inr (.inr (.inl q)))))
 ·rw [hlen] at hi;change blk ((p.sl ++ [s]).getD i default).at_=some k at hk;rcases Nat.lt_or_ge i ns.length with hl | hl
  ·rw [hget i hl] at hk;exact h.nxI i hl k hk
  ·obtain rfl:i=ns.length:=by omega
   rw [hgl] at hk;exact fun q=>hf k hk (.inr (.inr (.inr (.inl q))))
 ·rcases hr with rfl | rfl | q | q | ⟨i,hi,q⟩
  ·exact .inl (.inl rfl)
  ·exact .inl (.inr (.inl rfl))
  ·rcases hn k q with q2 | q2
   ·exact .inl (.inr (.inr (.inl q2)))
   ·omega
  ·exact .inl (.inr (.inr (.inr (.inl q))))
  ·change i < (p.sl ++ [s]).length at hi;change blk ((p.sl ++ [s]).getD i default).at_=some k at q;rw [List.length_append,List.length_singleton,h.sll] at hi;rcases Nat.lt_or_ge i ns.length with hl | hl
   ·rw [hget i hl] at q;exact .inl (.inr (.inr (.inr (.inr ⟨i,by rw [h.sll];exact hl,q⟩))))
   ·obtain rfl:i=ns.length:=by omega
    rw [hgl] at q;exact .inr q
end
theorem BSt.congrF {w0 w:World} {E:BEnv} {p:BPos} {ins:List Int} {ns:List Nd} {F F':Value→Option Value} (h:BSt w0 E p ins ns F w) (hf:∀ v,F' v=F v):BSt w0 E p ins ns F' w:=by
 obtain rfl:F'=F:=funext hf;exact h
theorem BMove.push {E:BEnv} {p p1 p':BPos} {w w1 w':World} {A:Option Addr} (h:BMove E p w p1 w1) (hk:Kept (p1.R E) w1 w') (ho:∀ k,k < w1.heap.size→p'.R E k→p1.R E k∨blk A=some k) (hA:∀ k,blk A=some k→w.heap.size≤k):BMove E p w p' w':=
 ⟨h.kept.trans hk h.old,fun k hk1 hr=>by
  rcases ho k (Nat.lt_of_lt_of_le hk1 h.kept.size) hr with q | q
  ·exact h.old k hk1 q
  ·have:=hA k q;omega⟩
structure XSt (E:BEnv) (p:BPos) (e0 xb:Nat) (lev:Int) (XA:Option Addr) (xc:Nat) (next:List Int) (w:World):Prop where
 row:Row w xb 65 [.int .i64 lev,.slice XA next.length xc]
 own:w.ownsRow e0 3 1 (.slice XA next.length xc) next.length (ints next)
 eb:e0≤xb
 nb:¬ p.R E xb
 na:∀ k,blk XA=some k→¬ p.R E k
structure KSt (E:BEnv) (p:BPos) (e0:Nat) (KA:Option Addr) (kc:Nat) (txt:List UInt8) (w:World):Prop where
 own:w.ownsRow e0 5 1 (.slice KA txt.length kc) txt.length (Lib.byteCells txt)
section
variable {w0 w w' w1:World} {E:BEnv} {p p' p1:BPos} {ins:List Int} {ns:List Nd} {F F':Value→Option Value} {e0 xb:Nat} {lev:Int} {XA KA:Option Addr} {xc kc:Nat} {next:List Int} {txt:List UInt8}
theorem XSt.far {S:Nat→Prop} (h:XSt E p e0 xb lev XA xc next w) (k:Kept S w w') (h1:¬ S xb) (h2:∀ i,blk XA=some i→¬ S i):XSt E p e0 xb lev XA xc next w':=
 ⟨k.row h.row h1,k.own h.own (fun i hi=>h2 i (by rw [← own_blk];exact hi)),h.eb,h.nb,h.na⟩
theorem XSt.move (h:XSt E p e0 xb lev XA xc next w) (m:BMove E p w p' w'):XSt E p' e0 xb lev XA xc next w':=
 ⟨m.kept.row h.row h.nb,m.kept.own h.own (fun i hi=>h.na i (by rw [← own_blk];exact hi)),h.eb,m.not h.row.lt h.nb,fun k hk=>m.not (own_lt h.own k (by rw [own_blk];exact hk)) (h.na k hk)⟩
theorem KSt.far {S:Nat→Prop} (h:KSt E p e0 KA kc txt w) (k:Kept S w w') (h2:∀ i,blk KA=some i→¬ S i):KSt E p e0 KA kc txt w':=
 ⟨k.own h.own (fun i hi=>h2 i (by rw [← own_blk];exact hi))⟩
theorem KSt.notR (h:KSt E p e0 KA kc txt w) (hb:BSt w0 E p ins ns F w):∀ k,blk KA=some k→¬ p.R E k:=fun k hk hr=>by
 obtain ⟨cur,hc,_⟩:=own_block_type h.own (k:=k) (by rw [own_blk];exact hk);exact hb.no8 hr cur (0,0) hc
theorem KSt.move (h:KSt E p e0 KA kc txt w) (hb:BSt w0 E p ins ns F w) (m:BMove E p w p' w'):KSt E p' e0 KA kc txt w':=
 ⟨m.kept.own h.own (fun i hi=>h.notR hb i (by rw [← own_blk];exact hi))⟩
def U8 (w:World) (e0:Nat) (k:Nat):Prop:=e0≤k∧(w.heap.size≤k∨∃ c fz,w.heap[k]?=some (.cells c 5 fz))
theorem kept_u8 (hb:Below e0 w w') (ho:Lib.OthersKept 5 none w w'):Kept (U8 w e0) w w':=
 ⟨hb.os,hb.tape,hb.output,hb.size,fun k hk hs=>by
  rcases Nat.lt_or_ge k e0 with hl | hl
  ·exact hb.block k hl
  ·have hx:w.heap[k]?=some w.heap[k]:=Array.getElem?_eq_getElem hk
   refine (ho k w.heap[k] hx (by simp) (fun c fz e=>hs ⟨hl,.inr ⟨c,fz,by rw [hx,e]⟩⟩)).trans hx.symm⟩
theorem BSt.u8 (h:BSt w0 E p ins ns F w) (hk:Kept (U8 w e0) w w') (h0:w0.heap.size≤e0):BSt w0 E p ins ns F w':=
 h.far hk (fun i hi=>Nat.le_trans h0 hi.1) (fun i hi hr=>by
  rcases hi.2 with h1 | ⟨c,fz,h1⟩
  ·have:=(h.lt hr).2;omega
  ·exact h.no8 hr c fz h1)
theorem XSt.u8 (h:XSt E p e0 xb lev XA xc next w) (hk:Kept (U8 w e0) w w'):XSt E p e0 xb lev XA xc next w':=by
 refine h.far hk (fun hi=>?_) (fun i hb hi=>?_)
 ·rcases hi.2 with h1 | ⟨c,fz,h1⟩
  ·have:=h.row.lt;omega
  ·have:=h.row;unfold Row at this;rw [this] at h1;injection h1 with h1;injection h1 with _ h1;exact absurd h1 (by decide)
 ·obtain ⟨cur,hc,_⟩:=own_block_type h.own (k:=i) (by rw [own_blk];exact hb);rcases hi.2 with h1 | ⟨c,fz,h1⟩
  ·have:=own_lt h.own i (by rw [own_blk];exact hb);omega
  ·rw [hc] at h1;injection h1 with h1;injection h1 with _ h1;exact absurd h1 (by decide)
theorem BMove.u8 (h:BMove E p w p1 w1) (hk:Kept (U8 w1 e0) w1 w') (h0:w.heap.size≤e0):BMove E p w p1 w':=h.far hk (fun i hi=>Nat.le_trans h0 hi.1)
theorem XSt.push {XA':Option Addr} {xc':Nat} {k:Int} (h:XSt E p e0 xb lev XA xc next w) (hb:BSt w0 E p ins ns F w) (hn:∀ i,blk XA'=some i→blk XA=some i∨w.heap.size≤i) (hg:w.grownBy w' (blk XA)) (ho:w'.ownsRow e0 3 1 (.slice XA' (next ++ [k]).length xc') (next ++ [k]).length (ints (next ++ [k]))):
 XSt E p e0 xb lev XA' xc' (next ++ [k]) (w'.setCell ⟨xb,1,none⟩ (.slice XA' (next ++ [k]).length xc'))∧Kept (fun i=>i=xb∨blk XA=some i) w (w'.setCell ⟨xb,1,none⟩ (.slice XA' (next ++ [k]).length xc'))∧Row w' xb 65 [.int .i64 lev,.slice XA next.length xc]:=by
 have hne:blk XA≠some xb:=by rw [← own_blk _ next.length xc];exact own_ne_row h.own h.row (by decide)
 have hrow:Row w' xb 65 [.int .i64 lev,.slice XA next.length xc]:=h.row.grown hg (fun q=>hne q.symm);refine ⟨⟨hrow.set 1 _,own_set (p:=⟨xb,1,none⟩) ho hrow (by decide) _,h.eb,h.nb,fun i hi hr=>?_⟩,Kept.set (Kept.grown (Kept.refl _ _) hg (fun k hk=>.inl (.inr hk))) (p:=⟨xb,1,none⟩) (.inl (.inl rfl)) _,hrow⟩;rcases hn i hi with q | q
 ·exact h.na i q hr
 ·have:=(hb.lt hr).2;omega
theorem XSt.notR (h:XSt E p e0 xb lev XA xc next w):∀ i,(i=xb∨blk XA=some i)→e0≤i∧¬ p.R E i:=fun i hi=>by
 rcases hi with rfl | hi
 ·exact ⟨h.eb,h.nb⟩
 ·exact ⟨(h.own.lt i (by rw [own_blk];exact hi)).1,h.na i hi⟩
theorem KSt.notX (h:KSt E p e0 KA kc txt w) (hx:XSt E p e0 xb lev XA xc next w):∀ i,blk KA=some i→¬ (i=xb∨blk XA=some i):=fun i hi hq=>by
 obtain ⟨cur,hc,_⟩:=own_block_type h.own (k:=i) (by rw [own_blk];exact hi);rcases hq with rfl | hq
 ·have:=hx.row;unfold Row at this;rw [this] at hc;injection hc with hc;injection hc with _ hc;exact absurd hc (by decide)
 ·obtain ⟨cur2,hc2,_⟩:=own_block_type hx.own (k:=i) (by rw [own_blk];exact hq);rw [hc] at hc2;injection hc2 with hc2;injection hc2 with _ hc2;exact absurd hc2 (by decide)
end
set_option maxRecDepth 100000 in
theorem conv_txt (w:World) {e0 kc n:Nat} {KA:Option Addr} {txt:List UInt8} (h:w.ownsRow e0 5 1 (.slice KA n kc) n (Lib.byteCells txt)) (hl:txt.length=n):
 (convert 156 9 (.slice KA n kc)).run Tryz.prog w=Result.ok (.string (KT.mkS txt)) w:=by
 have hs:strOfNums (txt.map fun b=>(b.toNat:Int))=KT.mkS txt:=by
  unfold KT.mkS;have h1:=strOfNums_data (txt.map fun b=>(b.toNat:Int))
  have h2:(txt.map fun b=>(b.toNat:Int)).map (fun n=>UInt8.ofNat n.toNat)=txt:=by
   rw [List.map_map]
   conv=>rhs;rw [← List.map_id txt]
   refine List.map_congr_left fun b _=>?_
   simp
  rw [h2] at h1
  have h3:∀ a b:ByteArray,a.data.toList=b.data.toList→a=b:=fun a b hab=>by
   cases a;cases b
   congr;exact Array.toList_inj.1 hab
  exact h3 _ _ (by rw [h1])
 rcases h.2 with ⟨e1,e2⟩ | ⟨g,cap,cur,e1,_,hg,hn,_,hcs,ht⟩
 ·subst e2;injection e1 with r1 r2 r3;subst r1;have:txt=[]:=List.eq_nil_of_length_eq_zero hl;subst this;exact (run_convert_bytes_nil (P:=Tryz.prog) w 156 5 Tryz.underlying156 Tryz.underlying5 _ _ 9 Tryz.underlying9).trans rfl
 ·injection e1 with r1 r2 r3;subst r1;refine (run_convert_bytes_arg (P:=Tryz.prog) w 156 5 Tryz.underlying156 Tryz.underlying5 g 0 n kc (txt.map fun b=>(b.toNat:Int)) (by rw [List.length_map];exact hl) (fun i hi=>?_) 9 Tryz.underlying9).trans (congrArg (fun s=>Result.ok (Value.string s) w) hs)
  have hcell:w.cell? ⟨g,0+i,none⟩=(Lib.byteCells txt)[i]?:=by
   rw [cell_of_row w g (0+i) cur 5 (0,0) hg,← ht,List.getElem?_take,if_pos (by omega)]
   simp
  rw [hcell];unfold Lib.byteCells;rw [List.getElem?_map,List.getElem?_eq_getElem (by omega),List.getD_eq_getElem?_getD,List.getElem?_map,List.getElem?_eq_getElem (by omega)];rfl
end Go.Proofs.YtbijfnbelkbofaaGreatDoor
namespace Go.Proofs.YtbijfnbelkbofaaGreatDoor
open Go.RowKit
theorem pt_infoJ:(Tryz.prog.info? 114).map (fun i=>(i.zero,i.size,i.bytes))=some (some (.agg #[.int .i64 0,.int .i64 0]),2,16):=by kernel_rfl
def colL (P:Int→Int→Bool) (k:Nat):List Pt:=(List.range k).flatMap (fun m=>if P (((m % 3:Nat):Int) - 1) (((m / 3:Nat):Int) - 1) then [⟨((m % 3:Nat):Int) - 1,((m / 3:Nat):Int) - 1⟩] else [])
theorem colL_succ (P:Int→Int→Bool) (k:Nat):colL P (k+1)=colL P k ++ (if P (((k % 3:Nat):Int) - 1) (((k / 3:Nat):Int) - 1) then [⟨((k % 3:Nat):Int) - 1,((k / 3:Nat):Int) - 1⟩] else []):=by
 unfold colL;rw [List.range_succ,List.flatMap_append];simp only [List.flatMap_cons,List.flatMap_nil,List.append_nil]
theorem colL_len (P:Int→Int→Bool):∀ k,(colL P k).length≤k
 | 0=>Nat.le_refl _
 | k+1=>by
  have:=colL_len P k;rw [colL_succ,List.length_append];have h:∀ (q:Bool) (p:Pt),(if q then [p] else []).length≤1:=by intro q p;cases q <;> simp
  have:=h (P (((k % 3:Nat):Int) - 1) (((k / 3:Nat):Int) - 1)) ⟨((k % 3:Nat):Int) - 1,((k / 3:Nat):Int) - 1⟩;omega
def colAt (P:Int→Int→Bool) (x y:Int):List Pt:=colL P (3 * (y+1).toNat+(x+1).toNat)
theorem colAt_next {P:Int→Int→Bool} {x y:Int} (hx:-1≤x∧x≤1) (hy:-1≤y∧y≤1):colAt P (x+1) y=colAt P x y ++ (if P x y then [⟨x,y⟩] else []):=by
 unfold colAt;have e:3 * (y+1).toNat+(x+1+1).toNat=(3 * (y+1).toNat+(x+1).toNat)+1:=by omega
 rw [e,colL_succ];have e1:(((3 * (y+1).toNat+(x+1).toNat) % 3:Nat):Int) - 1=x:=by omega
 have e2:(((3 * (y+1).toNat+(x+1).toNat) / 3:Nat):Int) - 1=y:=by omega
 rw [e1,e2]
theorem colAt_row {P:Int→Int→Bool} {y:Int} (hy:-1≤y∧y≤1):colAt P (-1) (y+1)=colAt P 2 y:=by
 unfold colAt;congr 1;omega
theorem colAt_len {P:Int→Int→Bool} {x y:Int} (hx:-1≤x∧x≤2) (hy:-1≤y∧y≤2):(colAt P x y).length≤12:=by
 have:=colL_len P (3 * (y+1).toNat+(x+1).toNat);unfold colAt;omega
def ColPost (l:List Pt) (w:World) (e:Ending) (w':World):Prop:=∃ A c,e=.returned (.slice A l.length c)∧w'.ownsRow w.heap.size 114 2 (.slice A l.length c) l.length (hoodCells l)∧Below w.heap.size w w'
set_option maxRecDepth 100000 in
set_option maxHeartbeats 4000000 in
theorem collect_any (P:Int→Int→Bool) (ip:FuncId) (cp:Array Value) (w:World) (ep:∀ args w,(callFunc ip args).run Tryz.prog w=.ok (.enter ip args) w)
 (hp:∀ (x y:Int) (W:World),-1≤x∧x≤1→-1≤y∧y≤1→Below w.heap.size w W→Calls Tryz.prog ip (#[.int .i64 x,.int .i64 y] ++ cp) W fun e w'=>e=.returned (.bool (P x y))∧Below W.heap.size W w'):
 Calls Tryz.prog 96 #[.int .i64 1,.func (.func ip) #[] cp] w (ColPost (colL P 9) w):=by
 have HP:=hiD hp;clear hp;go_enter Tryz.func96,Tryz.ntmps96;go_wp2_with fail
 go_loopg [5,6,7] 3 (fun gg s5 s6 _ wr=>∃ (y:Int) (A:Option Addr) (c:Nat),-1≤y∧y≤2∧(2 - y).toNat≤gg∧s6=.int .i64 y∧s5=.slice A (colAt P (-1) y).length c∧Aside (wr.ownsRow w.heap.size 114 2 (.slice A (colAt P (-1) y).length c) (colAt P (-1) y).length (hoodCells (colAt P (-1) y))∧Below w.heap.size w wr))
 case atStart=>exact ⟨-1,none,0,by omega,by omega,by omega,rfl,rfl,World.ownsRow_nil _ _ _ _,Below.refl _ _⟩
 case round=>
  obtain ⟨y,A,c,hy0,hy1,hgg,rfl,rfl,hv⟩:=hrel
  obtain ⟨wo,hwo⟩:∃ wo:World,wo=wr:=⟨_,rfl⟩
  have HO:=hiD hv.out.1;have HB:=hiD hv.out.2;clear hv;by_cases hlt:y≤1
  ·rw [← hwo] at HO HB ⊢;clear hwo wr;go_wp2_with fail
   go_loopg [5,7] 3 (fun gg s5 s7 wr=>∃ (x:Int) (A:Option Addr) (c:Nat),-1≤x∧x≤2∧(2 - x).toNat≤gg∧s7=.int .i64 x∧s5=.slice A (colAt P x y).length c∧Aside (wr.ownsRow w.heap.size 114 2 (.slice A (colAt P x y).length c) (colAt P x y).length (hoodCells (colAt P x y))∧Below w.heap.size w wr))
   case atStart=>exact ⟨-1,A,c,by omega,by omega,by omega,rfl,rfl,HO.out,HB.out⟩
   case round=>
    obtain ⟨x,A,c,hx0,hx1,hgg,rfl,rfl,hv⟩:=hrel;have HO:=hiD hv.out.1;have HB:=hiD hv.out.2;clear hv;by_cases hltx:x≤1
    ·have HN:=hiD (colAt_next (P:=P) (x:=x) (y:=y) ⟨hx0,hltx⟩ ⟨hy0,hlt⟩);have HC:=hiD (HP.out x y wr ⟨hx0,hltx⟩ ⟨hy0,hlt⟩ HB.out);have hle:=colAt_len (P:=P) (x:=x) (y:=y) ⟨hx0,hx1⟩ ⟨hy0,hy1⟩;go_wp2_with fail;refine HC.out.mono ?_;rintro e w1 ⟨rfl,hb⟩;clear HC;have HB1:=hiD (HB.out.trans (hb.mono HB.out.size));have HO1:=hiD (own_same HO.out (fun k hk=>hb.block k (own_lt HO.out k hk)));have hsz:w.heap.size≤w1.heap.size:=HB1.out.size;clear hb HO HB
     cases hq:P x y with
     | false=>
      have HE:Hid (colAt P (x+1) y=colAt P x y):=hiD (by rw [HN.out,hq];simp);clear hq;go_wp2_with fail;go_roundg (2 - (x+1)).toNat
      case measure=>omega
      case rel=>exact ⟨x+1,A,c,by omega,by omega,by omega,by go_num,by rw [HE.out],by rw [HE.out];exact ⟨HO1.out,HB1.out⟩⟩
     | true=>
      have HE:Hid (colAt P (x+1) y=colAt P x y ++ [⟨x,y⟩]):=hiD (by rw [HN.out,hq];rfl);clear hq HN
      obtain ⟨l2,hl2⟩:∃ l2,colAt P (x+1) y=l2:=⟨_,rfl⟩
      have HL2:=hiD hl2;rw [hl2] at HE;clear hl2;revert HE HO1;revert hle;generalize colAt P x y=l1;intro hle HO1 HE
      go_wp2_with (at_builtin;refine wpList_app rfl (.tmp 26) (.tmp 30) 24 rfl w.heap.size 114 (.agg #[.int .i64 0,.int .i64 0]) 2 16 Tryz.underlying24 pt_infoJ rfl (by decide) (by decide) (.slice A l1.length c) l1.length (hoodCells l1) rfl ?own (w1.heap.size+1) (some ⟨w1.heap.size,0,none⟩) 1 1 [.int .i64 x,.int .i64 y] rfl ?rd ?one ?hb ?hbase ?_)
      case own=>exact HO1.out.alloc _
      case rd=>exact Rd.lit w1 #[.int .i64 x,.int .i64 y] 114 (sz:=2) (m:=1) rfl
      case one=>intro u hu;simp at hu;rcases hu with rfl | rfl <;> rfl
      case hb=>omega
      case hbase=>first | (simp;omega) | omega
      intro v' w' hown' hgrow' hat';obtain ⟨A2,c2,rfl,_⟩:=Rd.own hown';have hl2:l2.length=l1.length+1:=by rw [HE.out];simp
      have hcat:hoodCells l1 ++ [.int .i64 x,.int .i64 y]=hoodCells l2:=by rw [HE.out];simp [hoodCells,ptCells]
      rw [hcat] at hown';have HO2:=hiD hown';have HB2:Hid (Below w.heap.size w w'):=hiD ((HB1.out.alloc hsz _).grown hgrow' (by rw [World.size_alloc];omega) (fun k hk=>((World.ownsRow.lt HO1.out k hk).1)));clear hown' hgrow' hat' hcat HO1 HB1;go_wp2_with fail;go_roundg (2 - (x+1)).toNat
      case measure=>omega
      case rel=>exact ⟨x+1,A2,c2,by omega,by omega,by omega,by go_num,by rw [HL2.out,hl2],by rw [HL2.out,hl2];exact ⟨HO2.out,HB2.out⟩⟩
    ·obtain rfl:x=2:=by omega
     have HE:=hiD (colAt_row (P:=P) (y:=y) ⟨hy0,hlt⟩);go_wp2_with fail;go_roundg (2 - (y+1)).toNat
     case measure=>omega
     case rel=>exact ⟨y+1,A,c,by omega,by omega,by omega,by go_num,by rw [HE.out],by rw [HE.out];exact ⟨HO.out,HB.out⟩⟩
  ·obtain rfl:y=2:=by omega
   clear hwo;go_wp2_with fail;go_ret;exact ⟨A,c,rfl,HO.out,HB.out⟩
end Go.Proofs.YtbijfnbelkbofaaGreatDoor
namespace Go.Proofs.YtbijfnbelkbofaaGreatDoor
open Go.RowKit
def ascF:Int→List Int→Int→Bool
 | _,[],_=>true
 | last,k :: l,n=>!decide (k≤last) && !decide (n < k) && ascF k l n
def ascB (l:List Int) (n:Int):Bool:=ascF (-1) l n
set_option maxHeartbeats 2000000 in
theorem ascends_any (l:List Int) (A:Option Addr) (n c:Nat) (m:Int) (w:World) (hr:Rd w w.heap.size 1 A n (ints l)) (hm:n≤maxLen):
 Calls Tryz.prog 101 #[.slice A n c,.int .i64 m] w fun e w'=>e=.returned (.bool (ascB l m))∧w'=w:=by
 have HR:=hiD hr;have hl:l.length=n:=by have:=hr.1;rw [ints_length] at this;omega
 have HS:Hid (ascF (-1) (l.drop 0) m=ascB l m):=hiD (by rw [List.drop_zero];rfl);have HM:=hiD hm;clear hr hm;go_enter Tryz.func101,Tryz.ntmps101;go_wp2
 go_loopg [5,7,10] n (fun gg s5 _ s10 wr=>∃ (i:Nat) (z:Int),i≤n∧n - i≤gg∧s10=.int .i64 (i:Int)∧s5=.int .i64 z∧wr=w∧Aside (ascF z (l.drop i) m=ascB l m))
 case atStart=>exact ⟨0,-1,Nat.zero_le _,by omega,rfl,rfl,rfl,HS.out⟩
 case round=>
  obtain ⟨i,z,hi,hgg,rfl,rfl,rfl,hv⟩:=hrel;have HV:=hiD hv.out;clear hv HS;have hn63:n≤9223372036854775807:=HM.out;by_cases hlt:i < n
  ·have hltz:(i:Int) < (n:Int):=by omega
   obtain ⟨ad,rfl,hlad,c0⟩:=HR.out.int hlt
   have HE:Hid (ascF z (l.drop i) m=(!decide (l.getD i 0≤z) && !decide (m < l.getD i 0) && ascF (l.getD i 0) (l.drop (i+1)) m)):=hiD (by
    rw [List.drop_eq_getElem_cons (by omega),ascF,List.getD_eq_getElem?_getD,List.getElem?_eq_getElem (by omega)]
    rfl)
   revert c0 HE;generalize l.getD i 0=k;intro c0 HE;by_cases h1:k≤z
   ·have d1:decide (k≤z)=true:=decide_eq_true h1;have HF:Hid (ascB l m=false):=hiD (by rw [← HV.out,HE.out,d1];rfl);go_wp2;go_ret;rw [HF.out];exact ⟨rfl,rfl⟩
   ·have d1:decide (k≤z)=false:=decide_eq_false h1;by_cases h2:m < k
    ·have d2:decide (m < k)=true:=decide_eq_true h2;have HF:Hid (ascB l m=false):=hiD (by rw [← HV.out,HE.out,d1,d2];rfl);go_wp2;go_ret;rw [HF.out];exact ⟨rfl,rfl⟩
    ·have d2:decide (m < k)=false:=decide_eq_false h2;have HN:Hid (ascF k (l.drop (i+1)) m=ascB l m):=hiD (by rw [← HV.out,HE.out,d1,d2];rfl);clear h1 h2;go_wp2;go_roundg (n - (i+1))
     case measure=>omega
     case rel=>exact ⟨i+1,k,by omega,by omega,by go_num,rfl,rfl,HN.out⟩
  ·obtain rfl:i=n:=by omega
   have HF:Hid (ascB l m=true):=hiD (by rw [← HV.out,List.drop_eq_nil_of_le (by omega)];rfl);go_wp2;go_ret;rw [HF.out];exact ⟨rfl,rfl⟩
def mooreL:List Pt:=colL (fun _ _=>true) 9
def neumL:List Pt:=colL (fun x y=>decide (max x (-x)+max y (-y)≤1)) 9
def hexL:List Pt:=colL (fun x y=>decide (0≤x * y)) 9
theorem moore_any (w:World):Calls Tryz.prog 46 #[.int .i64 1] w (ColPost mooreL w):=by
 have HC:=hiD (collect_any (fun _ _=>true) 97 #[] w (enters Tryz.func97 (by kernel_rfl) rfl) (fun x y W hx hy hb=>by
  go_enter Tryz.func97,Tryz.ntmps97;go_wp2;go_ret
  exact ⟨rfl,Below.refl _ _⟩))
 go_enter Tryz.func46,Tryz.ntmps46;go_wp2_with fail;refine HC.out.mono ?_;rintro e w1 ⟨A,c,rfl,h1,h2⟩;have H1:=hiD h1;have H2:=hiD h2;clear h1 h2 HC;go_wp2_with fail;go_ret;exact ⟨A,c,rfl,H1.out,H2.out⟩
theorem hex_any (w:World):Calls Tryz.prog 49 #[] w (ColPost hexL w):=by
 have HC:=hiD (collect_any (fun x y=>decide (0≤x * y)) 100 #[] w (enters Tryz.func100 (by kernel_rfl) rfl) (fun x y W hx hy hb=>by
  have key:∀ z:Int,z=x * y→-1≤z∧z≤1:=fun z hz=>by
   obtain ⟨x0,x1⟩:=hx;have hx3:x=-1∨x=0∨x=1:=by omega
   rcases hx3 with rfl | rfl | rfl <;> omega
  obtain ⟨z,hz⟩:∃ z,z=x * y:=⟨_,rfl⟩
  obtain ⟨k0,k1⟩:=key z hz;have hw:IntKind.i64.wrap (x * y)=z:=by rw [← hz];exact IntWalk.i64_in _ (by omega)
  rw [← hz];clear key hz hb;go_enter Tryz.func100,Tryz.ntmps100;go_wp2;go_ret
  exact ⟨rfl,Below.refl _ _⟩))
 go_enter Tryz.func49,Tryz.ntmps49;go_wp2_with fail;refine HC.out.mono ?_;rintro e w1 ⟨A,c,rfl,h1,h2⟩;have H1:=hiD h1;have H2:=hiD h2;clear h1 h2 HC;go_wp2_with fail;go_ret;exact ⟨A,c,rfl,H1.out,H2.out⟩
end Go.Proofs.YtbijfnbelkbofaaGreatDoor
