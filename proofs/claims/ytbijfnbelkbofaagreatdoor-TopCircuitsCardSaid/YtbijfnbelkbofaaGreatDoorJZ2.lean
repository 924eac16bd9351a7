/-
  Lemmas for the law TopCircuits.
-/
import Derived.Test.YtbijfnbelkbofaaGreatDoorJZ1
import Derived.Maps.AppendAt
import Derived.RegionTactic
import Derived.Deep.QuietTactic
set_option linter.unusedSimpArgs false
set_option linter.unusedVariables false
namespace Go.Proofs.YtbijfnbelkbofaaGreatDoor
open Go.RowKit
structure Wk where
 gates:List Gt
 tq:List Int
def operandsO (op:Int):Int:=if op=0∨op=1 then 0 else if op=2 then 1 else 2
theorem operandsO_bd (op:Int):0≤operandsO op∧operandsO op≤2:=by unfold operandsO;split <;> (try split) <;> omega
def toAt (tq:List Int) (w:Int):Int:=tq.getD w.toNat 0
def moveG (tq:List Int) (g:Gt):Gt:=⟨g.op,if 1≤operandsO g.op then toAt tq g.a else g.a,if operandsO g.op=2 then toAt tq g.b else g.b⟩
def startW (n:Int):Wk:=⟨[],(List.range n.toNat).map Int.ofNat⟩
def addW (n:Int) (s:Wk) (p:Gt × Int):Wk:=⟨s.gates ++ [p.1],s.tq ++ [if p.2 < 0 then n+s.gates.length else p.2]⟩
def doneW (c:Circ) (s:Wk):Circ:=⟨c.inputs,s.gates,c.outs.map (toAt s.tq)⟩
def isW (n:Int) (gs:List Gt) (w op:Int):Bool:=decide (n≤w) && decide ((gs.getD (w - n).toNat default).op=op)
def argW (n:Int) (gs:List Gt) (w:Int):Int:=(gs.getD (w - n).toNat default).a
def negW (n:Int) (gs:List Gt) (x y:Int):Bool:=isW n gs x 2 && decide (argW n gs x=y)
def oppW (n:Int) (gs:List Gt) (a b:Int):Bool:=negW n gs a b || negW n gs b a
def notF (n:Int) (gs:List Gt) (a:Int):Gt × Int:=
 if isW n gs a 0=true then (⟨1,0,0⟩,-1) else if isW n gs a 1=true then (⟨0,0,0⟩,-1) else if isW n gs a 2=true then (⟨2,a,0⟩,argW n gs a) else (⟨2,a,0⟩,-1)
def eitherF (n:Int) (gs:List Gt) (g:Gt) (ab ne:Int):Gt × Int:=
 if (isW n gs g.a ab || isW n gs g.b ab)=true then (⟨ab,0,0⟩,-1) else if isW n gs g.a ne=true then (g,g.b) else if (isW n gs g.b ne || decide (g.a=g.b))=true then (g,g.a)
 else if oppW n gs g.a g.b=true then (⟨ab,0,0⟩,-1) else (g,-1)
def xorF (n:Int) (gs:List Gt) (g:Gt):Gt × Int:=
 if isW n gs g.a 0=true then (g,g.b) else if isW n gs g.b 0=true then (g,g.a) else if g.a=g.b then (⟨0,0,0⟩,-1) else if oppW n gs g.a g.b=true then (⟨1,0,0⟩,-1)
 else if isW n gs g.a 1=true then notF n gs g.b else if isW n gs g.b 1=true then notF n gs g.a else (g,-1)
def foldG (n:Int) (gs:List Gt) (g:Gt):Gt × Int:=
 if g.op=2 then notF n gs g.a else if g.op=3 then eitherF n gs g 0 1 else if g.op=4 then eitherF n gs g 1 0 else if g.op=5 then xorF n gs g else (g,-1)
def gateAt (c:Circ) (k:Nat):Gt:=c.gates.getD k default
def foldTo (c:Circ):Nat→Wk
 | 0=>startW c.inputs
 | k+1=>addW c.inputs (foldTo c k) (foldG c.inputs (foldTo c k).gates (moveG (foldTo c k).tq (gateAt c k)))
def foldC (c:Circ):Circ:=if rightC c=true then doneW c (foldTo c c.gates.length) else noCirc
def swapG (g:Gt):Gt:=if operandsO g.op=2∧g.b < g.a then ⟨g.op,g.b,g.a⟩ else g
def knownW (n:Int) (gs:List Gt) (g:Gt):Int:=match gs.findIdx? (fun x=>gtEq x g) with | some k=>n+(k:Int) | none=>-1
def shareG (n:Int) (s:Wk) (g:Gt):Gt × Int:=(swapG (moveG s.tq g),knownW n s.gates (swapG (moveG s.tq g)))
def shareTo (c:Circ):Nat→Wk
 | 0=>startW c.inputs
 | k+1=>addW c.inputs (shareTo c k) (shareG c.inputs (shareTo c k) (gateAt c k))
def shareC (c:Circ):Circ:=if rightC c=true then doneW c (shareTo c c.gates.length) else noCirc
def setT (l:List Bool) (w:Int):List Bool:=l.set w.toNat true
def needAt (nd:List Bool) (w:Int):Bool:=nd.getD w.toNat false
def needG (n:Int) (nd:List Bool) (i:Nat) (g:Gt):List Bool:=
 if needAt nd (n+(i:Int))=true then (if operandsO g.op=2 then setT (setT nd g.a) g.b else if operandsO g.op=1 then setT nd g.a else nd) else nd
def needOuts (c:Circ):Nat→List Bool
 | 0=>List.replicate (c.inputs+c.gates.length).toNat false
 | k+1=>setT (needOuts c k) (c.outs.getD k 0)
def needTo (c:Circ):Nat→List Bool
 | 0=>needOuts c c.outs.length
 | j+1=>needG c.inputs (needTo c j) (c.gates.length - 1 - j) (gateAt c (c.gates.length - 1 - j))
def needC (c:Circ):List Bool:=needTo c c.gates.length
def trimTo (c:Circ):Nat→Wk
 | 0=>startW c.inputs
 | k+1=>if needAt (needC c) (c.inputs+(k:Int))=true then addW c.inputs (trimTo c k) (moveG (trimTo c k).tq (gateAt c k),-1) else ⟨(trimTo c k).gates,(trimTo c k).tq ++ [0]⟩
def trimC (c:Circ):Circ:=if rightC c=true then doneW c (trimTo c c.gates.length) else noCirc
def oneC (c:Circ):Circ:=trimC (shareC (foldC c))
def gateWt (g:Gt):Nat:=if operandsO g.op=0 then 1 else if operandsO g.op=1 then 2 else if g.a≤g.b then 3 else 4
def measC (c:Circ):Nat:=(c.gates.map gateWt).sum
def iterC:Nat→Circ→Circ
 | 0,c=>c
 | k+1,c=>if sameC (oneC c) c=true then c else iterC k (oneC c)
def allC (c:Circ):Circ:=if rightC c=true then iterC (measC c) c else noCirc
theorem addW_len (n:Int) (s:Wk) (p:Gt × Int):(addW n s p).gates.length=s.gates.length+1∧(addW n s p).tq.length=s.tq.length+1:=⟨by simp [addW],by simp [addW]⟩
theorem startW_len (n:Int):(startW n).gates.length=0∧(startW n).tq.length=n.toNat:=⟨rfl,by simp [startW]⟩
theorem foldTo_len (c:Circ) (k:Nat):(foldTo c k).gates.length=k∧(foldTo c k).tq.length=c.inputs.toNat+k:=by
 induction k with
 | zero=>exact startW_len _
 | succ k ih=>have:=addW_len c.inputs (foldTo c k) (foldG c.inputs (foldTo c k).gates (moveG (foldTo c k).tq (gateAt c k)));rw [foldTo];omega
theorem shareTo_len (c:Circ) (k:Nat):(shareTo c k).gates.length=k∧(shareTo c k).tq.length=c.inputs.toNat+k:=by
 induction k with
 | zero=>exact startW_len _
 | succ k ih=>have:=addW_len c.inputs (shareTo c k) (shareG c.inputs (shareTo c k) (gateAt c k));rw [shareTo];omega
theorem trimTo_len (c:Circ) (k:Nat):(trimTo c k).gates.length≤k∧(trimTo c k).tq.length=c.inputs.toNat+k:=by
 induction k with
 | zero=>exact ⟨Nat.le_of_eq (startW_len _).1,(startW_len _).2⟩
 | succ k ih=>
  rw [trimTo];split
  ·have:=addW_len c.inputs (trimTo c k) (moveG (trimTo c k).tq (gateAt c k),-1);omega
  ·exact ⟨by show (trimTo c k).gates.length≤_;omega,by simp;omega⟩
theorem needG_len (n:Int) (nd:List Bool) (i:Nat) (g:Gt):(needG n nd i g).length=nd.length:=by
 unfold needG setT;split
 ·split
  ·simp
  ·split <;> simp
 ·rfl
theorem needOuts_len (c:Circ) (k:Nat):(needOuts c k).length=(c.inputs+c.gates.length).toNat:=by
 induction k with
 | zero=>simp [needOuts]
 | succ k ih=>simp [needOuts,setT,ih]
theorem needTo_len (c:Circ) (j:Nat):(needTo c j).length=(c.inputs+c.gates.length).toNat:=by
 induction j with
 | zero=>exact needOuts_len _ _
 | succ j ih=>rw [needTo,needG_len,ih]
end Go.Proofs.YtbijfnbelkbofaaGreatDoor
namespace Go.Proofs.YtbijfnbelkbofaaGreatDoor
open Go.RowKit
theorem run_app_empty {P:Program} {w:World} {base:Nat} {t ty e:TypeId} {i:TypeInfo} {size:Nat} (ht:P.underlying t=some (.slice e)) (hi:P.info? e=some i)
 {v:Value} {n:Nat} {xs:List Value} (hown:w.ownsRow base e size v n xs) (c:Nat):(Builtin.append_ #[t,t] ty #[v,.slice none 0 c]).run P w=.ok v w:=by
 rcases hown.2 with ⟨rfl,rfl⟩ | ⟨g,cap,cur,rfl,_,_,hnc,_⟩
 ·simp [Builtin.append_,run_underlying ht,sizeOf,typeInfo,hi,Builtin.lenOf,Builtin.firstCells]
 ·simp [Builtin.append_,run_underlying ht,sizeOf,typeInfo,hi,Builtin.lenOf,Builtin.firstCells,hnc,storeCells]
theorem run_app {P:Program} {w:World} {base:Nat} {t ty e:TypeId} {z:Value} {size bytes:Nat} (ht:P.underlying t=some (.slice e)) (hi:(P.info? e).map (fun i=>(i.zero,i.size,i.bytes))=some (some z,size,bytes))
 (hzs:z.cells.size=size) (hsz:0 < size) (hb1:1≤bytes) {v:Value} {n:Nat} {xs:List Value} (hown:w.ownsRow base e size v n xs)
 {B:Nat} {A:Option Addr} {m c:Nat} {news:List Value} (hr:Rd w B size A m news) (h1:∀ u ∈ news,u.oneCell'=true) (hbytes:(n+m) * bytes≤140737488355328) (hbase:base≤w.heap.size):
 ∃ v' w',(Builtin.append_ #[t,t] ty #[v,.slice A m c]).run P w=.ok v' w'∧w'.ownsRow base e size v' (n+m) (xs ++ news)∧w.grownBy w' v.ownBlock∧(v'.ownBlock=v.ownBlock∨v'.ownBlock=some w.heap.size):=by
 obtain ⟨i,g1,g2,g3,g4⟩:=info_parts hi
 have h63:n+m≤maxLen:=by
  have:n+m≤(n+m) * bytes:=Nat.le_mul_of_pos_right _ hb1;unfold maxLen;omega
 have key:∀ ad:Addr,A=some ad→(∀ j u,news[j]?=some u→w.cell? (ad.add j)=some u) →
  ∃ v' w',(Builtin.append_ #[t,t] ty #[v,.slice A m c]).run P w=.ok v' w'∧w'.ownsRow base e size v' (n+m) (xs ++ news)∧w.grownBy w' v.ownBlock∧(v'.ownBlock=v.ownBlock∨v'.ownBlock=some w.heap.size):=fun ad e hc=>by
  subst e;obtain ⟨v',w',hrun,h2,h3,_,h5⟩:=run_append_own_at (P:=P) w base t ty e i z size bytes ht g1 g2 g3 g4 hzs hsz v n xs hown ad m c news hr.1 hc h1 h63 hbytes hbase;exact ⟨v',w',hrun,h2,h3,h5⟩
 rcases Nat.eq_zero_or_pos m with h0 | h0
 ·subst h0;have hn:news=[]:=List.eq_nil_of_length_eq_zero (by simpa using hr.1);subst hn
  cases A with
  | none=>exact ⟨v,w,run_app_empty ht g1 hown c,by simpa using hown,World.grownBy.refl w _,.inl rfl⟩
  | some ad=>
   exact key ad rfl (by simp)
 ·obtain ⟨ad,e,_,hc⟩:=hr.2 h0;exact key ad e hc
section
variable {P:Program} {w:World} {o:Oper} {a:Act} {Q:Exit→Act→World→Prop}
theorem wp_app {K:Act→World→Prop} (s x:Operand) (t:TypeId) (ho:o.op=.call { callee:=.builtin .append,args:=#[s,x],argTypes:=#[t,t] })
 (base:Nat) (e:TypeId) (z:Value) (size bytes:Nat) (ht:P.underlying t=some (.slice e)) (hi:(P.info? e).map (fun i=>(i.zero,i.size,i.bytes))=some (some z,size,bytes))
 (hzs:z.cells.size=size) (hsz:0 < size) (hb1:1≤bytes) (v:Value) (n:Nat) (xs:List Value) (hs:a.eval s=v) (hown:w.ownsRow base e size v n xs)
 (B:Nat) (A:Option Addr) (m c:Nat) (news:List Value) (hx:a.eval x=.slice A m c) (hr:Rd w B size A m news) (h1:∀ u ∈ news,u.oneCell'=true) (hbytes:(n+m) * bytes≤140737488355328) (hbase:base≤w.heap.size)
 (h:∀ v' w',w'.ownsRow base e size v' (n+m) (xs ++ news)→w.grownBy w' v.ownBlock→(v'.ownBlock=v.ownBlock∨v'.ownBlock=some w.heap.size)→K (a.put o.dst v') w'):o.wp P a w K Q:=by
 obtain ⟨v',w',hrun,h2,h3,h4⟩:=run_app (P:=P) (ty:=o.type) (c:=c) ht hi hzs hsz hb1 hown hr h1 hbytes hbase;unfold Oper.wp execOp;simp only [ho,resolve,invoke,builtin,Sem.run_bind,Sem.run_pure,Result.andThen_ok,List.map_toArray,List.map_cons,List.map_nil,hs,hx,hrun];exact h v' w' h2 h3 h4
theorem wpList_app {ops:Array Oper} {rest:List Oper} (hgd:o.guard=none) (s x:Operand) (t:TypeId) (ho:o.op=.call { callee:=.builtin .append,args:=#[s,x],argTypes:=#[t,t] })
 (base:Nat) (e:TypeId) (z:Value) (size bytes:Nat) (ht:P.underlying t=some (.slice e)) (hi:(P.info? e).map (fun i=>(i.zero,i.size,i.bytes))=some (some z,size,bytes))
 (hzs:z.cells.size=size) (hsz:0 < size) (hb1:1≤bytes) (v:Value) (n:Nat) (xs:List Value) (hs:a.eval s=v) (hown:w.ownsRow base e size v n xs)
 (B:Nat) (A:Option Addr) (m c:Nat) (news:List Value) (hx:a.eval x=.slice A m c) (hr:Rd w B size A m news) (h1:∀ u ∈ news,u.oneCell'=true) (hbytes:(n+m) * bytes≤140737488355328) (hbase:base≤w.heap.size)
 (h:∀ v' w',w'.ownsRow base e size v' (n+m) (xs ++ news)→w.grownBy w' v.ownBlock→(v'.ownBlock=v.ownBlock∨v'.ownBlock=some w.heap.size)→wpList P ops Q rest (a.put o.dst v') w'):wpList P ops Q (o :: rest) a w:=
 wpList_plain hgd fun _ hK=>wp_app s x t ho base e z size bytes ht hi hzs hsz hb1 v n xs hs hown B A m c news hx hr h1 hbytes hbase fun v' w' h2 h3 h4=>hK _ _ (h v' w' h2 h3 h4)
theorem step_app {ops:Array Oper} {K:Act→World→Prop} {E:Prop} (hgd:o.guard=none) (s x:Operand) (t:TypeId) (ho:o.op=.call { callee:=.builtin .append,args:=#[s,x],argTypes:=#[t,t] })
 (base:Nat) (e:TypeId) (z:Value) (size bytes:Nat) (ht:P.underlying t=some (.slice e)) (hi:(P.info? e).map (fun i=>(i.zero,i.size,i.bytes))=some (some z,size,bytes))
 (hzs:z.cells.size=size) (hsz:0 < size) (hb1:1≤bytes) (v:Value) (n:Nat) (xs:List Value) (hs:a.eval s=v) (hown:w.ownsRow base e size v n xs)
 (B:Nat) (A:Option Addr) (m c:Nat) (news:List Value) (hx:a.eval x=.slice A m c) (hr:Rd w B size A m news) (h1:∀ u ∈ news,u.oneCell'=true) (hbytes:(n+m) * bytes≤140737488355328) (hbase:base≤w.heap.size)
 (h:∀ v' w',w'.ownsRow base e size v' (n+m) (xs ++ news)→w.grownBy w' v.ownBlock→(v'.ownBlock=v.ownBlock∨v'.ownBlock=some w.heap.size)→K (a.put o.dst v') w'):
 if Region.wanted o (yielded ops a.tmps)=true then Oper.wp P o a w K Q else E:=by
 have hw:Region.wanted o (yielded ops a.tmps)=true:=by simp [Region.wanted,hgd]
 rw [if_pos hw];exact wp_app s x t ho base e z size bytes ht hi hzs hsz hb1 v n xs hs hown B A m c news hx hr h1 hbytes hbase h
end
theorem Rd.lit (w:World) (cs:Array Value) (T:TypeId) {sz m:Nat} (h:cs.size=m * sz):Rd (w.alloc (.cells cs T)) (w.heap.size+1) sz (some ⟨w.heap.size,0,none⟩) m cs.toList:=
 ⟨by simpa using h,fun _=>⟨_,rfl,Nat.lt_succ_self _,fun j u hu=>by
  rw [add_zero_off,World.cell?_alloc_new];simpa using hu⟩⟩
theorem own_far {w:World} {base:Nat} {e:TypeId} {sz n:Nat} {v:Value} {xs:List Value} (h:w.ownsRow base e sz v n xs) {p:Addr} (hp:v.ownBlock≠some p.block) (u:Value):(w.setCell p u).ownsRow base e sz v n xs:=by
 refine ⟨h.1,?_⟩;rcases h.2 with hn | ⟨g,cap,cur,rfl,hb,hg,rest⟩
 ·exact .inl hn
 ·exact .inr ⟨g,cap,cur,rfl,hb,by rw [Below.heap_setCell _ _ _ _ (fun e=>hp (by simp [Value.ownBlock,e]))];exact hg,rest⟩
theorem own_ne_row {w:World} {base:Nat} {e T:TypeId} {sz n g:Nat} {v:Value} {xs cs:List Value} (h:w.ownsRow base e sz v n xs) (hr:Row w g T cs) (hne:e≠T):v.ownBlock≠some g:=by
 rcases h.2 with ⟨rfl,_⟩ | ⟨g',cap,cur,rfl,_,hg,_⟩
 ·simp [Value.ownBlock]
 ·intro he;obtain rfl:g'=g:=by simpa [Value.ownBlock] using he
  unfold Row at hr;rw [hg] at hr;injection hr with hr;injection hr with _ ht;exact hne ht
theorem own_ne_own {w:World} {b b':Nat} {e e':TypeId} {sz sz' n n':Nat} {v v':Value} {xs xs':List Value} (h:w.ownsRow b e sz v n xs) (h':w.ownsRow b' e' sz' v' n' xs') (hne:e≠e'):v.ownBlock=none∨v.ownBlock≠v'.ownBlock:=by
 rcases h.2 with ⟨rfl,_⟩ | ⟨g,cap,cur,rfl,_,hg,_⟩
 ·exact .inl rfl
 ·refine .inr ?_;rcases h'.2 with ⟨rfl,_⟩ | ⟨g',cap',cur',rfl,_,hg',_⟩
  ·simp [Value.ownBlock]
  ·intro he;obtain rfl:g=g':=by simpa [Value.ownBlock] using he
   rw [hg] at hg';injection hg' with hg';injection hg' with _ ht;exact hne ht
theorem own_base {w:World} {base base':Nat} {e:TypeId} {sz n:Nat} {v:Value} {xs:List Value} (h:w.ownsRow base e sz v n xs) (hb:base'≤base):w.ownsRow base' e sz v n xs:=
 ⟨h.1,h.2.imp id (fun ⟨g,cap,cur,a,b,c⟩=>⟨g,cap,cur,a,Nat.le_trans hb b,c⟩)⟩
theorem own_below {w w':World} {base B:Nat} {e:TypeId} {sz n:Nat} {v:Value} {xs:List Value} (h:w.ownsRow base e sz v n xs) (hb:Below B w w') (hB:w.heap.size≤B):w'.ownsRow base e sz v n xs:=by
 refine ⟨h.1,?_⟩;rcases h.2 with hn | ⟨g,cap,cur,rfl,hbb,hg,rest⟩
 ·exact .inl hn
 ·have hlt:g < w.heap.size:=(h.lt g rfl).2;exact .inr ⟨g,cap,cur,rfl,hbb,by rw [hb.block g (by omega)];exact hg,rest⟩
theorem Rd.own {w:World} {base:Nat} {e:TypeId} {sz n:Nat} {v:Value} {xs:List Value} (h:w.ownsRow base e sz v n xs):∃ A c,v=.slice A n c∧Rd w w.heap.size sz A n xs:=by
 rcases h.2 with ⟨rfl,rfl⟩ | ⟨g,cap,cur,rfl,hb,hg,hc⟩
 ·refine ⟨none,0,rfl,?_⟩;have:xs=[]:=List.eq_nil_of_length_eq_zero (by simpa using h.1);rw [this];exact Rd.empty none
 ·exact ⟨_,_,rfl,Rd.of_own h⟩
@[simp] theorem bools_length (bs:List Bool):(bools bs).length=bs.length:=by simp [bools]
theorem bools_get (bs:List Bool) (k:Nat) (h:k < bs.length):(bools bs)[k]?=some (.bool (bs.getD k false)):=by
 simp [bools,List.getElem?_map,List.getElem?_eq_getElem h,List.getD_eq_getElem?_getD]
theorem Rd.bool {w:World} {B n:Nat} {A:Option Addr} {bs:List Bool} (h:Rd w B 1 A n (bools bs)) {k:Nat} (hk:k < n):
 ∃ ad,A=some ad∧ad.block < B∧w.cell? (ad.add k)=some (.bool (bs.getD k false)):=by
 obtain ⟨ad,u,e,hb,hu,hc⟩:=h.get1 hk;have hl:k < bs.length:=by have:=h.1;simp at this;omega
 rw [bools_get bs k hl] at hu;injection hu with hu;exact ⟨ad,e,hb,by rw [hc,hu]⟩
theorem w64s_get (bs:List (BitVec 64)) (k:Nat) (h:k < bs.length):(w64s bs)[k]?=some (w64 (bs.getD k 0)):=by
 simp [w64s,List.getElem?_map,List.getElem?_eq_getElem h,List.getD_eq_getElem?_getD]
theorem Rd.word {w:World} {B n:Nat} {A:Option Addr} {bs:List (BitVec 64)} (h:Rd w B 1 A n (w64s bs)) {k:Nat} (hk:k < n):
 ∃ ad,A=some ad∧ad.block < B∧w.cell? (ad.add k)=some (w64 (bs.getD k 0)):=by
 obtain ⟨ad,u,e,hb,hu,hc⟩:=h.get1 hk;have hl:k < bs.length:=by have:=h.1;simp [w64s] at this;omega
 rw [w64s_get bs k hl] at hu;injection hu with hu;exact ⟨ad,e,hb,by rw [hc,hu]⟩
end Go.Proofs.YtbijfnbelkbofaaGreatDoor
namespace Go.Proofs.YtbijfnbelkbofaaGreatDoor
open Go.RowKit
theorem below_next {w W w':World} (hb:Below W.heap.size W w') (hw:Below w.heap.size w W):Below w.heap.size w w':=hw.trans (hb.mono hw.size)
theorem below_on {w W1 W w':World} (h0:Below w.heap.size w W1) (h1:Below W1.heap.size W1 W) (hb:Below W.heap.size W w'):Below w.heap.size w w':=h0.trans ((h1.trans (hb.mono h1.size)).mono h0.size)
theorem below_on2 {w W1 W:World} (h0:Below w.heap.size w W1) (h1:Below W1.heap.size W1 W):Below w.heap.size w W:=h0.trans (h1.mono h0.size)
theorem rowCells {w:World} {g:Nat} {T:TypeId} {xs:List Value} (h:Row w g T xs) {w':World} (hb:Below w.heap.size w w'):Row w' g T xs:=h.below hb h.lt
theorem rowNew1 (w:World) (o:Obj) (T:TypeId) (xs:List Value):Row ((w.alloc o).alloc (.cells xs.toArray T)) (w.heap.size+1) T xs:=by
 have:=Row.new (w.alloc o) T xs;rw [World.size_alloc] at this;exact this
theorem rowNew2 (w:World) (o o':Obj) (T:TypeId) (xs:List Value):Row (((w.alloc o).alloc o').alloc (.cells xs.toArray T)) (w.heap.size+1+1) T xs:=by
 have:=Row.new ((w.alloc o).alloc o') T xs;rw [World.size_alloc,World.size_alloc] at this;exact this
theorem quiet_same {P:Program} {f:FuncId} {args:Array Value} {w:World} {n:Nat} {v:Value}
 (h:Calls P f args (w.drewN n) fun e w'=>e=.returned v∧w.drewN n=w'):Calls P f args (w.drewN n) fun e w''=>e=.returned v∧∃ m,w''=w.drewN m:=
 h.mono fun _ _ h2=>⟨h2.1,n,h2.2.symm⟩
end Go.Proofs.YtbijfnbelkbofaaGreatDoor
namespace Go.Proofs.YtbijfnbelkbofaaGreatDoor
open Go.RowKit
structure Frm (B:Nat) (T1 T2:TypeId) (w w':World):Prop where
 below:Below B w w'
 keep:∀ (k:Nat) (cs:Array Value) (T:TypeId) (fz:Nat × Nat),T≠T1→T≠T2→w.heap[k]?=some (Obj.cells cs T fz)→w'.heap[k]?=some (Obj.cells cs T fz)
theorem heap_lt {w:World} {k:Nat} {o:Obj} (h:w.heap[k]?=some o):k < w.heap.size:=by
 rcases Nat.lt_or_ge k w.heap.size with hl | hge
 ·exact hl
 ·rw [Array.getElem?_eq_none hge] at h;cases h
section
variable {B:Nat} {T1 T2:TypeId} {w w1 w':World}
theorem Frm.refl (B:Nat) (T1 T2:TypeId) (w:World):Frm B T1 T2 w w:=⟨Below.refl _ _,fun _ _ _ _ _ _ h=>h⟩
theorem Frm.trans (h:Frm B T1 T2 w w1) (k:Frm B T1 T2 w1 w'):Frm B T1 T2 w w':=⟨h.below.trans k.below,fun b cs T fz h1 h2 hh=>k.keep b cs T fz h1 h2 (h.keep b cs T fz h1 h2 hh)⟩
theorem Frm.drewN (h:Frm B T1 T2 w w1) (n:Nat):Frm B T1 T2 w (w1.drewN n):=⟨below_drewN h.below n,h.keep⟩
theorem Frm.alloc (h:Frm B T1 T2 w w1) (hB:B≤w1.heap.size) (o:Obj):Frm B T1 T2 w (w1.alloc o):=
 ⟨h.below.alloc hB o,fun b cs T fz h1 h2 hh=>by
  have:=h.keep b cs T fz h1 h2 hh
  rw [Below.heap_alloc w1 o b (heap_lt this)];exact this⟩
theorem Frm.set {xs:List Value} {p:Addr} (h:Frm B T1 T2 w w1) (hr:Row w1 p.block T1 xs) (hB:B≤p.block) (u:Value):Frm B T1 T2 w (w1.setCell p u):=
 ⟨h.below.setCell hB u,fun b cs T fz h1 h2 hh=>by
  have:=h.keep b cs T fz h1 h2 hh
  rw [Below.heap_setCell w1 p u b (fun e=>by
   subst e;unfold Row at hr;rw [hr] at this;injection this with this;injection this with _ ht
   exact h1 ht.symm)]
  exact this⟩
theorem own_block_type {base sz n:Nat} {e:TypeId} {v:Value} {xs:List Value} {k:Nat} (h:w.ownsRow base e sz v n xs) (hk:v.ownBlock=some k):∃ cur,w.heap[k]?=some (Obj.cells cur e (0,0))∧base≤k:=by
 rcases h.2 with ⟨rfl,_⟩ | ⟨g,cap,cur,rfl,hb,hg,_⟩
 ·cases hk
 ·obtain rfl:g=k:=by simpa [Value.ownBlock] using hk
  exact ⟨cur,hg,hb⟩
theorem Frm.grown2 {base sz n:Nat} {v:Value} {xs:List Value} (h:Frm B T1 T2 w w1) (ho:w1.ownsRow base T2 sz v n xs) (hB:B≤base) (hS:B≤w1.heap.size) (hg:w1.grownBy w' v.ownBlock):Frm B T1 T2 w w':=by
 refine ⟨h.below.grown hg hS (fun k hk=>Nat.le_trans hB (own_block_type ho hk).choose_spec.2),fun b cs T fz h1 h2 hh=>?_⟩;have:=h.keep b cs T fz h1 h2 hh
 rw [hg.block b (heap_lt this) (fun e=>by
  obtain ⟨cur,hc,_⟩:=own_block_type ho e.symm;rw [hc] at this;injection this with this;injection this with _ ht
  exact h2 ht.symm)]
 exact this
theorem Frm.grownNew {row:Option Nat} (h:Frm B T1 T2 w w1) (hg:w1.grownBy w' row) (hrow:∀ k,row=some k→w.heap.size≤k) (hB:B≤w.heap.size):Frm B T1 T2 w w':=by
 refine ⟨h.below.grown hg (Nat.le_trans hB h.below.size) (fun k hk=>Nat.le_trans hB (hrow k hk)),fun b cs T fz h1 h2 hh=>?_⟩;have hlt:=heap_lt hh;have:=h.keep b cs T fz h1 h2 hh;rw [hg.block b (heap_lt this) (fun e=>by have:=hrow b e.symm;omega)];exact this
theorem Frm.ofBelow (h:Below w.heap.size w w') (hB:B≤w.heap.size):Frm B T1 T2 w w':=
 ⟨h.mono hB,fun b cs T fz _ _ hh=>by rw [h.block b (heap_lt hh)];exact hh⟩
theorem Frm.own {base sz n:Nat} {e:TypeId} {v:Value} {xs:List Value} (h:Frm B T1 T2 w w') (ho:w.ownsRow base e sz v n xs) (h1:e≠T1) (h2:e≠T2):w'.ownsRow base e sz v n xs:=
 ⟨ho.1,ho.2.imp id (fun ⟨g,cap,cur,a,b,c,d⟩=>⟨g,cap,cur,a,b,h.keep g cur e (0,0) h1 h2 c,d⟩)⟩
theorem Frm.row {g:Nat} {T:TypeId} {xs:List Value} (h:Frm B T1 T2 w w') (hr:Row w g T xs) (h1:T≠T1) (h2:T≠T2):Row w' g T xs:=h.keep g _ T (0,0) h1 h2 hr
theorem own_grown {base sz n:Nat} {e:TypeId} {v:Value} {xs:List Value} {row:Option Nat} (ho:w.ownsRow base e sz v n xs) (hg:w.grownBy w' row) (hne:∀ k,v.ownBlock=some k→row≠some k):w'.ownsRow base e sz v n xs:=by
 refine ⟨ho.1,ho.2.imp id (fun ⟨g,cap,cur,a,b,c,d⟩=>⟨g,cap,cur,a,b,?_,d⟩)⟩;subst a;rw [hg.block g (heap_lt c) (fun e=>hne g rfl e.symm)];exact c
theorem own_old {base sz n:Nat} {e:TypeId} {v:Value} {xs:List Value} {row:Option Nat} {S:Nat} (ho:w.ownsRow base e sz v n xs) (hb:∀ k,v.ownBlock=some k→k < S) (hg:w.grownBy w' row) (hr:∀ k,row=some k→S≤k):w'.ownsRow base e sz v n xs:=
 own_grown ho hg (fun k hk e=>by have:=hb k hk;have:=hr k e;omega)
theorem own_lt {base sz n:Nat} {e:TypeId} {v:Value} {xs:List Value} (ho:w.ownsRow base e sz v n xs):∀ k,v.ownBlock=some k→k < w.heap.size:=fun k hk=>by
 obtain ⟨cur,hc,_⟩:=own_block_type ho hk;exact heap_lt hc
theorem own_set {base sz n:Nat} {e T:TypeId} {v:Value} {xs cs:List Value} {p:Addr} (ho:w.ownsRow base e sz v n xs) (hr:Row w p.block T cs) (hne:e≠T) (u:Value):(w.setCell p u).ownsRow base e sz v n xs:=
 own_far ho (own_ne_row ho hr hne) u
end
def Rows2At (w:World) (base:Nat) (E I:TypeId) (v:Value) (rows:List (List Int)):Prop:=
 ∃ vs:List Value,w.ownsRow base E 1 v rows.length vs∧vs.length=rows.length∧∀ i,i < rows.length→w.ownsRow base I 1 (vs.getD i undef) (rows.getD i []).length (ints (rows.getD i []))
section
variable {w w':World} {base:Nat} {E I:TypeId} {v:Value} {rows:List (List Int)}
theorem Rows2At.nil (w:World) (base:Nat) (E I:TypeId):Rows2At w base E I (.slice none 0 0) []:=⟨[],World.ownsRow_nil _ _ _ _,rfl,fun i hi=>absurd hi (Nat.not_lt_zero _)⟩
theorem Rows2At.frm {B:Nat} {T1 T2:TypeId} (h:Rows2At w base E I v rows) (f:Frm B T1 T2 w w') (e1:E≠T1) (e2:E≠T2) (i1:I≠T1) (i2:I≠T2):Rows2At w' base E I v rows:=by
 obtain ⟨vs,h1,h2,h3⟩:=h;exact ⟨vs,f.own h1 e1 e2,h2,fun i hi=>f.own (h3 i hi) i1 i2⟩
theorem Rows2At.grown {row:Option Nat} (h:Rows2At w base E I v rows) (hg:w.grownBy w' row) (hr:∀ k,row=some k→w.heap.size≤k):Rows2At w' base E I v rows:=by
 obtain ⟨vs,h1,h2,h3⟩:=h;exact ⟨vs,own_old h1 (own_lt h1) hg hr,h2,fun i hi=>own_old (h3 i hi) (own_lt (h3 i hi)) hg hr⟩
theorem Rows2At.below {B:Nat} (h:Rows2At w base E I v rows) (hb:Below B w w') (hB:w.heap.size≤B):Rows2At w' base E I v rows:=by
 obtain ⟨vs,h1,h2,h3⟩:=h;exact ⟨vs,own_below h1 hb hB,h2,fun i hi=>own_below (h3 i hi) hb hB⟩
end
end Go.Proofs.YtbijfnbelkbofaaGreatDoor
