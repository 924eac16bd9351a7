/-
  Lemmas for the law TopCircuits.
-/
import Derived.Test.YtbijfnbelkbofaaGreatDoorJZ1
import Derived.Test.YtbijfnbelkbofaaGreatDoorJZ7
import Derived.Test.YtbijfnbelkbofaaGreatDoorJZ6
set_option linter.unusedSimpArgs false
set_option linter.unusedVariables false
namespace Go.Proofs.YtbijfnbelkbofaaGreatDoor
open Go.RowKit
def bitsF (s:Int):Nat:=if s=2 then 1 else if s=3∨s=4 then 2 else if 5≤s∧s≤8 then 3 else 0
theorem bitsF_bd (s:Int):bitsF s≤3:=by unfold bitsF;split <;> (try split) <;> (try split) <;> omega
theorem bitsF_pos {s:Int} (h:2≤s∧s≤8):1≤bitsF s:=by unfold bitsF;split <;> (try split) <;> (try split) <;> omega
theorem bitsF_pow {s:Int} (h:2≤s∧s≤8):s≤2 ^ bitsF s:=by
 have:s=2∨s=3∨s=4∨s=5∨s=6∨s=7∨s=8:=by omega
 rcases this with rfl | rfl | rfl | rfl | rfl | rfl | rfl <;> decide
def bitI (n:Int) (k:Nat):Bool:=n / 2 ^ k % 2 == 1
def valB:List Bool→Int
 | []=>0
 | b :: r=>(if b then 1 else 0)+2 * valB r
def stateF (l:List Bool):Int:=if 8 < l.length then 0 else valB l
theorem valB_snoc (l:List Bool) (b:Bool):valB (l ++ [b])=valB l+(if b then 2 ^ l.length else 0):=by
 induction l with
 | nil=>cases b <;> rfl
 | cons x l ih=>
  simp only [List.cons_append,valB,ih,List.length_cons]
  cases b
  ·simp
  ·simp only [if_true];rw [Int.pow_succ];omega
theorem valB_bd (l:List Bool):0≤valB l∧valB l < 2 ^ l.length:=by
 induction l with
 | nil=>simp [valB]
 | cons x l ih=>
  simp only [valB,List.length_cons,Int.pow_succ]
  cases x <;> simp <;> omega
theorem valB_inj (l m:List Bool) (hl:l.length=m.length) (h:valB l=valB m):l=m:=by
 induction l generalizing m with
 | nil=>cases m with
  | nil=>rfl
  | cons _ _=>simp at hl
 | cons x l ih=>
  cases m with
  | nil=>simp at hl
  | cons y m=>
   simp only [valB] at h
   have e:x=y∧valB l=valB m:=by
    cases x <;> cases y <;> simp at h ⊢ <;> omega
   rw [e.1,ih m (by simpa using hl) e.2]
def bitsOf (b:Nat) (v:Int):List Bool:=(List.range b).map (bitI v)
theorem bitsOf_length (b:Nat) (v:Int):(bitsOf b v).length=b:=by simp [bitsOf]
theorem valB_bits (b:Nat) (v:Int) (h0:0≤v) (h1:v < 2 ^ b):valB (bitsOf b v)=v:=by
 induction b generalizing v with
 | zero=>simp [bitsOf,valB] at *;omega
 | succ b ih=>
  rw [Int.pow_succ] at h1;have:=ih (v / 2) (by omega) (by omega)
  have e:bitsOf (b+1) v=bitI v 0 :: bitsOf b (v / 2):=by
   unfold bitsOf;rw [List.range_succ_eq_map,List.map_cons,List.map_map];congr 1
   apply List.map_congr_left
   intro k _;simp only [Function.comp,bitI];rw [show (2:Int) ^ (k+1)=2 * 2 ^ k by rw [Int.pow_succ];omega,Int.ediv_ediv_of_nonneg (by omega)]
  rw [e,valB,this];simp only [bitI,Int.pow_zero,Int.ediv_one];split <;> simp_all <;> omega
def inputsB (t:Tre) (ins:List Int):List Bool:=ins.flatMap (bitsOf (bitsF t.states))
def inputsR (t:Tre) (ins:List Int):List Bool:=if evalErr t ins=0 then inputsB t ins else []
def wireF (N:Nat) (gs:List Gt):Int:=(N:Int)+gs.length
def gateS (N:Nat) (op:Int) (p:List Gt × Int) (w:Int):List Gt × Int:=(p.1 ++ [⟨op,p.2,w⟩],wireF N p.1)
def allS (N:Nat) (op:Int) (gs:List Gt) (ws:List Int):List Gt × Int:=ws.tail.foldl (gateS N op) (gs,ws.getD 0 0)
theorem allS_one (N:Nat) (op:Int) (gs:List Gt) (ws:List Int):allS N op gs (ws.take 1)=(gs,ws.getD 0 0):=by
 cases ws <;> simp [allS]
theorem allS_take (N:Nat) (op:Int) (gs:List Gt) (ws:List Int) (k:Nat) (h0:1≤k) (hk:k < ws.length):
 allS N op gs (ws.take (k+1))=gateS N op (allS N op gs (ws.take k)) (ws.getD k 0):=by
 cases ws with
 | nil=>simp at hk
 | cons w ws=>
  obtain ⟨k,rfl⟩:∃ j,k=j+1:=⟨k - 1,by omega⟩
  have hk':k < ws.length:=by simpa using hk
  simp only [allS,List.take_succ_cons,List.tail_cons,List.getD_cons_zero,List.getD_cons_succ];rw [List.take_succ_eq_append_getElem hk',List.foldl_append]
  simp [List.getD_eq_getElem?_getD,List.getElem?_eq_getElem hk']
theorem allS_all (N:Nat) (op:Int) (gs:List Gt) (ws:List Int):allS N op gs (ws.take ws.length)=allS N op gs ws:=by rw [List.take_length]
def litF (N j:Nat) (one:Bool):Int:=if one then j else N+j
def litsF (N b i:Nat) (s:Nat):List Int:=(List.range b).map (fun k=>litF N (i * b+k) (bitI s k))
theorem litsF_length (N b i s:Nat):(litsF N b i s).length=b:=by simp [litsF]
theorem litsF_get (N b i s k:Nat) (h:k < b):(litsF N b i s).getD k 0=litF N (i * b+k) (bitI s k):=by
 simp [litsF,List.getD_eq_getElem?_getD,List.getElem?_map,List.getElem?_range h]
def testS (N b:Nat) (gs:List Gt) (i s:Nat):List Gt × Int:=allS N 3 gs (litsF N b i s)
def scan {α:Type} (f:List Gt→List α→Nat→List Gt × α) (gs:List Gt):Nat→List Gt × List α
 | 0=>(gs,[])
 | k+1=>((f (scan f gs k).1 (scan f gs k).2 k).1,(scan f gs k).2 ++ [(f (scan f gs k).1 (scan f gs k).2 k).2])
section
variable {α:Type} (f:List Gt→List α→Nat→List Gt × α) (gs:List Gt)
theorem scan_succ (k:Nat):scan f gs (k+1)=((f (scan f gs k).1 (scan f gs k).2 k).1,(scan f gs k).2 ++ [(f (scan f gs k).1 (scan f gs k).2 k).2]):=rfl
theorem scan_length (k:Nat):(scan f gs k).2.length=k:=by
 induction k with
 | zero=>rfl
 | succ k ih=>rw [scan_succ];simp [ih]
theorem scan_ind (P:List Gt→List α→Nat→Prop) (h0:P gs [] 0) (K:Nat) (hs:∀ k g acc,k < K→acc.length=k→P g acc k→P (f g acc k).1 (acc ++ [(f g acc k).2]) (k+1)):P (scan f gs K).1 (scan f gs K).2 K:=by
 have:∀ k,k≤K→P (scan f gs k).1 (scan f gs k).2 k:=fun k hk=>by
  induction k with
  | zero=>exact h0
  | succ k ih=>rw [scan_succ];exact hs k _ _ (by omega) (scan_length f gs k) (ih (by omega))
 exact this K (Nat.le_refl _)
end
def testRow (N b S:Nat) (gs:List Gt) (i:Nat):List Gt × List Int:=scan (fun g _ s=>testS N b g i s) gs S
def testRows (N b S:Nat) (gs:List Gt) (n:Nat):List Gt × List (List Int):=scan (fun g _ i=>testRow N b S g i) gs n
def termStep (N:Nat) (up:Bool) (tests:List Int) (res:List (List Int)) (next:List Int) (k:Nat) (p:List Gt × List Int) (s:Nat):List Gt × List Int:=
 if up=true then (p.1 ++ [⟨3,tests.getD s 0,(res.getD (next.getD s 0).toNat []).getD k 0⟩],p.2 ++ [wireF N p.1])
 else if bitI (next.getD s 0) k=true then (p.1,p.2 ++ [tests.getD s 0]) else p
def termsS (N:Nat) (up:Bool) (tests:List Int) (res:List (List Int)) (next:List Int) (gs:List Gt) (k S:Nat):List Gt × List Int:=
 (List.range S).foldl (termStep N up tests res next k) (gs,[])
theorem termsS_succ (N:Nat) (up:Bool) (tests:List Int) (res:List (List Int)) (next:List Int) (gs:List Gt) (k S:Nat):
 termsS N up tests res next gs k (S+1)=termStep N up tests res next k (termsS N up tests res next gs k S) S:=by
 simp [termsS,List.range_succ,List.foldl_append]
def orS (N:Nat) (p:List Gt × List Int):List Gt × Int:=if p.2.length=0 then (p.1 ++ [⟨0,0,0⟩],wireF N p.1) else allS N 4 p.1 p.2
def resS (N:Nat) (up:Bool) (tests:List Int) (res:List (List Int)) (next:List Int) (S:Nat) (gs:List Gt) (k:Nat):List Gt × Int:=orS N (termsS N up tests res next gs k S)
def upN (x:Nd):Bool:=decide (1 < x.level)
def nodeS (t:Tre) (N b S:Nat) (tests:List (List Int)) (gs:List Gt) (res:List (List Int)) (i:Nat):List Gt × List Int:=
 scan (fun g _ k=>resS N (upN (t.nodes.getD i default)) (tests.getD ((t.hood.length:Int) - (t.nodes.getD i default).level).toNat []) res (t.nodes.getD i default).next S g k) gs b
def nodesS (t:Tre) (N b S:Nat) (tests:List (List Int)) (gs:List Gt) (m:Nat):List Gt × List (List Int):=scan (fun g res i=>nodeS t N b S tests g res i) gs m
def notsG (N:Nat):List Gt:=(List.range N).map (fun (j:Nat)=>(⟨2,(j:Int),0⟩:Gt))
theorem notsG_succ (k:Nat):notsG (k+1)=notsG k ++ [⟨2,(k:Int),0⟩]:=by simp [notsG,List.range_succ]
theorem notsG_length (k:Nat):(notsG k).length=k:=by simp [notsG]
def lowN (t:Tre):Nat:=t.hood.length * bitsF t.states
def lowT (t:Tre):List Gt × List (List Int):=testRows (lowN t) (bitsF t.states) t.states.toNat (notsG (lowN t)) t.hood.length
def lowM (t:Tre) (m:Nat):List Gt × List (List Int):=nodesS t (lowN t) (bitsF t.states) t.states.toNat (lowT t).2 (lowT t).1 m
def lowErr (t:Tre):Int:=if rightT t=true then 0 else 11
def lowR (t:Tre):Circ:=if rightT t=true then ⟨lowN t,(lowM t t.nodes.length).1,(lowM t t.nodes.length).2.getD (t.nodes.length - 1) []⟩ else noCirc
end Go.Proofs.YtbijfnbelkbofaaGreatDoor
namespace Go.Proofs.YtbijfnbelkbofaaGreatDoor
open Go.RowKit
def okW (N:Nat) (gs:List Gt) (w:Int):Prop:=0≤w∧w < (N:Int)+gs.length
def okG (N:Nat) (gs:List Gt):Prop:=∀ i,i < gs.length→gateOk ((N:Int)+i) (gs.getD i default)=true
def Ext (gs gs':List Gt):Prop:=∃ more,gs'=gs ++ more
theorem Ext.refl (gs:List Gt):Ext gs gs:=⟨[],by simp⟩
theorem Ext.trans {a b c:List Gt} (h1:Ext a b) (h2:Ext b c):Ext a c:=by
 obtain ⟨x,rfl⟩:=h1;obtain ⟨y,rfl⟩:=h2;exact ⟨x ++ y,by simp⟩
theorem Ext.snoc (a:List Gt) (g:Gt):Ext a (a ++ [g]):=⟨[g],rfl⟩
theorem Ext.len {a b:List Gt} (h:Ext a b):a.length≤b.length:=by
 obtain ⟨x,rfl⟩:=h
 simp
theorem okW.ext {N:Nat} {a b:List Gt} {w:Int} (h:okW N a w) (he:Ext a b):okW N b w:=by
 have:=he.len;unfold okW at *;omega
theorem okW_wire {N:Nat} (gs:List Gt) (g:Gt):okW N (gs ++ [g]) (wireF N gs):=by
 unfold okW wireF;simp only [List.length_append,List.length_cons,List.length_nil];omega
theorem getD_snoc_lt {α:Type} (l:List α) (x:α) (d:α) (k:Nat) (h:k < l.length):(l ++ [x]).getD k d=l.getD k d:=by
 rw [List.getD_eq_getElem?_getD,List.getElem?_append_left h,List.getD_eq_getElem?_getD]
theorem getD_snoc_eq {α:Type} (l:List α) (x:α) (d:α):(l ++ [x]).getD l.length d=x:=by
 rw [List.getD_eq_getElem?_getD,List.getElem?_append_right (Nat.le_refl _)];simp
theorem okG_snoc {N:Nat} {gs:List Gt} {g:Gt} (h:okG N gs) (hg:gateOk ((N:Int)+gs.length) g=true):okG N (gs ++ [g]):=by
 intro i hi;simp only [List.length_append,List.length_cons,List.length_nil] at hi;by_cases hlt:i < gs.length
 ·rw [getD_snoc_lt _ _ _ _ hlt];exact h i hlt
 ·obtain rfl:i=gs.length:=by omega
  rw [getD_snoc_eq];exact hg
def vals (vs:List Bool) (gs:List Gt):List Bool:=runG evalB false gs vs
def V (vs:List Bool) (gs:List Gt) (w:Int):Bool:=(vals vs gs).getD w.toNat false
theorem runG_keep {α:Type} (f:Int→α→α→α) (d:α) (more:List Gt) (ys:List α) (k:Nat) (h:k < ys.length):(runG f d more ys).getD k d=ys.getD k d:=by
 induction more generalizing ys with
 | nil=>rfl
 | cons g l ih=>
  have:=ih (ys ++ [f g.op (ys.getD g.a.toNat d) (ys.getD g.b.toNat d)]) (by simp;omega);simp only [runG,List.foldl_cons] at *;rw [this,getD_snoc_lt _ _ _ _ h]
theorem V_ext {N:Nat} {vs:List Bool} {a b:List Gt} {w:Int} (hv:vs.length=N) (he:Ext a b) (h:okW N a w):V vs b w=V vs a w:=by
 obtain ⟨x,rfl⟩:=he;unfold V vals;rw [show runG evalB false (a ++ x) vs=runG evalB false x (runG evalB false a vs) by simp [runG,List.foldl_append]]
 apply runG_keep
 rw [runG_length];unfold okW at h;omega
theorem V_new {N:Nat} {vs:List Bool} (gs:List Gt) (g:Gt) (hv:vs.length=N):V vs (gs ++ [g]) (wireF N gs)=evalB g.op (V vs gs g.a) (V vs gs g.b):=by
 unfold V vals;rw [runG_snoc];have:(wireF N gs).toNat=(runG evalB false gs vs).length:=by rw [runG_length,hv];unfold wireF;omega
 rw [this,getD_snoc_eq]
theorem gateOk_two {N:Nat} {gs:List Gt} {op a b:Int} (ho:op=3∨op=4) (ha:okW N gs a) (hb:okW N gs b):gateOk ((N:Int)+gs.length) ⟨op,a,b⟩=true:=by
 unfold okW at ha hb;rcases ho with rfl | rfl <;> simp [gateOk,wireOk,operandsF] <;> omega
def opB (op:Int) (l:List Bool):Bool:=if op=3 then l.all id else l.any id
theorem opB_cons (op:Int) (ho:op=3∨op=4) (x:Bool) (l:List Bool):opB op (x :: l)=if l=[] then x else evalB op x (opB op l):=by
 rcases ho with rfl | rfl
 ·cases l <;> simp [opB,evalB]
 ·cases l <;> simp [opB,evalB]
theorem opB_merge (op:Int) (ho:op=3∨op=4) (x y:Bool) (l:List Bool):opB op (evalB op x y :: l)=opB op (x :: y :: l):=by
 rcases ho with rfl | rfl <;> simp [opB,evalB,Bool.and_assoc,Bool.or_assoc]
structure Good (N:Nat) (vs:List Bool) (gs:List Gt) (p:List Gt × Int) (val:Bool):Prop where
 ext:Ext gs p.1
 ok:okG N p.1
 wok:okW N p.1 p.2
 v:V vs p.1 p.2=val
theorem fold_good {N:Nat} {vs:List Bool} (hv:vs.length=N) (op:Int) (ho:op=3∨op=4) (ws:List Int) (gs:List Gt) (w:Int) (hg:okG N gs) (hw:okW N gs w) (hws:∀ x ∈ ws,okW N gs x):
 Good N vs gs (ws.foldl (gateS N op) (gs,w)) (opB op (V vs gs w :: ws.map (V vs gs))):=by
 induction ws generalizing gs w with
 | nil=>
  refine ⟨Ext.refl _,hg,hw,?_⟩;rw [opB_cons op ho];rfl
 | cons x ws ih=>
  have hx:=hws x (by simp);have e:Ext gs (gs ++ [⟨op,w,x⟩]):=Ext.snoc _ _;have g2:=ih (gs ++ [⟨op,w,x⟩]) (wireF N gs) (okG_snoc hg (gateOk_two ho hw hx)) (okW_wire _ _) (fun y hy=>(hws y (by simp [hy])).ext e);refine ⟨e.trans g2.ext,g2.ok,g2.wok,?_⟩;show V vs (ws.foldl (gateS N op) (gateS N op (gs,w) x)).1 (ws.foldl (gateS N op) (gateS N op (gs,w) x)).2=_;refine g2.v.trans ?_;rw [V_new _ _ hv];simp only [List.map_cons];rw [← opB_merge op ho];congr 2
  apply List.map_congr_left
  intro y hy;exact V_ext hv e (hws y (by simp [hy]))
theorem fold_len (N:Nat) (op:Int) (ws:List Int) (gs:List Gt) (w:Int):(ws.foldl (gateS N op) (gs,w)).1.length=gs.length+ws.length:=by
 induction ws generalizing gs w with
 | nil=>simp
 | cons x ws ih=>simp only [List.foldl_cons,gateS];rw [ih];simp;omega
theorem allS_good {N:Nat} {vs:List Bool} (hv:vs.length=N) (op:Int) (ho:op=3∨op=4) (ws:List Int) (gs:List Gt) (h0:0 < ws.length) (hg:okG N gs) (hws:∀ x ∈ ws,okW N gs x):
 Good N vs gs (allS N op gs ws) (opB op (ws.map (V vs gs))):=by
 cases ws with
 | nil=>simp at h0
 | cons w ws=>exact fold_good hv op ho ws gs w hg (hws w (by simp)) (fun x hx=>hws x (by simp [hx]))
theorem allS_len (N:Nat) (op:Int) (gs:List Gt) (ws:List Int):(allS N op gs ws).1.length=gs.length+(ws.length - 1):=by
 unfold allS;rw [fold_len];simp
theorem notsG_get (N i:Nat) (h:i < N):(notsG N).getD i default=⟨2,(i:Int),0⟩:=by
 simp [notsG,List.getD_eq_getElem?_getD,List.getElem?_map,List.getElem?_range h]
theorem nots_ok (N:Nat):okG N (notsG N):=by
 intro i hi;rw [notsG_length] at hi;rw [notsG_get N i hi]
 simp [gateOk,wireOk,operandsF];omega
theorem nots_upto (N k:Nat) (h:k≤N) {vs:List Bool} (hv:vs.length=N) (j:Nat) (hj:j < k):V vs (notsG k) ((N:Int)+j)=!vs.getD j false:=by
 induction k with
 | zero=>omega
 | succ k ih=>
  rw [notsG_succ];by_cases e:j=k
  ·subst e;have:=V_new (N:=N) (vs:=vs) (notsG j) ⟨2,(j:Int),0⟩ hv;rw [wireF,notsG_length] at this;rw [this];simp only [evalB]
   have hin:V vs (notsG j) (j:Int)=vs.getD j false:=by
    unfold V vals;rw [Int.toNat_natCast];exact runG_keep _ _ _ _ _ (by omega)
   simp [hin]
  ·rw [V_ext hv (Ext.snoc _ _) (show okW N (notsG k) _ by unfold okW;rw [notsG_length];omega)];exact ih (by omega) (by omega)
theorem input_val {vs:List Bool} (gs:List Gt) (j:Nat) (hj:j < vs.length):V vs gs (j:Int)=vs.getD j false:=by
 unfold V vals;rw [Int.toNat_natCast];exact runG_keep _ _ _ _ _ hj
theorem lit_good {N:Nat} {vs:List Bool} (hv:vs.length=N) {gs:List Gt} (he:Ext (notsG N) gs) (j:Nat) (hj:j < N) (one:Bool):okW N gs (litF N j one)∧V vs gs (litF N j one)=(vs.getD j false == one):=by
 have hl:=he.len;rw [notsG_length] at hl
 cases one
 ·refine ⟨?_,?_⟩
  ·show okW N gs ((N:Int)+j);unfold okW;omega
  ·show V vs gs ((N:Int)+j)=_;rw [V_ext hv he (show okW N (notsG N) _ by unfold okW;rw [notsG_length];omega),nots_upto N N (Nat.le_refl _) hv j hj]
   cases vs.getD j false <;> rfl
 ·refine ⟨?_,?_⟩
  ·show okW N gs (j:Int);unfold okW;omega
  ·show V vs gs (j:Int)=_;rw [input_val gs j (by omega)]
   cases vs.getD j false <;> rfl
def atS (vs:List Bool) (b i s:Nat):Bool:=(List.range b).all (fun k=>vs.getD (i * b+k) false == bitI s k)
theorem test_good {N b n i s:Nat} {vs:List Bool} (hv:vs.length=N) (hN:N=n * b) (hb:0 < b) (hi:i < n) {gs:List Gt} (he:Ext (notsG N) gs) (hg:okG N gs):Good N vs gs (testS N b gs i s) (atS vs b i s):=by
 have hlt:∀ k,k < b→i * b+k < N:=fun k hk=>by
  have:(i+1) * b≤n * b:=Nat.mul_le_mul_right b hi;rw [Nat.add_mul] at this;omega
 have h:=allS_good (N:=N) hv 3 (.inl rfl) (litsF N b i s) gs (by rw [litsF_length];exact hb) hg (fun x hx=>by
  simp only [litsF,List.mem_map,List.mem_range] at hx;obtain ⟨k,hk,rfl⟩:=hx
  exact (lit_good hv he _ (hlt k hk) _).1)
 have e:opB 3 ((litsF N b i s).map (V vs gs))=atS vs b i s:=by
  simp only [opB,if_true,litsF,List.map_map,atS,List.all_map];rw [Bool.eq_iff_iff,List.all_eq_true,List.all_eq_true];refine forall_congr' fun k=>forall_congr' fun hk=>?_
  rw [List.mem_range] at hk;simp only [Function.comp,id];rw [(lit_good hv he _ (hlt k hk) _).2]
 rw [← e];exact h
theorem getD_snoc_row {α:Type} (acc:List α) (x d:α) (k s:Nat) (hl:acc.length=k) (hs:s < k+1):(acc ++ [x]).getD s d=if s=k then x else acc.getD s d:=by
 by_cases e:s=k
 ·subst e;subst hl;rw [if_pos rfl,getD_snoc_eq]
 ·rw [if_neg e,getD_snoc_lt _ _ _ _ (by omega)]
structure Rows1 (N:Nat) (vs:List Bool) (gs0 gs:List Gt) (acc:List Int) (k:Nat) (T:Nat→Bool):Prop where
 ext:Ext gs0 gs
 ok:okG N gs
 at_:∀ s,s < k→okW N gs (acc.getD s 0)∧V vs gs (acc.getD s 0)=T s
theorem Rows1.next {N:Nat} {vs:List Bool} (hv:vs.length=N) {gs0 gs:List Gt} {acc:List Int} {k:Nat} {T:Nat→Bool} (h:Rows1 N vs gs0 gs acc k T) (hl:acc.length=k) {p:List Gt × Int} (hp:Good N vs gs p (T k)):Rows1 N vs gs0 p.1 (acc ++ [p.2]) (k+1) T:=by
 refine ⟨h.ext.trans hp.ext,hp.ok,fun s hs=>?_⟩;rw [getD_snoc_row acc p.2 0 k s hl hs];by_cases e:s=k
 ·subst e;rw [if_pos rfl];exact ⟨hp.wok,hp.v⟩
 ·rw [if_neg e];obtain ⟨h1,h2⟩:=h.at_ s (by omega);exact ⟨h1.ext hp.ext,(V_ext hv hp.ext h1).trans h2⟩
theorem testRow_good {N b n S i:Nat} {vs:List Bool} (hv:vs.length=N) (hN:N=n * b) (hb:0 < b) (hi:i < n) {gs:List Gt} (he:Ext (notsG N) gs) (hg:okG N gs):
 Rows1 N vs gs (testRow N b S gs i).1 (testRow N b S gs i).2 S (atS vs b i):=
 scan_ind (fun g _ s=>testS N b g i s) gs (fun g acc k=>Rows1 N vs gs g acc k (atS vs b i)) ⟨Ext.refl _,hg,fun s hs=>absurd hs (by omega)⟩ S
  (fun k g acc hk hl h=>h.next hv hl (test_good hv hN hb hi (he.trans h.ext) h.ok))
structure Rows2 (N:Nat) (vs:List Bool) (gs0 gs:List Gt) (acc:List (List Int)) (k S:Nat) (T:Nat→Nat→Bool):Prop where
 ext:Ext gs0 gs
 ok:okG N gs
 at_:∀ i,i < k→∀ s,s < S→okW N gs ((acc.getD i []).getD s 0)∧V vs gs ((acc.getD i []).getD s 0)=T i s
theorem Rows2.next {N:Nat} {vs:List Bool} (hv:vs.length=N) {gs0 gs:List Gt} {acc:List (List Int)} {k S:Nat} {T:Nat→Nat→Bool} (h:Rows2 N vs gs0 gs acc k S T) (hl:acc.length=k) {p:List Gt × List Int} (hp:Rows1 N vs gs p.1 p.2 S (T k)):Rows2 N vs gs0 p.1 (acc ++ [p.2]) (k+1) S T:=by
 refine ⟨h.ext.trans hp.ext,hp.ok,fun i hi s hs=>?_⟩;rw [getD_snoc_row acc p.2 [] k i hl hi];by_cases e:i=k
 ·subst e;rw [if_pos rfl];exact hp.at_ s hs
 ·rw [if_neg e];obtain ⟨h1,h2⟩:=h.at_ i (by omega) s hs;exact ⟨h1.ext hp.ext,(V_ext hv hp.ext h1).trans h2⟩
theorem testRows_good {N b n S:Nat} {vs:List Bool} (hv:vs.length=N) (hN:N=n * b) (hb:0 < b) {gs:List Gt} (he:Ext (notsG N) gs) (hg:okG N gs):
 Rows2 N vs gs (testRows N b S gs n).1 (testRows N b S gs n).2 n S (atS vs b):=
 scan_ind (fun g _ i=>testRow N b S g i) gs (fun g acc k=>Rows2 N vs gs g acc k S (atS vs b)) ⟨Ext.refl _,hg,fun s hs=>absurd hs (by omega)⟩ n
  (fun k g acc hk hl h=>h.next hv hl (testRow_good hv hN hb hk (he.trans h.ext) h.ok))
structure Terms (N:Nat) (vs:List Bool) (gs:List Gt) (p:List Gt × List Int) (val:Bool):Prop where
 ext:Ext gs p.1
 ok:okG N p.1
 wok:∀ x ∈ p.2,okW N p.1 x
 v:p.2.any (V vs p.1)=val
theorem termsS_good {N:Nat} {vs:List Bool} (hv:vs.length=N) (up:Bool) (tests:List Int) (res:List (List Int)) (next:List Int) (gs:List Gt) (k S:Nat) (T R:Nat→Bool) (hg:okG N gs)
 (ht:∀ s,s < S→okW N gs (tests.getD s 0)∧V vs gs (tests.getD s 0)=T s)
 (hr:∀ s,s < S→up=true→okW N gs ((res.getD (next.getD s 0).toNat []).getD k 0)∧V vs gs ((res.getD (next.getD s 0).toNat []).getD k 0)=R s)
 (hd:∀ s,s < S→up=false→bitI (next.getD s 0) k=R s):
 Terms N vs gs (termsS N up tests res next gs k S) ((List.range S).any (fun s=>T s && R s)):=by
 have key:∀ m,m≤S→Terms N vs gs (termsS N up tests res next gs k m) ((List.range m).any (fun s=>T s && R s)):=fun m hm=>by
  induction m with
  | zero=>exact ⟨Ext.refl _,hg,by simp [termsS],by simp [termsS]⟩
  | succ m ih=>
   have h:=ih (by omega);rw [termsS_succ];obtain ⟨t1,t2⟩:=ht m (by omega);rw [List.range_succ,List.any_append];simp only [List.any_cons,List.any_nil,Bool.or_false];unfold termStep
   cases up
   ·simp only [if_neg (Bool.false_ne_true)];have hd':=hd m (by omega) rfl
    cases hb:bitI (next.getD m 0) k
    ·rw [if_neg Bool.false_ne_true];refine ⟨h.ext,h.ok,h.wok,?_⟩;rw [h.v,← hd',hb];simp
    ·rw [if_pos rfl];refine ⟨h.ext,h.ok,fun x hx=>?_,?_⟩
     ·simp only [List.mem_append,List.mem_singleton] at hx;rcases hx with hx | rfl
      ·exact h.wok x hx
      ·exact t1.ext h.ext
     ·rw [List.any_append,h.v];simp only [List.any_cons,List.any_nil,Bool.or_false];rw [V_ext hv h.ext t1,t2,← hd',hb];simp
   ·simp only [if_true];obtain ⟨r1,r2⟩:=hr m (by omega) rfl;have e:=Ext.snoc (termsS N true tests res next gs k m).1 ⟨3,tests.getD m 0,(res.getD (next.getD m 0).toNat []).getD k 0⟩;refine ⟨h.ext.trans e,okG_snoc h.ok (gateOk_two (.inl rfl) (t1.ext h.ext) (r1.ext h.ext)),fun x hx=>?_,?_⟩
    ·simp only [List.mem_append,List.mem_singleton] at hx;rcases hx with hx | rfl
     ·exact (h.wok x hx).ext e
     ·exact okW_wire _ _
    ·rw [List.any_append];simp only [List.any_cons,List.any_nil,Bool.or_false];rw [V_new _ _ hv];dsimp only;rw [V_ext hv h.ext t1,t2,V_ext hv h.ext r1,r2,← h.v];congr 1;rw [Bool.eq_iff_iff,List.any_eq_true,List.any_eq_true];refine exists_congr fun x=>and_congr_right fun hx=>?_
     rw [V_ext hv e (h.wok x hx)]
 exact key S (Nat.le_refl _)
theorem termsS_len (N:Nat) (up:Bool) (tests:List Int) (res:List (List Int)) (next:List Int) (gs:List Gt) (k S:Nat):
 (termsS N up tests res next gs k S).1.length≤gs.length+S∧(termsS N up tests res next gs k S).2.length≤S:=by
 induction S with
 | zero=>simp [termsS]
 | succ S ih=>
  rw [termsS_succ];unfold termStep;split
  ·simp;omega
  ·split
   ·simp;omega
   ·omega
theorem res_good {N:Nat} {vs:List Bool} (hv:vs.length=N) (up:Bool) (tests:List Int) (res:List (List Int)) (next:List Int) (gs:List Gt) (k S:Nat) (T R:Nat→Bool) (hg:okG N gs)
 (ht:∀ s,s < S→okW N gs (tests.getD s 0)∧V vs gs (tests.getD s 0)=T s)
 (hr:∀ s,s < S→up=true→okW N gs ((res.getD (next.getD s 0).toNat []).getD k 0)∧V vs gs ((res.getD (next.getD s 0).toNat []).getD k 0)=R s)
 (hd:∀ s,s < S→up=false→bitI (next.getD s 0) k=R s):
 Good N vs gs (resS N up tests res next S gs k) ((List.range S).any (fun s=>T s && R s)):=by
 have h:=termsS_good hv up tests res next gs k S T R hg ht hr hd
 unfold resS orS;split
 ·rename_i h0
  have e:=Ext.snoc (termsS N up tests res next gs k S).1 ⟨0,0,0⟩;refine ⟨h.ext.trans e,okG_snoc h.ok (by simp [gateOk,wireOk,operandsF]),okW_wire _ _,?_⟩;rw [V_new _ _ hv,← h.v,List.eq_nil_of_length_eq_zero h0];rfl
 ·rename_i h0
  have g:=allS_good hv 4 (.inr rfl) (termsS N up tests res next gs k S).2 (termsS N up tests res next gs k S).1 (by omega) h.ok h.wok;refine ⟨h.ext.trans g.ext,g.ok,g.wok,?_⟩;rw [g.v,← h.v];simp only [opB];rw [if_neg (by decide),List.any_map];rfl
theorem resS_len (N:Nat) (up:Bool) (tests:List Int) (res:List (List Int)) (next:List Int) (gs:List Gt) (k S:Nat) (hS:1≤S):(resS N up tests res next S gs k).1.length≤gs.length+2 * S:=by
 obtain ⟨h1,h2⟩:=termsS_len N up tests res next gs k S
 unfold resS orS;split
 ·simp only [List.length_append,List.length_cons,List.length_nil];omega
 ·rw [allS_len];omega
end Go.Proofs.YtbijfnbelkbofaaGreatDoor
namespace Go.Proofs.YtbijfnbelkbofaaGreatDoor
open Go.RowKit
theorem evalB_congr {op:Int} (ho:op=0∨op=1∨op=2∨op=3∨op=4∨op=5) {x x' y y':Bool} (hx:2≤op→x=x') (hy:3≤op→y=y'):evalB op x y=evalB op x' y':=by
 rcases ho with rfl | rfl | rfl | rfl | rfl | rfl
 ·rfl
 ·rfl
 ·rw [hx (by omega)];rfl
 ·rw [hx (by omega),hy (by omega)]
 ·rw [hx (by omega),hy (by omega)]
 ·rw [hx (by omega),hy (by omega)]
theorem V_at {N:Nat} {vs:List Bool} (hv:vs.length=N) {gs:List Gt} {j:Nat} (hj:j < gs.length) (hg:gateOk ((N:Int)+(j:Int)) (gs.getD j default)=true):
 V vs gs ((N:Int)+(j:Int))=evalB (gs.getD j default).op (V vs gs (gs.getD j default).a) (V vs gs (gs.getD j default).b):=by
 have ht:=take_snoc_getD gs j hj;have hl:(gs.take j).length=j:=by rw [List.length_take];omega
 have he:Ext (gs.take j ++ [gs.getD j default]) gs:=⟨gs.drop (j+1),by rw [← ht,List.take_append_drop]⟩
 have he0:Ext (gs.take j) gs:=⟨gs.drop j,by rw [List.take_append_drop]⟩
 have hw:okW N (gs.take j ++ [gs.getD j default]) ((N:Int)+(j:Int)):=by
  unfold okW;rw [List.length_append,hl,List.length_singleton];omega
 rw [V_ext hv he hw];have e1:(N:Int)+(j:Int)=wireF N (gs.take j):=by unfold wireF;rw [hl]
 rw [e1,V_new _ _ hv];obtain ⟨ho,ha,hb,_,_⟩:=gateOk_parts hg;refine evalB_congr ho (fun h=>?_) (fun h=>?_)
 ·exact (V_ext hv he0 (by have:=ha h;unfold okW;rw [hl];omega)).symm
 ·exact (V_ext hv he0 (by have:=hb h;unfold okW;rw [hl];omega)).symm
theorem moveG_op (tq:List Int) (g:Gt):(moveG tq g).op=g.op:=rfl
theorem moveG_a {tq:List Int} {g:Gt} (ho:g.op=0∨g.op=1∨g.op=2∨g.op=3∨g.op=4∨g.op=5) (h:2≤g.op):(moveG tq g).a=toAt tq g.a:=by
 show (if _ then _ else _)=_;rw [if_pos];rw [operandsO_of ho,if_neg (by omega)];split <;> omega
theorem moveG_b {tq:List Int} {g:Gt} (ho:g.op=0∨g.op=1∨g.op=2∨g.op=3∨g.op=4∨g.op=5) (h:3≤g.op):(moveG tq g).b=toAt tq g.b:=by
 show (if _ then _ else _)=_;rw [if_pos];rw [operandsO_of ho,if_neg (by omega),if_neg (by omega)]
theorem moveG_a0 {tq:List Int} {g:Gt} (ho:g.op=0∨g.op=1∨g.op=2∨g.op=3∨g.op=4∨g.op=5) (h:g.op < 2):(moveG tq g).a=g.a:=by
 show (if _ then _ else _)=_;rw [if_neg];rw [operandsO_of ho,if_pos h];omega
theorem moveG_b0 {tq:List Int} {g:Gt} (ho:g.op=0∨g.op=1∨g.op=2∨g.op=3∨g.op=4∨g.op=5) (h:g.op < 3):(moveG tq g).b=g.b:=by
 show (if _ then _ else _)=_;rw [if_neg];rw [operandsO_of ho];split <;> omega
section
variable {N:Nat} {vs:List Bool} {gs:List Gt}
theorem isW_V (hv:vs.length=N) (hs:GsOk N gs) {x op:Int} (h:isW N gs x op=true) (hx:x < (N:Int)+(gs.length:Int)):∃ y z:Bool,V vs gs x=evalB op y z∧(2≤op→y=V vs gs (argW N gs x)):=by
 obtain ⟨j,rfl,hj,ho,ha⟩:=isW_gate h hx;refine ⟨_,_,(V_at hv hj (hs j hj)).trans (by rw [ho]),fun _=>by rw [ha]⟩
theorem isW_0 (hv:vs.length=N) (hs:GsOk N gs) {x:Int} (h:isW N gs x 0=true) (hx:x < (N:Int)+(gs.length:Int)):V vs gs x=false:=by
 obtain ⟨y,z,e,_⟩:=isW_V hv hs h hx;exact e
theorem isW_1 (hv:vs.length=N) (hs:GsOk N gs) {x:Int} (h:isW N gs x 1=true) (hx:x < (N:Int)+(gs.length:Int)):V vs gs x=true:=by
 obtain ⟨y,z,e,_⟩:=isW_V hv hs h hx;exact e
theorem isW_2 (hv:vs.length=N) (hs:GsOk N gs) {x:Int} (h:isW N gs x 2=true) (hx:x < (N:Int)+(gs.length:Int)):V vs gs x=!V vs gs (argW N gs x):=by
 obtain ⟨y,z,e,e2⟩:=isW_V hv hs h hx;rw [e,e2 (by omega)];rfl
theorem oppW_V (hv:vs.length=N) (hs:GsOk N gs) {x y:Int} (h:oppW N gs x y=true) (hx:x < (N:Int)+(gs.length:Int)) (hy:y < (N:Int)+(gs.length:Int)):V vs gs x=!V vs gs y:=by
 unfold oppW negW at h;rw [Bool.or_eq_true,Bool.and_eq_true,Bool.and_eq_true,decide_eq_true_iff,decide_eq_true_iff] at h;rcases h with ⟨h1,h2⟩ | ⟨h1,h2⟩
 ·rw [isW_2 hv hs h1 hx,h2]
 ·rw [isW_2 hv hs h1 hy,h2,Bool.not_not]
def FVal (vs:List Bool) (gs:List Gt) (p:Gt × Int) (v:Bool):Prop:=if p.2 < 0 then evalB p.1.op (V vs gs p.1.a) (V vs gs p.1.b)=v else V vs gs p.2=v
theorem FVal.gate {g:Gt} {v:Bool} (h:evalB g.op (V vs gs g.a) (V vs gs g.b)=v):FVal vs gs (g,-1) v:=by unfold FVal;rw [if_pos (by show (-1:Int) < 0;decide)];exact h
theorem FVal.congr {p:Gt × Int} {v v':Bool} (h:FVal vs gs p v) (e:v=v'):FVal vs gs p v':=e ▸ h
theorem FVal.wire {g:Gt} {z:Int} {v:Bool} (hz:0≤z) (h:V vs gs z=v):FVal vs gs (g,z) v:=by unfold FVal;rw [if_neg (by show ¬ z < 0;omega)];exact h
theorem notF_val (hv:vs.length=N) (hs:GsOk N gs) {a:Int} (ha:0≤a∧a < (N:Int)+(gs.length:Int)):FVal vs gs (notF N gs a) (!V vs gs a):=by
 unfold notF;split
 ·rename_i h
  rw [isW_0 hv hs h ha.2];exact .gate rfl
 ·split
  ·rename_i h
   rw [isW_1 hv hs h ha.2];exact .gate rfl
  ·split
   ·rename_i h
    have:=argW_ok hs h ha.2;rw [isW_2 hv hs h ha.2,Bool.not_not];exact .wire this.1 rfl
   ·exact .gate rfl
theorem foldG_val (hv:vs.length=N) (hs:GsOk N gs) {g:Gt} (hg:gateOk ((N:Int)+(gs.length:Int)) g=true):FVal vs gs (foldG N gs g) (evalB g.op (V vs gs g.a) (V vs gs g.b)):=by
 obtain ⟨ho,ha,hb,_,_⟩:=gateOk_parts hg;obtain ⟨op,x,y⟩:=g;dsimp only at ho ha hb ⊢;unfold foldG;dsimp only;split
 ·rename_i h;subst h
  exact notF_val hv hs (ha (by omega))
 ·split
  ·rename_i _ h;subst h
   have hx:=ha (by omega);have hy:=hb (by omega);unfold eitherF;dsimp only;split
   ·rename_i h
    rw [Bool.or_eq_true] at h;rcases h with h | h
    ·rw [isW_0 hv hs h hx.2];exact .gate rfl
    ·rw [isW_0 hv hs h hy.2];refine .gate ?_;show false=(_ && false);rw [Bool.and_false]
   ·split
    ·rename_i h
     rw [isW_1 hv hs h hx.2];exact .wire hy.1 rfl
    ·split
     ·rename_i h
      rw [Bool.or_eq_true,decide_eq_true_iff] at h;rcases h with h | h
      ·rw [isW_1 hv hs h hy.2];refine .wire hx.1 ?_;show _=(_ && true);rw [Bool.and_true]
      ·subst h;refine .wire hx.1 ?_;show _=(_ && _);rw [Bool.and_self]
     ·split
      ·rename_i h
       rw [oppW_V hv hs h hx.2 hy.2];refine .gate ?_;show false=(_ && _);rw [Bool.not_and_self]
      ·exact .gate rfl
  ·split
   ·rename_i _ _ h;subst h
    have hx:=ha (by omega);have hy:=hb (by omega);unfold eitherF;dsimp only;split
    ·rename_i h
     rw [Bool.or_eq_true] at h;rcases h with h | h
     ·rw [isW_1 hv hs h hx.2];exact .gate rfl
     ·rw [isW_1 hv hs h hy.2];refine .gate ?_;show true=(_ || true);rw [Bool.or_true]
    ·split
     ·rename_i h
      rw [isW_0 hv hs h hx.2];exact .wire hy.1 rfl
     ·split
      ·rename_i h
       rw [Bool.or_eq_true,decide_eq_true_iff] at h;rcases h with h | h
       ·rw [isW_0 hv hs h hy.2];refine .wire hx.1 ?_;show _=(_ || false);rw [Bool.or_false]
       ·subst h;refine .wire hx.1 ?_;show _=(_ || _);rw [Bool.or_self]
      ·split
       ·rename_i h
        rw [oppW_V hv hs h hx.2 hy.2];refine .gate ?_;show true=(_ || _);rw [Bool.not_or_self]
       ·exact .gate rfl
   ·split
    ·rename_i _ _ _ h;subst h
     have hx:=ha (by omega);have hy:=hb (by omega);unfold xorF;dsimp only;split
     ·rename_i h
      rw [isW_0 hv hs h hx.2];refine .wire hy.1 ?_;show _=(false != _);rw [Bool.false_bne]
     ·split
      ·rename_i h
       rw [isW_0 hv hs h hy.2];refine .wire hx.1 ?_;show _=(_ != false);rw [Bool.bne_false]
      ·split
       ·rename_i h
        subst h;refine .gate ?_;show false=(_ != _);rw [bne_self_eq_false]
       ·split
        ·rename_i h
         rw [oppW_V hv hs h hx.2 hy.2];refine .gate ?_;show true=(_ != _);cases V vs gs y <;> rfl
        ·split
         ·rename_i h
          have e:evalB 5 (V vs gs x) (V vs gs y)=!V vs gs y:=by rw [isW_1 hv hs h hx.2];show (true != _)=_;cases V vs gs y <;> rfl
          rw [e];exact notF_val hv hs hy
         ·split
          ·rename_i h
           have e:evalB 5 (V vs gs x) (V vs gs y)=!V vs gs x:=by rw [isW_1 hv hs h hy.2];show (_ != true)=_;cases V vs gs x <;> rfl
           rw [e];exact notF_val hv hs hx
          ·exact .gate rfl
    ·exact .gate rfl
end
def SemOk (vs:List Bool) (P:Nat→Prop) (s:Wk) (gs:List Gt):Prop:=∀ w,w < s.tq.length→P w→V vs s.gates (s.tq.getD w 0)=V vs gs (w:Int)
section
variable {N:Nat} {vs:List Bool} {gs:List Gt} {P:Nat→Prop} {s:Wk}
theorem move_val (hsem:SemOk vs P s gs) {lim:Int} {g:Gt} (hg:gateOk lim g=true) (hl:lim≤(s.tq.length:Int)) (hPa:2≤g.op→P g.a.toNat) (hPb:3≤g.op→P g.b.toNat):
 evalB (moveG s.tq g).op (V vs s.gates (moveG s.tq g).a) (V vs s.gates (moveG s.tq g).b)=evalB g.op (V vs gs g.a) (V vs gs g.b):=by
 obtain ⟨ho,ha,hb,_,_⟩:=gateOk_parts hg;rw [moveG_op];refine evalB_congr ho (fun h=>?_) (fun h=>?_)
 ·have:=ha h;rw [moveG_a ho h];refine (hsem g.a.toNat (by omega) (hPa h)).trans ?_;rw [Int.toNat_of_nonneg this.1]
 ·have:=hb h;rw [moveG_b ho h];refine (hsem g.b.toNat (by omega) (hPb h)).trans ?_;rw [Int.toNat_of_nonneg this.1]
theorem SemOk.add (hv:vs.length=N) (hsem:SemOk vs P s gs) (hok:WkOk N P s) (hl:s.tq.length=N+gs.length) {p:Gt × Int} {g:Gt} (hp:-1≤p.2∧p.2 < (N:Int)+(s.gates.length:Int)) (h:FVal vs s.gates p (evalB g.op (V vs gs g.a) (V vs gs g.b))):SemOk vs P (addW N s p) (gs ++ [g]):=by
 intro w hw hP;rw [(addW_len _ s p).2] at hw;have hx:Ext s.gates (addW N s p).gates:=Ext.snoc _ _;rcases Nat.lt_or_ge w s.tq.length with h1 | h1
 ·rw [show (addW N s p).tq.getD w 0=s.tq.getD w 0 from snocZ_lt _ _ _ h1];have hb:=hok.tok w h1 hP;rw [V_ext hv hx (by unfold okW;omega),V_ext hv (Ext.snoc gs g) (by unfold okW;omega)];exact hsem w h1 hP
 ·obtain rfl:w=s.tq.length:=by omega
  rw [show (addW N s p).tq.getD s.tq.length 0=_ from snocZ_eq _ _ _];have e1:((s.tq.length:Nat):Int)=wireF N gs:=by unfold wireF;omega
  rw [e1,V_new gs g hv];unfold FVal at h;split at h
  ·rename_i hz
   rw [if_pos hz];exact (V_new s.gates p.1 hv).trans h
  ·rename_i hz
   rw [if_neg hz,V_ext hv hx (by unfold okW;omega)];exact h
end
theorem V_start {N:Nat} {vs:List Bool} (hv:vs.length=N) (P:Nat→Prop):SemOk vs P (startW N) []:=by
 intro w hw _;have hw':w < N:=by simpa [startW] using hw
 rw [show (startW N).tq.getD w 0=(w:Int) by simp [startW,List.getD_eq_getElem?_getD,List.getElem?_map,List.getElem?_range hw']];rfl
theorem done_sem {c:Circ} {s:Wk} {vs:List Bool} {P:Nat→Prop} (hr:rightC c=true) (hsem:SemOk vs P s c.gates) (hl:(s.tq.length:Int)=c.inputs+(c.gates.length:Int)) (hP:∀ k,k < c.outs.length→P (c.outs.getD k 0).toNat):outsG evalB false (doneW c s) vs=outsG evalB false c vs:=by
 show (c.outs.map (toAt s.tq)).map (fun o=>V vs s.gates o)=c.outs.map (fun o=>V vs c.gates o);rw [List.map_map]
 apply List.map_congr_left
 intro o ho;obtain ⟨k,hk,rfl⟩:=List.getElem_of_mem ho;have hb:=outOk_at (rightC_parts hr).2.2 hk;have h3:=hP k hk;have e:c.outs.getD k 0=c.outs[k]:=by rw [List.getD_eq_getElem?_getD,List.getElem?_eq_getElem hk];rfl
 rw [e] at hb h3;show V vs s.gates (s.tq.getD (c.outs[k]).toNat 0)=_;rw [hsem _ (by omega) h3,Int.toNat_of_nonneg hb.1]
theorem fold_sem {c:Circ} (h:rightC c=true) {vs:List Bool} (hv:(vs.length:Int)=c.inputs):outsG evalB false (foldC c) vs=outsG evalB false c vs:=by
 obtain ⟨⟨h0,h1,_⟩,_⟩:=rightC_parts h
 obtain ⟨N,hN⟩:∃ N:Nat,c.inputs=(N:Int):=⟨c.inputs.toNat,by omega⟩
 have hvN:vs.length=N:=by omega
 have key:∀ k,k≤c.gates.length→SemOk vs (fun _=>True) (foldTo c k) (c.gates.take k):=fun k hk=>by
  induction k with
  | zero=>rw [foldTo,hN];exact V_start hvN _
  | succ k ih=>
   have hs:=foldTo_ok h k (by omega);obtain ⟨l1,l2⟩:=foldTo_len c k;have hg:=gateAt_ok h (show k < c.gates.length by omega);have hm:=moveG_ok hs hg (by omega) (fun _=>trivial) (fun _=>trivial);obtain ⟨f1,f2,f3⟩:=foldG_ok hs.gok h0 hm;rw [take_snoc_getD c.gates k (by omega),foldTo];rw [hN] at hs hm f2 f3 ⊢;refine (ih (by omega)).add hvN hs (by rw [l2,List.length_take];omega) ⟨f2,f3⟩ ?_;exact (foldG_val hvN hs.gok hm).congr (move_val (ih (by omega)) hg (by omega) (fun _=>trivial) (fun _=>trivial))
 rw [foldC,if_pos h];have:=key c.gates.length (Nat.le_refl _);rw [List.take_length] at this;obtain ⟨l1,l2⟩:=foldTo_len c c.gates.length;exact done_sem h this (by omega) (fun _ _=>trivial)
theorem evalB_swap {op:Int} (ho:op=0∨op=1∨op=2∨op=3∨op=4∨op=5) (h:3≤op) (x y:Bool):evalB op x y=evalB op y x:=by
 rcases ho with rfl | rfl | rfl | rfl | rfl | rfl
 ·omega
 ·omega
 ·omega
 ·show (x && y)=(y && x);rw [Bool.and_comm]
 ·show (x || y)=(y || x);rw [Bool.or_comm]
 ·show (x != y)=(y != x);rw [bne_comm]
theorem swapG_val {lim:Int} {g:Gt} (hg:gateOk lim g=true) (f:Int→Bool):evalB (swapG g).op (f (swapG g).a) (f (swapG g).b)=evalB g.op (f g.a) (f g.b):=by
 obtain ⟨ho,_⟩:=gateOk_parts hg;unfold swapG;split
 ·rename_i h
  have h2:=h.1;rw [operandsO_of ho] at h2;exact evalB_swap ho (by split at h2 <;> (try split at h2) <;> omega) _ _
 ·rfl
theorem knownW_val {N:Nat} {vs:List Bool} (hv:vs.length=N) {gs:List Gt} (hs:GsOk N gs) {g:Gt}:FVal vs gs (g,knownW N gs g) (evalB g.op (V vs gs g.a) (V vs gs g.b)):=by
 unfold knownW;split
 ·rename_i k hk
  obtain ⟨hlt,he,_⟩:=List.findIdx?_eq_some_iff_getElem.1 hk;have hg:gs.getD k default=g:=by rw [List.getD_eq_getElem?_getD,List.getElem?_eq_getElem hlt];exact (gtEq_iff _ _).1 he
  refine .wire (by omega) ?_;rw [V_at hv hlt (hs k hlt),hg]
 ·exact .gate rfl
theorem share_sem {c:Circ} (h:rightC c=true) {vs:List Bool} (hv:(vs.length:Int)=c.inputs):outsG evalB false (shareC c) vs=outsG evalB false c vs:=by
 obtain ⟨⟨h0,h1,_⟩,_⟩:=rightC_parts h
 obtain ⟨N,hN⟩:∃ N:Nat,c.inputs=(N:Int):=⟨c.inputs.toNat,by omega⟩
 have hvN:vs.length=N:=by omega
 have key:∀ k,k≤c.gates.length→SemOk vs (fun _=>True) (shareTo c k) (c.gates.take k):=fun k hk=>by
  induction k with
  | zero=>rw [shareTo,hN];exact V_start hvN _
  | succ k ih=>
   have hs:=shareTo_ok h k (by omega);obtain ⟨l1,l2⟩:=shareTo_len c k;have hg:=gateAt_ok h (show k < c.gates.length by omega);have hm:=moveG_ok hs hg (by omega) (fun _=>trivial) (fun _=>trivial);have hk:=knownW_bd c.inputs (shareTo c k).gates (swapG (moveG (shareTo c k).tq (gateAt c k))) h0;rw [take_snoc_getD c.gates k (by omega),shareTo];rw [hN] at hs hm hk ⊢;refine (ih (by omega)).add hvN hs (by rw [l2,List.length_take];omega) hk ?_;exact (knownW_val hvN hs.gok).congr ((swapG_val hm (V vs (shareTo c k).gates)).trans (move_val (ih (by omega)) hg (by omega) (fun _=>trivial) (fun _=>trivial)))
 rw [shareC,if_pos h];have:=key c.gates.length (Nat.le_refl _);rw [List.take_length] at this;obtain ⟨l1,l2⟩:=shareTo_len c c.gates.length;exact done_sem h this (by omega) (fun _ _=>trivial)
end Go.Proofs.YtbijfnbelkbofaaGreatDoor
