/-
  Lemmas for the law TopCircuits.
-/
import Derived.Test.YtbijfnbelkbofaaGreatDoorJZ8
set_option linter.unusedSimpArgs false
set_option linter.unusedVariables false
namespace Go.Proofs.YtbijfnbelkbofaaGreatDoor
open Go.RowKit
theorem setT_get (nd:List Bool) (z:Int) (w:Nat):(setT nd z).getD w false=true ↔ (w=z.toNat∧w < nd.length)∨nd.getD w false=true:=by
 unfold setT;rw [List.getD_eq_getElem?_getD,List.getD_eq_getElem?_getD,List.getElem?_set];by_cases h:z.toNat=w
 ·rw [if_pos h];subst h;by_cases h2:z.toNat < nd.length
  ·simp [h2]
  ·simp [h2]
 ·rw [if_neg h];have h3:¬ w=z.toNat:=fun e=>h e.symm
  simp [h3]
theorem needG_get {n:Int} {nd:List Bool} {i:Nat} {g:Gt} (ho:g.op=0∨g.op=1∨g.op=2∨g.op=3∨g.op=4∨g.op=5) (w:Nat):
 (needG n nd i g).getD w false=true ↔ nd.getD w false=true∨(needAt nd (n+(i:Int))=true∧w < nd.length∧((2≤g.op∧w=g.a.toNat)∨(3≤g.op∧w=g.b.toNat))):=by
 have hop:=operandsO_of ho;unfold needG;by_cases h:needAt nd (n+(i:Int))=true
 ·rw [if_pos h];simp only [h,true_and];by_cases h3:3≤g.op
  ·rw [if_pos (by rw [hop,if_neg (by omega),if_neg (by omega)]),setT_get,setT_get];have hl:(setT nd g.a).length=nd.length:=by simp [setT]
   rw [hl];have h2:2≤g.op:=by omega
   simp only [h2,h3,true_and]
   constructor
   ·rintro (⟨e,l⟩ | ⟨e,l⟩ | e)
    ·exact .inr ⟨l,.inr e⟩
    ·exact .inr ⟨l,.inl e⟩
    ·exact .inl e
   ·rintro (e | ⟨l,e | e⟩)
    ·exact .inr (.inr e)
    ·exact .inr (.inl ⟨e,l⟩)
    ·exact .inl ⟨e,l⟩
  ·rw [if_neg (by rw [hop];split <;> (try split) <;> omega)];by_cases h2:2≤g.op
   ·rw [if_pos (by rw [hop,if_neg (by omega),if_pos (by omega)]),setT_get];simp only [h2,h3,true_and,false_and,or_false]
    constructor
    ·rintro (⟨e,l⟩ | e)
     ·exact .inr ⟨l,e⟩
     ·exact .inl e
    ·rintro (e | ⟨l,e⟩)
     ·exact .inr e
     ·exact .inl ⟨e,l⟩
   ·rw [if_neg (by rw [hop,if_pos (by omega)];omega)]
    simp [h2,h3]
 ·rw [if_neg h]
  simp [h]
structure Closed (c:Circ) (P:Int→Prop):Prop where
 outs:∀ k,k < c.outs.length→P (c.outs.getD k 0)
 fst:∀ k,k < c.gates.length→P (c.inputs+(k:Int))→2≤(gateAt c k).op→P (gateAt c k).a
 snd:∀ k,k < c.gates.length→P (c.inputs+(k:Int))→3≤(gateAt c k).op→P (gateAt c k).b
theorem need_min {c:Circ} (h:rightC c=true) {P:Int→Prop} (hc:Closed c P) (w:Nat) (hw:(needC c).getD w false=true):P (w:Int):=by
 obtain ⟨⟨h0,h1,_⟩,hg,ho⟩:=rightC_parts h
 have hout:∀ k,k≤c.outs.length→∀ w:Nat,(needOuts c k).getD w false=true→P (w:Int):=fun k=>by
  induction k with
  | zero=>
   intro _ w hw;rw [needOuts,List.getD_eq_getElem?_getD,List.getElem?_replicate] at hw;split at hw <;> cases hw
  | succ k ih=>
   intro hk w hw;rw [needOuts,setT_get] at hw;rcases hw with ⟨e,_⟩ | hw
   ·have:=outOk_at ho (show k < c.outs.length by omega);rw [e,Int.toNat_of_nonneg this.1];exact hc.outs k (by omega)
   ·exact ih (by omega) w hw
 have hto:∀ j,j≤c.gates.length→∀ w:Nat,(needTo c j).getD w false=true→P (w:Int):=fun j=>by
  induction j with
  | zero=>intro _ w hw;exact hout _ (Nat.le_refl _) w hw
  | succ j ih=>
   intro hj w hw;have hk:c.gates.length - 1 - j < c.gates.length:=by omega
   obtain ⟨hop,ha,hb,_,_⟩:=gateOk_parts (gateAt_ok h hk);rw [needTo,needG_get hop] at hw;rcases hw with hw | ⟨hn,_,hw⟩
   ·exact ih (by omega) w hw
   ·have hP:P (c.inputs+((c.gates.length - 1 - j:Nat):Int)):=by
     have:=ih (by omega) _ hn;rw [Int.toNat_of_nonneg (by omega)] at this;exact this
    rcases hw with ⟨h2,e⟩ | ⟨h3,e⟩
    ·rw [e,Int.toNat_of_nonneg (ha h2).1];exact hc.fst _ hk hP h2
    ·rw [e,Int.toNat_of_nonneg (hb h3).1];exact hc.snd _ hk hP h3
 exact hto _ (Nat.le_refl _) w hw
def Ned (c:Circ) (w:Int):Prop:=needAt (needC c) w=true
theorem need_closed {c:Circ} (h:rightC c=true):Closed c (Ned c):=by
 obtain ⟨⟨h0,h1,_⟩,hg,ho⟩:=rightC_parts h
 have hmono:∀ j,j≤c.gates.length→∀ d,d≤j→∀ w,(needTo c d).getD w false=true→(needTo c j).getD w false=true:=fun j=>by
  induction j with
  | zero=>
   intro _ d hd w hw;obtain rfl:d=0:=by omega
   exact hw
  | succ j ih=>
   intro hj d hd w hw;rcases Nat.lt_or_ge d (j+1) with h1 | h1
   ·rw [needTo,needG_get (gateOk_parts (gateAt_ok h (show c.gates.length - 1 - j < c.gates.length by omega))).1];exact .inl (ih (by omega) d (by omega) w hw)
   ·obtain rfl:d=j+1:=by omega
    exact hw
 have hout:∀ k,k≤c.outs.length→∀ i,i < k→(needOuts c k).getD (c.outs.getD i 0).toNat false=true:=fun k=>by
  induction k with
  | zero=>intro _ i hi;omega
  | succ k ih=>
   intro hk i hi;rw [needOuts,setT_get];rcases Nat.lt_or_ge i k with h1 | h1
   ·exact .inr (ih (by omega) i h1)
   ·obtain rfl:i=k:=by omega
    have:=outOk_at ho (show i < c.outs.length by omega);exact .inl ⟨rfl,by rw [needOuts_len];omega⟩
 have hops:∀ j,j≤c.gates.length→∀ k,k < c.gates.length→c.gates.length - j≤k→(needTo c j).getD (c.inputs+(k:Int)).toNat false=true →
  (2≤(gateAt c k).op→(needTo c j).getD (gateAt c k).a.toNat false=true)∧(3≤(gateAt c k).op→(needTo c j).getD (gateAt c k).b.toNat false=true):=fun j=>by
  induction j with
  | zero=>intro _ k hk h2;omega
  | succ j ih=>
   intro hj k hk h2 hn;have hi:c.gates.length - 1 - j < c.gates.length:=by omega
   obtain ⟨hop,ha,hb,_,_⟩:=gateOk_parts (gateAt_ok h hi);have hn2:=hn;rw [needTo,needG_get hop] at hn2
   have hn3:(needTo c j).getD (c.inputs+(k:Int)).toNat false=true:=by
    rcases hn2 with e | ⟨_,_,⟨h3,e⟩ | ⟨h3,e⟩⟩
    ·exact e
    ·have:=ha h3;omega
    ·have:=hb h3;omega
   rcases Nat.lt_or_ge (c.gates.length - 1 - j) k with h4 | h4
   ·obtain ⟨p1,p2⟩:=ih (by omega) k hk (by omega) hn3;exact ⟨fun q=>hmono _ hj j (by omega) _ (p1 q),fun q=>hmono _ hj j (by omega) _ (p2 q)⟩
   ·obtain rfl:k=c.gates.length - 1 - j:=by omega
    have hl:(needTo c j).length=(c.inputs+c.gates.length).toNat:=needTo_len c j;rw [needTo,needG_get hop,needG_get hop];exact ⟨fun q=>.inr ⟨hn3,by have:=ha q;omega,.inl ⟨q,rfl⟩⟩,fun q=>.inr ⟨hn3,by have:=hb q;omega,.inr ⟨q,rfl⟩⟩⟩
 refine ⟨fun k hk=>?_,fun k hk hP h2=>?_,fun k hk hP h3=>?_⟩
 ·exact hmono _ (Nat.le_refl _) 0 (Nat.zero_le _) _ (hout _ (Nat.le_refl _) k hk)
 ·exact (hops _ (Nat.le_refl _) k hk (by omega) hP).1 h2
 ·exact (hops _ (Nat.le_refl _) k hk (by omega) hP).2 h3
def ndg (c:Circ) (i:Nat):Bool:=needAt (needC c) (c.inputs+(i:Int))
def rank (c:Circ) (i:Nat):Nat:=((List.range i).filter (ndg c)).length
theorem rank_succ (c:Circ) (i:Nat):rank c (i+1)=if ndg c i=true then rank c i+1 else rank c i:=by
 unfold rank;rw [List.range_succ,List.filter_append,List.length_append];split
 ·rename_i h;simp [h]
 ·rename_i h;simp [h]
theorem rank_le (c:Circ) (i:Nat):rank c i≤i:=by
 unfold rank;exact Nat.le_trans (List.length_filter_le _ _) (by simp)
theorem rank_mono (c:Circ) {i j:Nat} (h:i≤j):rank c i≤rank c j:=by
 induction j with
 | zero => obtain rfl : i = 0 := by omega
           exact Nat.le_refl _
 | succ j ih=>
  rcases Nat.lt_or_ge i (j+1) with h1 | h1
  ·have:=ih (by omega);rw [rank_succ];split <;> omega
  ·obtain rfl:i=j+1:=by omega
   exact Nat.le_refl _
theorem trimTo_succ (c:Circ) (k:Nat):trimTo c (k+1)=if ndg c k=true then addW c.inputs (trimTo c k) (moveG (trimTo c k).tq (gateAt c k),-1) else ⟨(trimTo c k).gates,(trimTo c k).tq ++ [0]⟩:=rfl
theorem trim_gl (c:Circ) (k:Nat):(trimTo c k).gates.length=rank c k:=by
 induction k with
 | zero=>rfl
 | succ k ih=>
  rw [trimTo_succ,rank_succ];split
  ·rw [(addW_len _ _ _).1,ih]
  ·exact ih
theorem trim_to_keep (c:Circ) {k k':Nat} (h:k≤k') {w:Nat} (hw:w < c.inputs.toNat+k):(trimTo c k').tq.getD w 0=(trimTo c k).tq.getD w 0:=by
 induction k' with
 | zero => obtain rfl : k = 0 := by omega
           rfl
 | succ j ih=>
  rcases Nat.lt_or_ge k (j+1) with h1 | h1
  ·have hl:=(trimTo_len c j).2;rw [← ih (by omega),trimTo_succ];split
   ·exact snocZ_lt _ _ _ (by omega)
   ·exact snocZ_lt _ _ _ (by omega)
  ·obtain rfl:k=j+1:=by omega
   rfl
theorem start_at (n:Int) {w:Nat} (h:w < n.toNat):(startW n).tq.getD w 0=(w:Int):=by
 simp [startW,List.getD_eq_getElem?_getD,List.getElem?_map,List.getElem?_range h]
theorem trim_to_in (c:Circ) (k:Nat) {w:Nat} (h:w < c.inputs.toNat):(trimTo c k).tq.getD w 0=(w:Int):=
 (trim_to_keep c (Nat.zero_le k) (by omega)).trans (start_at _ h)
theorem trim_to_gate (c:Circ) (h0:0≤c.inputs) {k i:Nat} (h:i < k):(trimTo c k).tq.getD (c.inputs.toNat+i) 0=if ndg c i=true then c.inputs+(rank c i:Int) else 0:=by
 rw [trim_to_keep c (show i+1≤k by omega) (by omega),trimTo_succ];have hl:=(trimTo_len c i).2;rw [← hl];split
 ·rw [show (addW c.inputs (trimTo c i) (moveG (trimTo c i).tq (gateAt c i),-1)).tq.getD (trimTo c i).tq.length 0=_ from snocZ_eq _ _ _,if_pos (show (-1:Int) < 0 by decide),trim_gl]
 ·exact snocZ_eq _ _ _
theorem moveG_congr {tq tq':List Int} {L:Nat} (h:∀ w,w < L→tq.getD w 0=tq'.getD w 0) {lim:Int} {g:Gt} (hg:gateOk lim g=true) (hl:lim≤(L:Int)):moveG tq g=moveG tq' g:=by
 obtain ⟨ho,ha,hb,_,_⟩:=gateOk_parts hg;have hop:=operandsO_of ho
 have e1:(moveG tq g).a=(moveG tq' g).a:=by
  rcases (by omega:g.op < 2∨2≤g.op) with h2 | h2
  ·rw [moveG_a0 ho h2,moveG_a0 ho h2]
  ·rw [moveG_a ho h2,moveG_a ho h2];exact h _ (by have:=ha h2;omega)
 have e2:(moveG tq g).b=(moveG tq' g).b:=by
  rcases (by omega:g.op < 3∨3≤g.op) with h3 | h3
  ·rw [moveG_b0 ho h3,moveG_b0 ho h3]
  ·rw [moveG_b ho h3,moveG_b ho h3];exact h _ (by have:=hb h3;omega)
 have e:∀ x y:Gt,x.op=y.op→x.a=y.a→x.b=y.b→x=y:=fun x y p q r=>by cases x;cases y;cases p;cases q;cases r;rfl
 exact e _ _ rfl e1 e2
theorem trim_gates {c:Circ} (h:rightC c=true) (k:Nat) (hk:k≤c.gates.length):(trimTo c k).gates=((List.range k).filter (ndg c)).map (fun i=>moveG (trimTo c k).tq (gateAt c i)):=by
 obtain ⟨⟨h0,h1,_⟩,_⟩:=rightC_parts h
 induction k with
 | zero=>rfl
 | succ k ih=>
  have hkeep:∀ i,i≤k→moveG (trimTo c (k+1)).tq (gateAt c i)=moveG (trimTo c k).tq (gateAt c i):=fun i hi=>
   moveG_congr (L:=c.inputs.toNat+k) (fun w hw=>trim_to_keep c (Nat.le_succ k) hw) (gateAt_ok h (show i < c.gates.length by omega)) (by omega)
  rw [List.range_succ,List.filter_append,List.map_append]
  have e:((List.range k).filter (ndg c)).map (fun i=>moveG (trimTo c (k+1)).tq (gateAt c i))=(trimTo c k).gates:=by
   rw [ih (by omega)]
   apply List.map_congr_left
   intro i hi;rw [List.mem_filter,List.mem_range] at hi;exact hkeep i (by omega)
  rw [e];by_cases hn:ndg c k=true
  ·have e2:List.filter (ndg c) [k]=[k]:=by simp [hn]
   rw [e2,List.map_singleton,hkeep k (Nat.le_refl _),trimTo_succ,if_pos hn];rfl
  ·have e2:List.filter (ndg c) [k]=[]:=by simp [hn]
   rw [e2,List.map_nil,List.append_nil,trimTo_succ,if_neg hn]
theorem trimTo_ok {c:Circ} (h:rightC c=true) (k:Nat) (hk:k≤c.gates.length):WkOk c.inputs (fun w=>c.inputs≤(w:Int)→Ned c (w:Int)) (trimTo c k):=by
 obtain ⟨⟨h0,h1,_⟩,_⟩:=rightC_parts h;have hcl:=need_closed h
 induction k with
 | zero=>exact startOk h0 _
 | succ k ih=>
  have hs:=ih (by omega);have l2:=(trimTo_len c k).2;rw [trimTo_succ];split
  ·rename_i hn
   have hg:=gateAt_ok h (show k < c.gates.length by omega);obtain ⟨ho,ha,hb,_,_⟩:=gateOk_parts hg;have hm:=moveG_ok hs hg (by omega) (fun h2 _=>by rw [Int.toNat_of_nonneg (ha h2).1];exact hcl.fst k (by omega) hn h2) (fun h3 _=>by rw [Int.toNat_of_nonneg (hb h3).1];exact hcl.snd k (by omega) hn h3);exact hs.add hm ⟨by show (-1:Int)≤-1;omega,by show (-1:Int) < _;omega⟩ h0 (fun _ _ q=>q)
  ·rename_i hn
   refine ⟨hs.gok,fun w hw hq=>?_⟩;have hw:w < ((trimTo c k).tq ++ [(0:Int)]).length:=hw;rw [List.length_append,List.length_singleton] at hw;rcases Nat.lt_or_ge w (trimTo c k).tq.length with h2 | h2
   ·show 0≤((trimTo c k).tq ++ [(0:Int)]).getD w 0∧_;rw [snocZ_lt _ _ _ h2];exact hs.tok w h2 hq
   ·obtain rfl:w=(trimTo c k).tq.length:=by omega
    have:=hq (by omega);have e:(((trimTo c k).tq.length:Nat):Int)=c.inputs+(k:Int):=by omega
    rw [e] at this;exact absurd this hn
theorem trim_outs {c:Circ} (h:rightC c=true):∀ k,k < c.outs.length→c.inputs≤(((c.outs.getD k 0).toNat:Nat):Int)→Ned c (((c.outs.getD k 0).toNat:Nat):Int):=fun k hk _=>by
 rw [Int.toNat_of_nonneg (outOk_at (rightC_parts h).2.2 hk).1];exact (need_closed h).outs k hk
theorem trim_right {c:Circ} (h:rightC c=true):rightC (trimC c)=true:=by
 rw [trimC,if_pos h];obtain ⟨⟨h0,h1,_⟩,_⟩:=rightC_parts h;obtain ⟨l1,l2⟩:=trimTo_len c c.gates.length;exact done_ok h (trimTo_ok h _ (Nat.le_refl _)) (by omega) (by omega) (trim_outs h)
theorem trim_sem {c:Circ} (h:rightC c=true) {vs:List Bool} (hv:(vs.length:Int)=c.inputs):outsG evalB false (trimC c) vs=outsG evalB false c vs:=by
 obtain ⟨⟨h0,h1,_⟩,_⟩:=rightC_parts h
 obtain ⟨N,hN⟩:∃ N:Nat,c.inputs=(N:Int):=⟨c.inputs.toNat,by omega⟩
 have hvN:vs.length=N:=by omega
 have hcl:=need_closed h
 have key:∀ k,k≤c.gates.length→SemOk vs (fun w=>c.inputs≤(w:Int)→Ned c (w:Int)) (trimTo c k) (c.gates.take k):=fun k hk=>by
  induction k with
  | zero=>rw [trimTo,hN];exact V_start hvN _
  | succ k ih=>
   have hs:=trimTo_ok h k (by omega);have l2:=(trimTo_len c k).2;have hg:=gateAt_ok h (show k < c.gates.length by omega);rw [take_snoc_getD c.gates k (by omega),trimTo_succ];split
   ·rename_i hn
    obtain ⟨ho,ha,hb,_,_⟩:=gateOk_parts hg;have q1:2≤(gateAt c k).op→(c.inputs≤(((gateAt c k).a.toNat:Nat):Int)→Ned c (((gateAt c k).a.toNat:Nat):Int)):=fun h2 _=>by rw [Int.toNat_of_nonneg (ha h2).1];exact hcl.fst k (by omega) hn h2
    have q2:3≤(gateAt c k).op→(c.inputs≤(((gateAt c k).b.toNat:Nat):Int)→Ned c (((gateAt c k).b.toNat:Nat):Int)):=fun h3 _=>by rw [Int.toNat_of_nonneg (hb h3).1];exact hcl.snd k (by omega) hn h3
    have hmv:=move_val (ih (by omega)) hg (by omega) q1 q2
    have hp:(-1:Int)≤-1∧(-1:Int) < (N:Int)+((trimTo c k).gates.length:Int):=⟨by omega,by omega⟩
    have hs2:WkOk (N:Int) (fun w=>c.inputs≤(w:Int)→Ned c (w:Int)) (trimTo c k):=hN ▸ hs
    have:=(ih (by omega)).add (p:=(moveG (trimTo c k).tq (gateAt c k),-1)) (g:=gateAt c k) hvN hs2 (by rw [l2,List.length_take];omega) hp (.gate hmv);rw [hN] at this ⊢;exact this
   ·rename_i hn
    intro w hw hq;have hw:w < ((trimTo c k).tq ++ [(0:Int)]).length:=hw;rw [List.length_append,List.length_singleton] at hw;show V vs (trimTo c k).gates (((trimTo c k).tq ++ [(0:Int)]).getD w 0)=_;rcases Nat.lt_or_ge w (trimTo c k).tq.length with h2 | h2
    ·rw [snocZ_lt _ _ _ h2,ih (by omega) w h2 hq,V_ext hvN (Ext.snoc _ _) (by unfold okW;rw [List.length_take];omega)]
    ·obtain rfl:w=(trimTo c k).tq.length:=by omega
     have:=hq (by omega);have e:(((trimTo c k).tq.length:Nat):Int)=c.inputs+(k:Int):=by omega
     rw [e] at this;exact absurd this hn
 rw [trimC,if_pos h];have:=key c.gates.length (Nat.le_refl _);rw [List.take_length] at this;obtain ⟨l1,l2⟩:=trimTo_len c c.gates.length;exact done_sem h this (by omega) (trim_outs h)
end Go.Proofs.YtbijfnbelkbofaaGreatDoor
