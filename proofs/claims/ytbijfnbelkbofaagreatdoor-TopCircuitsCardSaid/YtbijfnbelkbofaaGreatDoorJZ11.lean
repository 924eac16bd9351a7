/-
  Lemmas for the law TopCircuits.
-/
import Derived.Test.YtbijfnbelkbofaaGreatDoorJZ9
set_option linter.unusedSimpArgs false
set_option linter.unusedVariables false
namespace Go.Proofs.YtbijfnbelkbofaaGreatDoor
open Go.RowKit
theorem gt_ext {x y:Gt} (p:x.op=y.op) (q:x.a=y.a) (r:x.b=y.b):x=y:=by
 cases x;cases y;cases p;cases q;cases r;rfl
structure Chain (n:Int) (T:Nat→Wk) (p:Nat→Gt × Int):Prop where
 z:T 0=startW n
 s:∀ k,T (k+1)=addW n (T k) (p k)
section
variable {n:Int} {T:Nat→Wk} {p:Nat→Gt × Int}
theorem Chain.len (h:Chain n T p) (k:Nat):(T k).gates.length=k∧(T k).tq.length=n.toNat+k:=by
 induction k with
 | zero=>rw [h.z];exact startW_len _
 | succ k ih=>
  have:=addW_len n (T k) (p k);rw [h.s];omega
theorem Chain.to_keep (h:Chain n T p) {k k':Nat} (hk:k≤k') {w:Nat} (hw:w < n.toNat+k):(T k').tq.getD w 0=(T k).tq.getD w 0:=by
 induction k' with
 | zero=>
  obtain rfl:k=0:=by omega
  rfl
 | succ j ih=>
  rcases Nat.lt_or_ge k (j+1) with h1 | h1
  ·have hl:=(h.len j).2;rw [← ih (by omega),h.s];exact snocZ_lt _ _ _ (by omega)
  ·obtain rfl:k=j+1:=by omega
   rfl
theorem Chain.g_keep (h:Chain n T p) {k k':Nat} (hk:k≤k') {i:Nat} (hi:i < k):(T k').gates.getD i default=(T k).gates.getD i default:=by
 induction k' with
 | zero=>
  obtain rfl:k=0:=by omega
  rfl
 | succ j ih=>
  rcases Nat.lt_or_ge k (j+1) with h1 | h1
  ·have hl:=(h.len j).1;rw [← ih (by omega),h.s];exact snocZ_lt _ _ _ (by omega)
  ·obtain rfl:k=j+1:=by omega
   rfl
theorem Chain.to_in (h:Chain n T p) (k:Nat) {w:Nat} (hw:w < n.toNat):(T k).tq.getD w 0=(w:Int):=by
 rw [h.to_keep (Nat.zero_le k) (by omega),h.z];exact start_at _ hw
theorem Chain.to_at (h:Chain n T p) {k i:Nat} (hi:i < k):(T k).tq.getD (n.toNat+i) 0=if (p i).2 < 0 then n+(i:Int) else (p i).2:=by
 have l:=h.len i;rw [h.to_keep (show i+1≤k by omega) (by omega),h.s,← l.2,show (addW n (T i) (p i)).tq.getD (T i).tq.length 0=_ from snocZ_eq _ _ _,l.1]
theorem Chain.g_at (h:Chain n T p) {k i:Nat} (hi:i < k):(T k).gates.getD i default=(p i).1:=by
 have l:=h.len i;rw [h.g_keep (show i+1≤k by omega) (by omega),h.s];have e:=snocZ_eq (T i).gates (p i).1 default;rw [l.1] at e;exact e
def Fx (n:Int) (s:Wk) (k:Nat) (x:Int):Prop:=0≤x∧x < n+(k:Int)∧s.tq.getD x.toNat 0=x
theorem Chain.fx (h:Chain n T p) (hn:0≤n) {k k':Nat} (hk:k≤k') {x:Int} (hx:Fx n (T k) k x):Fx n (T k') k' x:=by
 obtain ⟨a,b,e⟩:=hx;exact ⟨a,by omega,by rw [h.to_keep hk (by omega)];exact e⟩
structure Idem (n:Int) (s:Wk) (k:Nat):Prop where
 tq:∀ w,w < n.toNat+k→Fx n s k (s.tq.getD w 0)
 ga:∀ i,i < k→2≤(s.gates.getD i default).op→Fx n s k (s.gates.getD i default).a
 gb:∀ i,i < k→3≤(s.gates.getD i default).op→Fx n s k (s.gates.getD i default).b
theorem Chain.idem (h:Chain n T p) (hn:0≤n) (K:Nat) (hp:∀ k,k < K→Idem n (T k) k→(2≤(p k).1.op→Fx n (T k) k (p k).1.a)∧(3≤(p k).1.op→Fx n (T k) k (p k).1.b)∧(0≤(p k).2→Fx n (T k) k (p k).2)):∀ k,k≤K→Idem n (T k) k:=fun k=>by
 induction k with
 | zero=>
  intro _;refine ⟨fun w hw=>?_,fun i hi=>by omega,fun i hi=>by omega⟩;have hw:w < n.toNat:=by omega
  rw [h.to_in 0 hw];exact ⟨by omega,by omega,by rw [Int.toNat_natCast];exact h.to_in 0 hw⟩
 | succ k ih=>
  intro hk;have hI:=ih (by omega);obtain ⟨p1,p2,p3⟩:=hp k (by omega) hI;have up:∀ {x},Fx n (T k) k x→Fx n (T (k+1)) (k+1) x:=fun hx=>h.fx hn (Nat.le_succ k) hx
  refine ⟨fun w hw=>?_,fun i hi ho=>?_,fun i hi ho=>?_⟩
  ·rcases Nat.lt_or_ge w (n.toNat+k) with h1 | h1
   ·rw [h.to_keep (Nat.le_succ k) h1];exact up (hI.tq w h1)
   ·obtain rfl:w=n.toNat+k:=by omega
    rw [h.to_at (Nat.lt_succ_self k)];split
    ·rename_i hz
     refine ⟨by omega,by omega,?_⟩;have e:(n+(k:Int)).toNat=n.toNat+k:=by omega
     rw [e,h.to_at (Nat.lt_succ_self k),if_pos hz]
    ·exact up (p3 (by omega))
  ·rcases Nat.lt_or_ge i k with h1 | h1
   ·rw [h.g_keep (Nat.le_succ k) h1] at ho ⊢;exact up (hI.ga i h1 ho)
   ·obtain rfl:i=k:=by omega
    rw [h.g_at (Nat.lt_succ_self i)] at ho ⊢;exact up (p1 ho)
  ·rcases Nat.lt_or_ge i k with h1 | h1
   ·rw [h.g_keep (Nat.le_succ k) h1] at ho ⊢;exact up (hI.gb i h1 ho)
   ·obtain rfl:i=k:=by omega
    rw [h.g_at (Nat.lt_succ_self i)] at ho ⊢;exact up (p2 ho)
end
theorem foldChain (c:Circ):Chain c.inputs (foldTo c) (fun k=>foldG c.inputs (foldTo c k).gates (moveG (foldTo c k).tq (gateAt c k))):=⟨rfl,fun _=>rfl⟩
theorem shareChain (c:Circ):Chain c.inputs (shareTo c) (fun k=>shareG c.inputs (shareTo c k) (gateAt c k)):=⟨rfl,fun _=>rfl⟩
theorem notF_P {n:Int} {gs:List Gt} {P:Int→Prop} {a:Int} (ha:P a) (hlt:a < n+(gs.length:Int)) (harg:∀ x,P x→isW n gs x 2=true→x < n+(gs.length:Int)→P (argW n gs x)):
 (2≤(notF n gs a).1.op→P (notF n gs a).1.a)∧(3≤(notF n gs a).1.op→P (notF n gs a).1.b)∧(0≤(notF n gs a).2→P (notF n gs a).2):=by
 unfold notF;split
 ·exact ⟨fun h => by have h : (2 : Int) ≤ 1 := h
                     omega, fun h => by have h : (3 : Int) ≤ 1 := h
                                        omega, fun h => by have h : (0 : Int) ≤ -1 := h
                                                           omega⟩
 ·split
  ·exact ⟨fun h => by have h : (2 : Int) ≤ 0 := h
                      omega, fun h => by have h : (3 : Int) ≤ 0 := h
                                         omega, fun h => by have h : (0 : Int) ≤ -1 := h
                                                            omega⟩
  ·split
   ·rename_i h
    exact ⟨fun _ => ha, fun h => by have h : (3 : Int) ≤ 2 := h
                                    omega,fun _=>harg a ha h hlt⟩
   ·exact ⟨fun _ => ha, fun h => by have h : (3 : Int) ≤ 2 := h
                                    omega, fun h => by have h : (0 : Int) ≤ -1 := h
                                                       omega⟩
theorem foldG_P {n:Int} {gs:List Gt} {P:Int→Prop} {g:Gt} (hg:gateOk (n+(gs.length:Int)) g=true) (pa:2≤g.op→P g.a) (pb:3≤g.op→P g.b) (harg:∀ x,P x→isW n gs x 2=true→x < n+(gs.length:Int)→P (argW n gs x)):
 (2≤(foldG n gs g).1.op→P (foldG n gs g).1.a)∧(3≤(foldG n gs g).1.op→P (foldG n gs g).1.b)∧(0≤(foldG n gs g).2→P (foldG n gs g).2):=by
 obtain ⟨ho,ha,hb,ha0,hb0⟩:=gateOk_parts hg
 have hc:∀ o:Int,o=0∨o=1→(2≤((⟨o,0,0⟩,-1):Gt × Int).1.op→P ((⟨o,0,0⟩,-1):Gt × Int).1.a)∧(3≤((⟨o,0,0⟩,-1):Gt × Int).1.op→P ((⟨o,0,0⟩,-1):Gt × Int).1.b)∧(0≤((⟨o,0,0⟩,-1):Gt × Int).2→P ((⟨o,0,0⟩,-1):Gt × Int).2):=fun o ho=>
  ⟨fun h => by have h : (2 : Int) ≤ o := h
               omega, fun h => by have h : (3 : Int) ≤ o := h
                                  omega, fun h => by have h : (0 : Int) ≤ -1 := h
                                                     omega⟩
 have hself:∀ z:Int,(0≤z→P z)→(2≤((g,z):Gt × Int).1.op→P ((g,z):Gt × Int).1.a)∧(3≤((g,z):Gt × Int).1.op→P ((g,z):Gt × Int).1.b)∧(0≤((g,z):Gt × Int).2→P ((g,z):Gt × Int).2):=fun z hz=>⟨pa,pb,hz⟩
 have hm:(0:Int)≤-1→P (-1):=fun h=>by omega
 have heither:∀ ab ne:Int,(ab=0∨ab=1)→3≤g.op→(2≤(eitherF n gs g ab ne).1.op→P (eitherF n gs g ab ne).1.a)∧(3≤(eitherF n gs g ab ne).1.op→P (eitherF n gs g ab ne).1.b)∧(0≤(eitherF n gs g ab ne).2→P (eitherF n gs g ab ne).2):=fun ab ne hab h3=>by
  unfold eitherF;split
  ·exact hc ab hab
  ·split
   ·exact hself _ (fun _=>pb h3)
   ·split
    ·exact hself _ (fun _=>pa (by omega))
    ·split
     ·exact hc ab hab
     ·exact hself _ hm
 unfold foldG;split
 ·rename_i h
  exact notF_P (pa (by omega)) (ha (by omega)).2 harg
 ·split
  ·exact heither 0 1 (.inl rfl) (by omega)
  ·split
   ·exact heither 1 0 (.inr rfl) (by omega)
   ·split
    ·unfold xorF;split
     ·exact hself _ (fun _=>pb (by omega))
     ·split
      ·exact hself _ (fun _=>pa (by omega))
      ·split
       ·exact hc 0 (.inl rfl)
       ·split
        ·exact hc 1 (.inr rfl)
        ·split
         ·exact notF_P (pb (by omega)) (hb (by omega)).2 harg
         ·split
          ·exact notF_P (pa (by omega)) (ha (by omega)).2 harg
          ·exact hself _ hm
    ·exact hself _ hm
def baseW (g:Gt):Nat:=if operandsO g.op=0 then 1 else if operandsO g.op=1 then 2 else 3
theorem baseW_le (g:Gt):baseW g≤gateWt g:=by
 unfold baseW gateWt;split
 ·omega
 ·split
  ·omega
  ·split <;> omega
theorem baseW_move (tq:List Int) (g:Gt):baseW (moveG tq g)=baseW g:=rfl
theorem swapG_wt {g:Gt}:gateWt (swapG g)=baseW g:=by
 unfold swapG;split
 ·rename_i h
  have e1:gateWt ⟨g.op,g.b,g.a⟩=3:=by unfold gateWt;dsimp only;rw [if_neg (by omega),if_neg (by omega),if_pos (by omega)]
  have e2:baseW g=3:=by unfold baseW;rw [if_neg (by omega),if_neg (by omega)]
  rw [e1,e2]
 ·rename_i h
  unfold gateWt baseW;split
  ·rfl
  ·split
   ·rfl
   ·have:=operandsO_bd g.op;rw [if_pos (by omega)]
theorem sorted_of_wt {g:Gt} (h:gateWt g=baseW g):swapG g=g:=by
 unfold swapG;split
 ·rename_i h2
  have e1:gateWt g=4:=by unfold gateWt;rw [if_neg (by omega),if_neg (by omega),if_neg (by omega)]
  have e2:baseW g=3:=by unfold baseW;rw [if_neg (by omega),if_neg (by omega)]
  omega
 ·rfl
theorem foldG_wt {n:Int} {gs:List Gt} {g:Gt} {lim:Int} (hg:gateOk lim g=true):baseW (foldG n gs g).1≤baseW g∧(baseW (foldG n gs g).1=baseW g→(foldG n gs g).1=g):=by
 obtain ⟨ho,ha,hb,ha0,hb0⟩:=gateOk_parts hg;have hop:=operandsO_of ho;have hw2:g.op=2→baseW g=2:=fun e=>by unfold baseW;rw [e];rfl
 have hw3:3≤g.op→baseW g=3:=fun e=>by
  unfold baseW;have e:operandsO g.op=2:=by rw [hop,if_neg (by omega),if_neg (by omega)]
  rw [e];rfl
 have hconst:∀ o:Int,o=0∨o=1→2≤g.op→baseW ((⟨o,0,0⟩,-1):Gt × Int).1≤baseW g∧(baseW ((⟨o,0,0⟩,-1):Gt × Int).1=baseW g→((⟨o,0,0⟩,-1):Gt × Int).1=g):=fun o ho2 h2=>by
  have e:baseW ((⟨o,0,0⟩,-1):Gt × Int).1=1:=by rcases ho2 with rfl | rfl <;> rfl
  rw [e];rcases (by omega:g.op=2∨3≤g.op) with h | h
  ·rw [hw2 h];exact ⟨by omega,fun q=>by omega⟩
  ·rw [hw3 h];exact ⟨by omega,fun q=>by omega⟩
 have hself:∀ z:Int,baseW ((g,z):Gt × Int).1≤baseW g∧(baseW ((g,z):Gt × Int).1=baseW g→((g,z):Gt × Int).1=g):=fun z=>⟨Nat.le_refl _,fun _=>rfl⟩
 have hnot:∀ a,baseW (notF n gs a).1≤2:=fun a=>by
  unfold notF;split
  ·exact (by decide:1≤2)
  ·split
   ·exact (by decide:1≤2)
   ·split
    ·exact Nat.le_refl 2
    ·exact Nat.le_refl 2
 unfold foldG;split
 ·rename_i h
  have h2:=h;unfold notF;split
  ·exact hconst 1 (.inr rfl) (by omega)
  ·split
   ·exact hconst 0 (.inl rfl) (by omega)
   ·have e:(⟨2,g.a,0⟩:Gt)=g:=gt_ext h.symm rfl (hb0 (by omega)).symm;split
    ·show baseW (⟨2,g.a,0⟩:Gt)≤_∧(_→(⟨2,g.a,0⟩:Gt)=g)
     rw [e];exact ⟨Nat.le_refl _,fun _=>rfl⟩
    ·show baseW (⟨2,g.a,0⟩:Gt)≤_∧(_→(⟨2,g.a,0⟩:Gt)=g)
     rw [e];exact ⟨Nat.le_refl _,fun _=>rfl⟩
 ·split
  ·unfold eitherF;split
   ·exact hconst 0 (.inl rfl) (by omega)
   ·split
    ·exact hself _
    ·split
     ·exact hself _
     ·split
      ·exact hconst 0 (.inl rfl) (by omega)
      ·exact hself _
  ·split
   ·unfold eitherF;split
    ·exact hconst 1 (.inr rfl) (by omega)
    ·split
     ·exact hself _
     ·split
      ·exact hself _
      ·split
       ·exact hconst 1 (.inr rfl) (by omega)
       ·exact hself _
   ·split
    ·have h3:=hw3 (by omega);unfold xorF;split
     ·exact hself _
     ·split
      ·exact hself _
      ·split
       ·exact hconst 0 (.inl rfl) (by omega)
       ·split
        ·exact hconst 1 (.inr rfl) (by omega)
        ·split
         ·have:=hnot g.b;exact ⟨by omega,fun q=>by omega⟩
         ·split
          ·have:=hnot g.a;exact ⟨by omega,fun q=>by omega⟩
          ·exact hself _
    ·exact hself _
theorem moveG_id {tq:List Int} {L:Nat} (h:∀ w,w < L→tq.getD w 0=(w:Int)) {lim:Int} {g:Gt} (hg:gateOk lim g=true) (hl:lim≤(L:Int)):moveG tq g=g:=by
 obtain ⟨ho,ha,hb,_,_⟩:=gateOk_parts hg;refine gt_ext rfl ?_ ?_
 ·rcases (by omega:g.op < 2∨2≤g.op) with h2 | h2
  ·exact moveG_a0 ho h2
  ·have:=ha h2;rw [moveG_a ho h2];show tq.getD _ 0=_;rw [h _ (by omega)];omega
 ·rcases (by omega:g.op < 3∨3≤g.op) with h3 | h3
  ·exact moveG_b0 ho h3
  ·have:=hb h3;rw [moveG_b ho h3];show tq.getD _ 0=_;rw [h _ (by omega)];omega
theorem outs_id {c:Circ} (hr:rightC c=true) {tq:List Int} (h:∀ w,w < c.inputs.toNat+c.gates.length→tq.getD w 0=(w:Int)):c.outs.map (toAt tq)=c.outs:=by
 obtain ⟨⟨h0,h1,_⟩,_,ho⟩:=rightC_parts hr
 have:c.outs.map (toAt tq)=c.outs.map id:=by
  apply List.map_congr_left
  intro o hm;obtain ⟨k,hk,rfl⟩:=List.getElem_of_mem hm;have hb:=outOk_at ho hk;have e:c.outs.getD k 0=c.outs[k]:=by rw [List.getD_eq_getElem?_getD,List.getElem?_eq_getElem hk];rfl
  rw [e] at hb;show tq.getD _ 0=c.outs[k];rw [h _ (by omega)];omega
 rw [this,List.map_id]
theorem gates_ext {l m:List Gt} (hl:l.length=m.length) (h:∀ i,i < l.length→l.getD i default=m.getD i default):l=m:=by
 apply List.ext_getElem hl
 intro i h1 h2;have:=h i h1
 rwa [List.getD_eq_getElem?_getD,List.getD_eq_getElem?_getD,List.getElem?_eq_getElem h1,List.getElem?_eq_getElem h2] at this
theorem sum_range_le (f g:Nat→Nat) (K:Nat) (h:∀ i,i < K→f i≤g i):((List.range K).map f).sum≤((List.range K).map g).sum∧(((List.range K).map f).sum=((List.range K).map g).sum→∀ i,i < K→f i=g i):=by
 induction K with
 | zero=>exact ⟨Nat.le_refl _,fun _ i hi=>by omega⟩
 | succ K ih=>
  obtain ⟨h1,h2⟩:=ih (fun i hi=>h i (by omega));have h3:=h K (by omega)
  have e:∀ f:Nat→Nat,((List.range (K+1)).map f).sum=((List.range K).map f).sum+f K:=fun f=>by
   rw [List.range_succ,List.map_append,List.sum_append];simp
  rw [e f,e g];refine ⟨by omega,fun q i hi=>?_⟩;rcases Nat.lt_or_ge i K with h4 | h4
  ·exact h2 (by omega) i h4
  ·obtain rfl:i=K:=by omega
   omega
theorem sum_filter_le (q:Nat→Bool) (f g:Nat→Nat) (K:Nat) (h:∀ i,i < K→q i=true→f i≤g i) (h1:∀ i,1≤g i):
 (((List.range K).filter q).map f).sum+(K - ((List.range K).filter q).length)≤((List.range K).map g).sum:=by
 induction K with
 | zero=>exact Nat.le_refl _
 | succ K ih=>
  have ih:=ih (fun i hi=>h i (by omega));have hl:((List.range K).filter q).length≤K:=Nat.le_trans (List.length_filter_le _ _) (by simp);rw [List.range_succ,List.filter_append,List.map_append,List.map_append,List.sum_append,List.sum_append,List.length_append];by_cases hq:q K=true
  ·have e:List.filter q [K]=[K]:=by simp [hq]
   have:=h K (by omega) hq;rw [e];simp only [List.map_cons,List.map_nil,List.sum_cons,List.sum_nil,List.length_cons,List.length_nil];omega
  ·have e:List.filter q [K]=[]:=by simp [hq]
   have:=h1 K;rw [e];simp only [List.map_cons,List.map_nil,List.sum_cons,List.sum_nil,List.length_nil];omega
theorem gates_map (c:Circ):c.gates=(List.range c.gates.length).map (gateAt c):=by
 apply gates_ext (by simp)
 intro i hi
 have e:((List.range c.gates.length).map (gateAt c)).getD i default=gateAt c i:=by
  rw [List.getD_eq_getElem?_getD,List.getElem?_map,List.getElem?_range hi];rfl
 rw [e];rfl
theorem meas_sum (c:Circ):measC c=((List.range c.gates.length).map (fun i=>gateWt (gateAt c i))).sum:=by
 unfold measC
 conv=>lhs;rw [gates_map c]
 rw [List.map_map];rfl
theorem gateWt_pos (g:Gt):1≤gateWt g:=by unfold gateWt;split <;> (try split) <;> (try split) <;> omega
theorem trim_mono {c:Circ} (h:rightC c=true) {x y:Int} (hx:0≤x) (hxy:x≤y) (hy:y < c.inputs+(c.gates.length:Int)) (nx:Ned c x) (ny:Ned c y):toAt (trimTo c c.gates.length).tq x≤toAt (trimTo c c.gates.length).tq y:=by
 obtain ⟨⟨h0,h1,_⟩,_⟩:=rightC_parts h
 have at_:∀ z,0≤z→z < c.inputs+(c.gates.length:Int)→Ned c z→(z < c.inputs∧toAt (trimTo c c.gates.length).tq z=z)∨∃ i:Nat,z=c.inputs+(i:Int)∧toAt (trimTo c c.gates.length).tq z=c.inputs+(rank c i:Int):=fun z hz hz2 nz=>by
  rcases (by omega:z < c.inputs∨c.inputs≤z) with h2 | h2
  ·refine .inl ⟨h2,?_⟩;show (trimTo c c.gates.length).tq.getD z.toNat 0=z;rw [trim_to_in c _ (by omega)];omega
  ·obtain ⟨i,hi⟩:∃ i:Nat,z=c.inputs+(i:Int):=⟨(z - c.inputs).toNat,by omega⟩
   refine .inr ⟨i,hi,?_⟩;show (trimTo c c.gates.length).tq.getD z.toNat 0=_;have e:z.toNat=c.inputs.toNat+i:=by omega
   rw [e,trim_to_gate c h0 (by omega),if_pos];show needAt _ _=true;rw [← hi];exact nz
 rcases at_ x hx (by omega) nx with ⟨a1,a2⟩ | ⟨i,a1,a2⟩
 ·rcases at_ y (by omega) hy ny with ⟨b1,b2⟩ | ⟨j,b1,b2⟩
  ·omega
  ·omega
 ·rcases at_ y (by omega) hy ny with ⟨b1,b2⟩ | ⟨j,b1,b2⟩
  ·omega
  ·have:=rank_mono c (show i≤j by omega);omega
theorem trim_meas {c:Circ} (h:rightC c=true):measC (trimC c)+(c.gates.length - rank c c.gates.length)≤measC c:=by
 obtain ⟨⟨h0,h1,_⟩,_⟩:=rightC_parts h;have hcl:=need_closed h
 have e:(trimC c).gates=((List.range c.gates.length).filter (ndg c)).map (fun i=>moveG (trimTo c c.gates.length).tq (gateAt c i)):=by
  rw [trimC,if_pos h];exact trim_gates h _ (Nat.le_refl _)
 rw [meas_sum c];unfold measC;rw [e,List.map_map];refine sum_filter_le (ndg c) _ _ _ (fun i hi hn=>?_) (fun i=>gateWt_pos _);show gateWt (moveG _ _)≤gateWt _;obtain ⟨ho,ha,hb,_,_⟩:=gateOk_parts (gateAt_ok h hi);have hop:=operandsO_of ho;unfold gateWt;rw [moveG_op];split
 ·exact Nat.le_refl _
 ·split
  ·exact Nat.le_refl _
  ·rename_i q1 q2
   have h3:3≤(gateAt c i).op:=by
    rw [hop] at q1 q2;split at q1
    ·omega
    ·rename_i r
     rw [if_neg r] at q2;split at q2 <;> omega
   rw [moveG_a ho (by omega),moveG_b ho h3];have x1:=ha (by omega);have y1:=hb h3;split
   ·split <;> omega
   ·rename_i hne
    split
    ·rename_i hle
     exact absurd (trim_mono h x1.1 hle (by omega) (hcl.fst i hi hn (by omega)) (hcl.snd i hi hn h3)) hne
    ·exact Nat.le_refl _
theorem rank_all {c:Circ} (k:Nat) (h:rank c k=k):∀ i,i < k→ndg c i=true:=by
 induction k with
 | zero=>intro i hi;omega
 | succ k ih=>
  intro i hi;have hle:=rank_le c k;rw [rank_succ] at h;split at h
  ·rename_i hn
   rcases Nat.lt_or_ge i k with h1 | h1
   ·exact ih (by omega) i h1
   ·obtain rfl:i=k:=by omega
    exact hn
  ·omega
theorem all_rank {c:Circ} (k:Nat) (h:∀ i,i < k→ndg c i=true):rank c k=k:=by
 induction k with
 | zero=>rfl
 | succ k ih=>rw [rank_succ,if_pos (h k (by omega)),ih (fun i hi=>h i (by omega))]
theorem trim_all {c:Circ} (h:rightC c=true) (hn:∀ i,i < c.gates.length→ndg c i=true):trimC c=c:=by
 obtain ⟨⟨h0,h1,_⟩,_⟩:=rightC_parts h
 have hid:∀ w,w < c.inputs.toNat+c.gates.length→(trimTo c c.gates.length).tq.getD w 0=(w:Int):=fun w hw=>by
  rcases Nat.lt_or_ge w c.inputs.toNat with h2 | h2
  ·exact trim_to_in c _ h2
  ·obtain ⟨i,rfl⟩:∃ i,w=c.inputs.toNat+i:=⟨w - c.inputs.toNat,by omega⟩
   rw [trim_to_gate c h0 (by omega),if_pos (hn i (by omega)),all_rank i (fun j hj=>hn j (by omega))];omega
 rw [trimC,if_pos h]
 have e1:(trimTo c c.gates.length).gates=c.gates:=by
  rw [trim_gates h _ (Nat.le_refl _)];have e:(List.range c.gates.length).filter (ndg c)=List.range c.gates.length:=List.filter_eq_self.2 (fun i hi=>hn i (List.mem_range.1 hi));rw [e]
  conv=>rhs;rw [gates_map c]
  apply List.map_congr_left
  intro i hi;exact moveG_id hid (gateAt_ok h (List.mem_range.1 hi)) (by have:=List.mem_range.1 hi;omega)
 show (⟨c.inputs,(trimTo c c.gates.length).gates,c.outs.map (toAt (trimTo c c.gates.length).tq)⟩:Circ)=c;rw [e1,outs_id h hid]
end Go.Proofs.YtbijfnbelkbofaaGreatDoor
namespace Go.Proofs.YtbijfnbelkbofaaGreatDoor
open Go.RowKit
theorem fold_idem {c:Circ} (h:rightC c=true) (k:Nat) (hk:k≤c.gates.length):Idem c.inputs (foldTo c k) k:=by
 obtain ⟨⟨h0,h1,_⟩,_⟩:=rightC_parts h;refine (foldChain c).idem h0 c.gates.length (fun i hi hI=>?_) k hk;have hs:=foldTo_ok h i (by omega);obtain ⟨l1,l2⟩:=foldTo_len c i;have hg:=gateAt_ok h hi;have hm:=moveG_ok hs hg (by omega) (fun _=>trivial) (fun _=>trivial);obtain ⟨ho,ha,hb,_,_⟩:=gateOk_parts hg;refine foldG_P hm (fun h2=>?_) (fun h3=>?_) (fun x hx hw hlt=>?_)
 ·have h2:2≤(gateAt c i).op:=h2;have:=ha h2;rw [moveG_a ho h2];exact hI.tq _ (by omega)
 ·have h3:3≤(gateAt c i).op:=h3;have:=hb h3;rw [moveG_b ho h3];exact hI.tq _ (by omega)
 ·obtain ⟨j,rfl,hj,hjo,hja⟩:=isW_gate hw hlt;rw [hja];exact hI.ga j (by omega) (by omega)
theorem swapG_P {P:Int→Prop} {g:Gt} (pa:2≤g.op→P g.a) (pb:3≤g.op→P g.b) (ho:g.op=0∨g.op=1∨g.op=2∨g.op=3∨g.op=4∨g.op=5):(2≤(swapG g).op→P (swapG g).a)∧(3≤(swapG g).op→P (swapG g).b):=by
 unfold swapG;split
 ·rename_i h
  have h2:=h.1;rw [operandsO_of ho] at h2;have h3:3≤g.op:=by split at h2 <;> (try split at h2) <;> omega
  exact ⟨fun _=>pb h3,fun _=>pa (by omega)⟩
 ·exact ⟨pa,pb⟩
theorem knownW_none {n:Int} {gs:List Gt} {g:Gt} (h:∀ i,i < gs.length→gs.getD i default≠g):knownW n gs g=-1:=by
 unfold knownW
 have:gs.findIdx? (fun x=>gtEq x g)=none:=by
  rw [List.findIdx?_eq_none_iff];intro x hx;obtain ⟨i,hi,rfl⟩:=List.getElem_of_mem hx;have h2:=h i hi;rw [List.getD_eq_getElem?_getD,List.getElem?_eq_getElem hi] at h2;rw [Bool.eq_false_iff];exact fun e=>h2 ((gtEq_iff _ _).1 e)
 rw [this]
theorem knownW_some {n:Int} {gs:List Gt} {g:Gt} (h0:0≤n) (h:0≤knownW n gs g):∃ j:Nat,knownW n gs g=n+(j:Int)∧j < gs.length∧gs.getD j default=g∧∀ i,i < j→gs.getD i default≠g:=by
 unfold knownW at h ⊢;split at h
 ·rename_i k hk
  obtain ⟨hlt,he,hbef⟩:=List.findIdx?_eq_some_iff_getElem.1 hk;refine ⟨k,rfl,hlt,?_,fun i hi e=>?_⟩
  ·rw [List.getD_eq_getElem?_getD,List.getElem?_eq_getElem hlt];exact (gtEq_iff _ _).1 he
  ·have:=hbef i hi;rw [List.getD_eq_getElem?_getD,List.getElem?_eq_getElem (by omega)] at e;exact absurd ((gtEq_iff _ _).2 e) (by simpa using this)
 ·omega
theorem share_g_at (c:Circ) {k i:Nat} (hi:i < k):(shareTo c k).gates.getD i default=swapG (moveG (shareTo c i).tq (gateAt c i)):=(shareChain c).g_at hi
theorem share_to_at (c:Circ) {k i:Nat} (hi:i < k):(shareTo c k).tq.getD (c.inputs.toNat+i) 0=if knownW c.inputs (shareTo c i).gates (swapG (moveG (shareTo c i).tq (gateAt c i))) < 0 then c.inputs+(i:Int) else knownW c.inputs (shareTo c i).gates (swapG (moveG (shareTo c i).tq (gateAt c i))):=(shareChain c).to_at hi
theorem share_idem {c:Circ} (h:rightC c=true) (k:Nat) (hk:k≤c.gates.length):Idem c.inputs (shareTo c k) k:=by
 obtain ⟨⟨h0,h1,_⟩,_⟩:=rightC_parts h;have hch:=shareChain c;refine hch.idem h0 c.gates.length (fun i hi hI=>?_) k hk;have hs:=shareTo_ok h i (by omega);obtain ⟨l1,l2⟩:=shareTo_len c i;have hg:=gateAt_ok h hi;have hm:=moveG_ok hs hg (by omega) (fun _=>trivial) (fun _=>trivial);obtain ⟨ho,ha,hb,_,_⟩:=gateOk_parts hg;have hop:=(gateOk_parts hm).1
 have hsw:=swapG_P (P:=Fx c.inputs (shareTo c i) i) (g:=moveG (shareTo c i).tq (gateAt c i)) (fun h2=>by
  have h2:2≤(gateAt c i).op:=h2;have:=ha h2
  rw [moveG_a ho h2];exact hI.tq _ (by omega)) (fun h3=>by
  have h3:3≤(gateAt c i).op:=h3;have:=hb h3
  rw [moveG_b ho h3];exact hI.tq _ (by omega)) hop
 refine ⟨hsw.1,hsw.2,fun hz=>?_⟩;show Fx c.inputs (shareTo c i) i (knownW c.inputs (shareTo c i).gates (swapG (moveG (shareTo c i).tq (gateAt c i))));obtain ⟨j,hj,hjl,hje,hjb⟩:=knownW_some h0 (show 0≤knownW c.inputs (shareTo c i).gates (swapG (moveG (shareTo c i).tq (gateAt c i))) from hz);rw [hj];clear hj hz hsw hI hs hm;have hji:j < i:=by omega
 refine ⟨by omega,by omega,?_⟩;have e:(c.inputs+(j:Int)).toNat=c.inputs.toNat+j:=by omega
 rw [e,share_to_at c hji,if_pos];have hgj:swapG (moveG (shareTo c j).tq (gateAt c j))=swapG (moveG (shareTo c i).tq (gateAt c i)):=(share_g_at c hji).symm.trans hje;rw [hgj,knownW_none]
 ·decide
 ·intro d hd;rw [(hch.len j).1] at hd;rw [← hch.g_keep (Nat.le_of_lt hji) hd];exact hjb d hd
theorem idem_closed {c:Circ} (h:rightC c=true) {s:Wk} (hs:Idem c.inputs s c.gates.length) (hl:s.gates.length=c.gates.length):Closed (doneW c s) (Fx c.inputs s c.gates.length):=by
 obtain ⟨⟨h0,h1,_⟩,_,ho⟩:=rightC_parts h;refine ⟨fun k hk=>?_,fun k hk _ h2=>hs.ga k (by rw [← hl];exact hk) h2,fun k hk _ h3=>hs.gb k (by rw [← hl];exact hk) h3⟩;have hk':k < c.outs.length:=by simpa [doneW] using hk
 have e:(doneW c s).outs.getD k 0=toAt s.tq (c.outs.getD k 0):=by
  simp [doneW,List.getD_eq_getElem?_getD,List.getElem?_map,List.getElem?_eq_getElem hk']
 have hb:=outOk_at ho hk';rw [e];exact hs.tq _ (by omega)
structure FixC (c:Circ):Prop where
 fold_eq:foldC c=c
 share_eq:shareC c=c
 trim_eq:trimC c=c
 need:∀ i,i < c.gates.length→ndg c i=true
 fold:∀ i,i < c.gates.length→foldG c.inputs (c.gates.take i) (gateAt c i)=(gateAt c i,-1)
 known:∀ i,i < c.gates.length→∀ j,j < i→gateAt c j≠gateAt c i
theorem all_id {c:Circ} (h:rightC c=true) {s:Wk} (hr:rightC (doneW c s)=true) (hs:Idem c.inputs s c.gates.length) (hl:s.gates.length=c.gates.length) (hin:∀ w,w < c.inputs.toNat→s.tq.getD w 0=(w:Int)) (hn:∀ i,i < c.gates.length→ndg (doneW c s) i=true):
 ∀ w,w < c.inputs.toNat+c.gates.length→s.tq.getD w 0=(w:Int):=fun w hw=>by
 obtain ⟨⟨h0,h1,_⟩,_,ho⟩:=rightC_parts h;rcases Nat.lt_or_ge w c.inputs.toNat with h2 | h2
 ·exact hin w h2
 ·obtain ⟨i,rfl⟩:∃ i,w=c.inputs.toNat+i:=⟨w - c.inputs.toNat,by omega⟩
  have e:(c.inputs+(i:Int)).toNat=c.inputs.toNat+i:=by omega
  have hni:(needC (doneW c s)).getD (c.inputs.toNat+i) false=true:=by
   have:=hn i (by omega);unfold ndg needAt at this;rw [show ((doneW c s).inputs+(i:Int)).toNat=c.inputs.toNat+i from e] at this;exact this
  have:=need_min hr (idem_closed h hs hl) _ hni;have e2:=this.2.2;rw [Int.toNat_natCast] at e2;exact e2
theorem gates_take {c:Circ} {s:Wk} {k:Nat} (hk:k≤c.gates.length) (hl:s.gates.length=k) (h:∀ i,i < k→s.gates.getD i default=gateAt c i):s.gates=c.gates.take k:=by
 apply gates_ext (by rw [hl,List.length_take];omega)
 intro i hi;rw [h i (by omega),List.getD_eq_getElem?_getD,List.getElem?_take,if_pos (by omega),← List.getD_eq_getElem?_getD];rfl
theorem foldC_eq {c:Circ} (h:rightC c=true):foldC c=doneW c (foldTo c c.gates.length):=by rw [foldC,if_pos h]
theorem shareC_eq {c:Circ} (h:rightC c=true):shareC c=doneW c (shareTo c c.gates.length):=by rw [shareC,if_pos h]
theorem trimC_eq {c:Circ} (h:rightC c=true):trimC c=doneW c (trimTo c c.gates.length):=by rw [trimC,if_pos h]
theorem foldC_gl {c:Circ} (h:rightC c=true):(foldC c).gates.length=c.gates.length:=by rw [foldC_eq h];exact (foldTo_len c _).1
theorem shareC_gl {c:Circ} (h:rightC c=true):(shareC c).gates.length=c.gates.length:=by rw [shareC_eq h];exact (shareTo_len c _).1
theorem trimC_gl {c:Circ} (h:rightC c=true):(trimC c).gates.length=rank c c.gates.length:=by rw [trimC_eq h];exact trim_gl c _
theorem fold_gate {c:Circ} (h:rightC c=true) {i:Nat} (hi:i < c.gates.length):gateAt (foldC c) i=(foldG c.inputs (foldTo c i).gates (moveG (foldTo c i).tq (gateAt c i))).1:=by
 rw [foldC_eq h];exact (foldChain c).g_at hi
theorem share_gate {c:Circ} (h:rightC c=true) {i:Nat} (hi:i < c.gates.length):gateAt (shareC c) i=swapG (moveG (shareTo c i).tq (gateAt c i)):=by
 rw [shareC_eq h];exact (shareChain c).g_at hi
theorem circ_ext {c d:Circ} (p:c.inputs=d.inputs) (q:c.gates=d.gates) (r:c.outs=d.outs):c=d:=by
 cases c;cases d;cases p;cases q;cases r;rfl
theorem fix_or_less {c:Circ} (h:rightC c=true):FixC c∨measC (oneC c) < measC c:=by
 obtain ⟨⟨h0,h1,_⟩,_,ho⟩:=rightC_parts h;have hF:=fold_right h;have hS:=share_right hF;have lF:=foldC_gl h;have lS:(shareC (foldC c)).gates.length=c.gates.length:=(shareC_gl hF).trans lF;have inF:(foldC c).inputs=c.inputs:=by rw [foldC_eq h];rfl
 have inS:(shareC (foldC c)).inputs=c.inputs:=by rw [shareC_eq hF];exact inF
 have hm1:=trim_meas hS;rw [lS] at hm1
 -- the weights
 have hwF:∀ i,i < c.gates.length→baseW (gateAt (foldC c) i)≤baseW (gateAt c i)∧(baseW (gateAt (foldC c) i)=baseW (gateAt c i)→gateAt (foldC c) i=moveG (foldTo c i).tq (gateAt c i)):=fun i hi=>by
  rw [fold_gate h hi];have hs:=foldTo_ok h i (by omega);obtain ⟨l1,l2⟩:=foldTo_len c i;exact foldG_wt (moveG_ok hs (gateAt_ok h hi) (by omega) (fun _=>trivial) (fun _=>trivial))
 have hwS:∀ i,i < c.gates.length→gateWt (gateAt (shareC (foldC c)) i)=baseW (gateAt (foldC c) i):=fun i hi=>by
  rw [share_gate hF (by omega),swapG_wt,baseW_move]
 have hle:∀ i,i < c.gates.length→gateWt (gateAt (shareC (foldC c)) i)≤gateWt (gateAt c i):=fun i hi=>by
  rw [hwS i hi];exact Nat.le_trans (hwF i hi).1 (baseW_le _)
 obtain ⟨s1,s2⟩:=sum_range_le (fun i=>gateWt (gateAt (shareC (foldC c)) i)) (fun i=>gateWt (gateAt c i)) c.gates.length hle;have mS:=meas_sum (shareC (foldC c));rw [lS] at mS;have mC:=meas_sum c;rw [← mS,← mC] at s1 s2;by_cases hlt:measC (oneC c) < measC c
 ·exact .inr hlt
 refine .inl ?_;have hlt:¬ measC (trimC (shareC (foldC c))) < measC c:=hlt;have hr:=rank_le (shareC (foldC c)) c.gates.length;have hrk:rank (shareC (foldC c)) c.gates.length=c.gates.length:=by omega
 have hnS:=rank_all _ hrk;have hwt:=s2 (by omega)
 -- sharing changes no wire
 have hSd:=shareC_eq hF
 have hidS:∀ w,w < c.inputs.toNat+c.gates.length→(shareTo (foldC c) c.gates.length).tq.getD w 0=(w:Int):=by
  have hI:=share_idem hF _ (Nat.le_refl _);have hc:=all_id hF (by rw [← hSd];exact hS) hI (shareTo_len _ _).1 (fun w hw=>(shareChain _).to_in _ hw) (fun i hi=>by rw [← hSd];exact hnS i (by omega));rw [lF,inF] at hc;exact hc
 have hgS:∀ i,i < c.gates.length→gateAt (shareC (foldC c)) i=swapG (gateAt (foldC c) i):=fun i hi=>by
  rw [share_gate hF (by omega)];congr 1;exact moveG_id (L:=c.inputs.toNat+i) (fun w hw=>by rw [← (shareChain (foldC c)).to_keep (Nat.le_of_lt hi) (by rw [inF];exact hw)];exact hidS w (by omega)) (gateAt_ok hF (show i < (foldC c).gates.length by omega)) (by rw [inF];omega)
 have hoS:(shareC (foldC c)).outs=(foldC c).outs:=by
  rw [hSd];exact outs_id hF (fun w hw=>by rw [lF];exact hidS w (by rw [inF,lF] at hw;exact hw))
 -- all gates of the folded circuit are needed
 have hnF:∀ i,i < c.gates.length→ndg (foldC c) i=true:=fun i hi=>by
  have hclF:=need_closed hF
  have hcl:Closed (shareC (foldC c)) (Ned (foldC c)):=by
   refine ⟨fun k hk=>?_,fun k hk hP h2=>?_,fun k hk hP h3=>?_⟩
   ·rw [hoS] at hk ⊢;exact hclF.outs k hk
   ·rw [lS] at hk;rw [inS,← inF] at hP;rw [hgS k hk] at h2 ⊢;exact (swapG_P (P:=Ned (foldC c)) (hclF.fst k (by omega) hP) (hclF.snd k (by omega) hP) (gateOk_parts (gateAt_ok hF (show k < (foldC c).gates.length by omega))).1).1 h2
   ·rw [lS] at hk;rw [inS,← inF] at hP;rw [hgS k hk] at h3 ⊢;exact (swapG_P (P:=Ned (foldC c)) (hclF.fst k (by omega) hP) (hclF.snd k (by omega) hP) (gateOk_parts (gateAt_ok hF (show k < (foldC c).gates.length by omega))).1).2 h3
  have hni:=hnS i hi;unfold ndg needAt at hni;have:=need_min hS hcl _ hni;rw [Int.toNat_of_nonneg (by rw [inS];omega),inS] at this;unfold ndg;rw [inF];exact this
 have hFd:=foldC_eq h
 have hidF:∀ w,w < c.inputs.toNat+c.gates.length→(foldTo c c.gates.length).tq.getD w 0=(w:Int):=
  all_id h (by rw [← hFd];exact hF) (fold_idem h _ (Nat.le_refl _)) (foldTo_len c _).1 (fun w hw=>(foldChain c).to_in _ hw) (fun i hi=>by rw [← hFd];exact hnF i hi)
 have hmv:∀ i,i < c.gates.length→moveG (foldTo c i).tq (gateAt c i)=gateAt c i:=fun i hi=>
  moveG_id (L:=c.inputs.toNat+i) (fun w hw=>by rw [← (foldChain c).to_keep (Nat.le_of_lt hi) hw];exact hidF w (by omega)) (gateAt_ok h hi) (by omega)
 have hbase:∀ i,i < c.gates.length→baseW (gateAt (foldC c) i)=baseW (gateAt c i)∧gateWt (gateAt c i)=baseW (gateAt c i):=fun i hi=>by
  have a1:=hwt i hi;have a1:gateWt (gateAt (shareC (foldC c)) i)=gateWt (gateAt c i):=a1;have a2:=hwS i hi;have a3:=(hwF i hi).1;have a4:=baseW_le (gateAt c i);omega
 have hgF:∀ i,i < c.gates.length→gateAt (foldC c) i=gateAt c i:=fun i hi=>((hwF i hi).2 (hbase i hi).1).trans (hmv i hi)
 have eF:foldC c=c:=by
  refine circ_ext inF (gates_ext lF (fun i hi=>hgF i (by omega))) ?_;rw [hFd];exact outs_id h hidF
 have hsw:∀ i,i < c.gates.length→swapG (gateAt c i)=gateAt c i:=fun i hi=>sorted_of_wt (hbase i hi).2
 rw [eF] at hgS hoS lS inS hidS;have eS:shareC c=c:=circ_ext inS (gates_ext lS (fun i hi=>(hgS i (by omega)).trans (hsw i (by omega)))) hoS;have hnC:∀ i,i < c.gates.length→ndg c i=true:=fun i hi=>by have:=hnF i hi;rwa [eF] at this
 have htk:∀ i,i≤c.gates.length→(foldTo c i).gates=c.gates.take i:=fun i hi=>gates_take hi (foldTo_len c i).1 (fun j hj=>by
  rw [← (foldChain c).g_keep hi hj];have:=hgF j (by omega);rw [hFd] at this
  exact this)
 have htkS:∀ i,i≤c.gates.length→(shareTo c i).gates=c.gates.take i:=fun i hi=>gates_take hi (shareTo_len c i).1 (fun j hj=>by
  rw [← (shareChain c).g_keep hi hj];have:=(hgS j (by omega)).trans (hsw j (by omega));rw [shareC_eq h] at this
  exact this)
 refine ⟨eF,eS,trim_all h hnC,hnC,fun i hi=>?_,fun i hi j hj e=>?_⟩
 ·have hto:=hidF (c.inputs.toNat+i) (by omega);rw [(foldChain c).to_at hi] at hto;have hs:=foldTo_ok h i (by omega);obtain ⟨l1,l2⟩:=foldTo_len c i;obtain ⟨f1,f2,f3⟩:=foldG_ok hs.gok h0 (moveG_ok hs (gateAt_ok h hi) (by omega) (fun _=>trivial) (fun _=>trivial));have g1:=fold_gate h hi;rw [hgF i hi] at g1;rw [hmv i hi,htk i (by omega)] at g1 f2 f3 hto;rw [List.length_take] at f3
  have e2:(foldG c.inputs (c.gates.take i) (gateAt c i)).2=-1:=by
   split at hto
   ·omega
   ·omega
  exact Prod.ext g1.symm e2
 ·have hto:=hidS (c.inputs.toNat+i) (by omega);rw [(shareChain c).to_at hi] at hto
  have hmS:moveG (shareTo c i).tq (gateAt c i)=gateAt c i:=
   moveG_id (L:=c.inputs.toNat+i) (fun w hw=>by rw [← (shareChain c).to_keep (Nat.le_of_lt hi) hw];exact hidS w (by omega)) (gateAt_ok h hi) (by omega)
  have hk:(shareG c.inputs (shareTo c i) (gateAt c i)).2=knownW c.inputs (c.gates.take i) (gateAt c i):=by
   show knownW c.inputs (shareTo c i).gates (swapG (moveG (shareTo c i).tq (gateAt c i)))=_;rw [hmS,hsw i hi,htkS i (by omega)]
  rw [hk] at hto;have hbd:=knownW_bd c.inputs (c.gates.take i) (gateAt c i) h0;rw [List.length_take] at hbd
  have hneg:knownW c.inputs (c.gates.take i) (gateAt c i)=-1:=by
   split at hto
   ·omega
   ·omega
  unfold knownW at hneg;split at hneg
  ·omega
  ·rename_i hnone
   have hj2:j < (c.gates.take i).length:=by rw [List.length_take];omega
   have hmem:gateAt c j ∈ c.gates.take i:=by
    have:gateAt c j=(c.gates.take i)[j]:=by
     rw [List.getElem_take];unfold gateAt;rw [List.getD_eq_getElem?_getD,List.getElem?_eq_getElem (by omega)];rfl
    rw [this];exact List.getElem_mem hj2
   have:=List.findIdx?_eq_none_iff.1 hnone _ hmem;rw [(gtEq_iff _ _).2 e] at this
   cases this
theorem FixC.one {c:Circ} (h:FixC c):oneC c=c:=by unfold oneC;rw [h.fold_eq,h.share_eq,h.trim_eq]
theorem sameC_iff (c d:Circ):sameC c d=true ↔ c=d:=by
 constructor
 ·intro h;simp only [sameC,Bool.and_eq_true,beq_iff_eq,decide_eq_true_eq] at h;exact circ_ext h.1 h.2.1 h.2.2
 ·rintro rfl;simp [sameC]
theorem FixC.of_same {c:Circ} (h:rightC c=true) (hs:sameC (oneC c) c=true):FixC c:=by
 rcases fix_or_less h with h1 | h1
 ·exact h1
 ·rw [(sameC_iff _ _).1 hs] at h1;omega
theorem one_right {c:Circ} (h:rightC c=true):rightC (oneC c)=true:=trim_right (share_right (fold_right h))
theorem iter_stop {m:Nat} {c:Circ} (hs:sameC (oneC c) c=true):iterC m c=c:=by
 cases m with
 | zero=>rfl
 | succ m=>rw [iterC,if_pos hs]
theorem iter_go {m:Nat} {c:Circ} (h:rightC c=true) (hm:measC c≤m) (hs:sameC (oneC c) c=false):∃ m',m=m'+1∧measC (oneC c)≤m'∧iterC m c=iterC m' (oneC c):=by
 have hlt:measC (oneC c) < measC c:=by
  rcases fix_or_less h with h1 | h1
  ·rw [h1.one,(sameC_iff _ _).2 rfl] at hs;cases hs
  ·exact h1
 obtain ⟨m',rfl⟩:∃ m',m=m'+1:=⟨m - 1,by omega⟩
 exact ⟨m',rfl,by omega,by rw [iterC,if_neg (by rw [hs];decide)]⟩
theorem iter_ind {P:Circ→Prop} (hP:∀ c,rightC c=true→P c→P (oneC c)) (m:Nat) {c:Circ} (h:rightC c=true) (hm:measC c≤m) (hc:P c):rightC (iterC m c)=true∧FixC (iterC m c)∧P (iterC m c):=by
 induction m generalizing c with
 | zero=>
  rcases fix_or_less h with h1 | h1
  ·exact ⟨h,h1,hc⟩
  ·omega
 | succ m ih=>
  cases hs:sameC (oneC c) c with
  | true=>rw [iter_stop hs];exact ⟨h,FixC.of_same h hs,hc⟩
  | false=>
   obtain ⟨m',e,h2,h3⟩:=iter_go h hm hs;obtain rfl:m=m':=by omega
   rw [h3];exact ih (one_right h) h2 (hP c h hc)
theorem all_ind {P:Circ→Prop} {c:Circ} (h:rightC c=true) (hP:∀ c,rightC c=true→P c→P (oneC c)) (hc:P c):rightC (allC c)=true∧FixC (allC c)∧P (allC c):=by
 rw [allC,if_pos h];exact iter_ind hP _ h (Nat.le_refl _) hc
theorem one_io {c:Circ} (h:rightC c=true):(oneC c).inputs=c.inputs∧(oneC c).outs.length=c.outs.length:=by
 have hF:=fold_right h;have hS:=share_right hF;unfold oneC;rw [trimC_eq hS,shareC_eq hF,foldC_eq h]
 simp [doneW]
theorem one_sem {c:Circ} (h:rightC c=true) {vs:List Bool} (hv:(vs.length:Int)=c.inputs):outsG evalB false (oneC c) vs=outsG evalB false c vs:=by
 have hF:=fold_right h;have hS:=share_right hF;have inF:(foldC c).inputs=c.inputs:=by rw [foldC_eq h];rfl
 have inS:(shareC (foldC c)).inputs=c.inputs:=by rw [shareC_eq hF];exact inF
 unfold oneC;rw [trim_sem hS (by rw [inS];exact hv),share_sem hF (by rw [inF];exact hv),fold_sem h hv]
theorem all_io {c:Circ} (h:rightC c=true):(allC c).inputs=c.inputs∧(allC c).outs.length=c.outs.length:=
 (all_ind (P:=fun d=>d.inputs=c.inputs∧d.outs.length=c.outs.length) h (fun d hd hP=>by rw [(one_io hd).1,(one_io hd).2];exact hP) ⟨rfl,rfl⟩).2.2
theorem all_right {c:Circ} (h:rightC c=true):rightC (allC c)=true:=(all_ind (P:=fun _=>True) h (fun _ _ _=>trivial) trivial).1
theorem all_sem {c:Circ} (h:rightC c=true) {vs:List Bool} (hv:(vs.length:Int)=c.inputs):outsG evalB false (allC c) vs=outsG evalB false c vs:=
 (all_ind (P:=fun d=>d.inputs=c.inputs∧outsG evalB false d vs=outsG evalB false c vs) h (fun d hd hP=>⟨by rw [(one_io hd).1];exact hP.1,by rw [one_sem hd (by rw [hP.1];exact hv)];exact hP.2⟩) ⟨rfl,rfl⟩).2.2.2
theorem FixC.all {c:Circ} (h:rightC c=true) (hf:FixC c):allC c=c:=by
 rw [allC,if_pos h];exact iter_stop ((sameC_iff _ _).2 hf.one)
end Go.Proofs.YtbijfnbelkbofaaGreatDoor
