/-
  Lemmas for the law TopCircuits.
-/
import Derived.Test.YtbijfnbelkbofaaGreatDoorJZ8
import Derived.Test.YtbijfnbelkbofaaGreatDoorJZ39
import Derived.Test.YtbijfnbelkbofaaGreatDoorJZ2
import Derived.BigRegion
import Derived.Test.YtbijfnbelkbofaaGreatDoorJZ28
set_option linter.unusedSimpArgs false
set_option linter.unusedVariables false
namespace Go.Proofs.YtbijfnbelkbofaaGreatDoor
open Go.RowKit
def stF (vs:List Bool) (b i:Nat):Int:=valB ((vs.drop (i * b)).take b)
def stsF (vs:List Bool) (b n:Nat):List Int:=(List.range n).map (stF vs b)
theorem stsF_length (vs:List Bool) (b n:Nat):(stsF vs b n).length=n:=by simp [stsF]
theorem stsF_drop (vs:List Bool) (b n i:Nat) (h:i < n):(stsF vs b n).drop i=stF vs b i :: (stsF vs b n).drop (i+1):=by
 rw [List.drop_eq_getElem_cons (by rw [stsF_length];exact h)]
 simp [stsF]
theorem bitsOf_get (b:Nat) (v:Int) (k:Nat) (h:k < b):(bitsOf b v).getD k false=bitI v k:=by
 simp [bitsOf,List.getD_eq_getElem?_getD,List.getElem?_map,List.getElem?_range h]
theorem part_length {vs:List Bool} {n b i:Nat} (hv:vs.length=n * b) (hi:i < n):((vs.drop (i * b)).take b).length=b:=by
 have:(i+1) * b≤n * b:=Nat.mul_le_mul_right b hi;rw [Nat.add_mul] at this
 simp;omega
theorem part_get {vs:List Bool} {b i k:Nat} (hk:k < b):((vs.drop (i * b)).take b).getD k false=vs.getD (i * b+k) false:=by
 simp [List.getD_eq_getElem?_getD,List.getElem?_take,hk]
theorem bl_ext {xs ys:List Bool} (hl:xs.length=ys.length) (h:∀ k,k < xs.length→xs.getD k false=ys.getD k false):xs=ys:=by
 apply List.ext_getElem hl
 intro k h1 h2;have:=h k h1
 simpa [List.getD_eq_getElem?_getD,List.getElem?_eq_getElem h1,List.getElem?_eq_getElem h2] using this
theorem atS_eq {vs:List Bool} {n b i s:Nat} (hv:vs.length=n * b) (hi:i < n) (hs:(s:Int) < 2 ^ b):atS vs b i s=(stF vs b i == (s:Int)):=by
 rw [Bool.eq_iff_iff];simp only [atS,List.all_eq_true,List.mem_range,beq_iff_eq]
 constructor
 ·intro h
  have e:(vs.drop (i * b)).take b=bitsOf b s:=bl_ext (by rw [part_length hv hi,bitsOf_length]) (fun k hk=>by
   rw [part_length hv hi] at hk
   rw [part_get hk,bitsOf_get b s k hk,h k hk])
  unfold stF;rw [e,valB_bits b s (by omega) hs]
 ·intro h k hk
  have e:bitsOf b s=(vs.drop (i * b)).take b:=by
   apply valB_inj
   ·rw [part_length hv hi,bitsOf_length]
   ·rw [valB_bits b s (by omega) hs];exact h.symm
  rw [← part_get hk,← e,bitsOf_get b s k hk]
theorem stF_bd (vs:List Bool) (b i:Nat):0≤stF vs b i:=(valB_bd _).1
theorem any_pick (S:Nat) (st:Int) (h0:0≤st) (f:Nat→Bool):(List.range S).any (fun s=>(st == (s:Int)) && f s)=(decide (st < (S:Int)) && f st.toNat):=by
 rw [Bool.eq_iff_iff];simp only [List.any_eq_true,List.mem_range,Bool.and_eq_true,beq_iff_eq,decide_eq_true_eq]
 constructor
 ·rintro ⟨s,hs,rfl,hf⟩;exact ⟨by omega,by simpa using hf⟩
 ·rintro ⟨h1,h2⟩;exact ⟨st.toNat,by omega,by omega,h2⟩
def okSts (S:Int) (l:List Int):Bool:=l.all (fun s=>decide (s < S))
def tailOf (t:Tre) (vs:List Bool) (lev:Int):List Int:=(stsF vs (bitsF t.states) t.hood.length).drop ((t.hood.length:Int) - lev).toNat
def valN (t:Tre) (vs:List Bool) (i k:Nat):Bool:=okSts t.states (tailOf t vs (t.nodes.getD i default).level) && bitI (walkT t i (tailOf t vs (t.nodes.getD i default).level)) k
def nextR (t:Tre) (vs:List Bool) (x:Nd) (k s:Nat):Bool:=if upN x=true then valN t vs (x.next.getD s 0).toNat k else bitI (x.next.getD s 0) k
theorem any_congr_range (S:Nat) (f g:Nat→Bool) (h:∀ s,s < S→f s=g s):(List.range S).any f=(List.range S).any g:=by
 rw [Bool.eq_iff_iff,List.any_eq_true,List.any_eq_true];refine exists_congr fun s=>and_congr_right fun hs=>?_
 rw [h s (List.mem_range.1 hs)]
theorem node_step {t:Tre} (hr:rightT t=true) {vs:List Bool} (hv:vs.length=lowN t) (i k:Nat) (hi:i < t.nodes.length):
 (List.range t.states.toNat).any (fun s=>atS vs (bitsF t.states) ((t.hood.length:Int) - (t.nodes.getD i default).level).toNat s && nextR t vs (t.nodes.getD i default) k s)=valN t vs i k:=by
 obtain ⟨_,⟨hs,_⟩,hn⟩:=rightT_parts hr;obtain ⟨⟨l1,l2,l3⟩,hlink⟩:=nodeOk_parts (hn i hi);have hw:∀ s:Int,walkT t i [s]=(t.nodes.getD i default).next.getD s.toNat 0:=fun s=>by simp [walkT,stepT]
 have hw2:∀ (s:Int) (l:List Int),walkT t i (s :: l)=walkT t ((t.nodes.getD i default).next.getD s.toNat 0) l:=fun s l=>by simp [walkT,stepT]
 unfold valN tailOf;generalize hx:t.nodes.getD i default=x at l1 l2 l3 hlink hw hw2 ⊢;have hp:((t.hood.length:Int) - x.level).toNat < t.hood.length:=by omega
 generalize hpos:((t.hood.length:Int) - x.level).toNat=pos at hp ⊢;rw [stsF_drop _ _ _ _ hp];have h0:=stF_bd vs (bitsF t.states) pos;have hpw:=bitsF_pow hs;rw [any_congr_range t.states.toNat _ (fun s=>(stF vs (bitsF t.states) pos == (s:Int)) && nextR t vs x k s) (fun s hs'=>by rw [atS_eq hv hp (by omega)]),any_pick _ _ h0,hw2];simp only [okSts,List.all_cons];rw [Int.toNat_of_nonneg (by omega)];generalize hst:stF vs (bitsF t.states) pos=st at h0
 cases hd:decide (st < t.states)
 ·simp
 ·rw [decide_eq_true_eq] at hd;simp only [Bool.true_and];have hlk:=hlink st.toNat (by omega);simp only [linkOk,decide_eq_true_eq] at hlk;obtain ⟨k1,k2,k3⟩:=hlk;unfold nextR;by_cases hup:1 < x.level
  ·rw [if_pos (by simpa [upN] using hup)];obtain ⟨k4,k5⟩:=k3 hup;unfold valN tailOf;rw [k5,show ((t.hood.length:Int) - (x.level - 1)).toNat=pos+1 by omega,Int.toNat_of_nonneg k1];rfl
  ·rw [if_neg (by simpa [upN] using hup)];have:pos+1=t.hood.length:=by omega
   rw [this,List.drop_of_length_le (by rw [stsF_length];exact Nat.le_refl _)]
   simp [walkT]
theorem nodeS_good {t:Tre} (hr:rightT t=true) {vs:List Bool} (hv:vs.length=lowN t) {gs0 g0 g:List Gt} {acc:List (List Int)} {tests:List (List Int)} {i:Nat} (hi:i < t.nodes.length)
 (ht:Rows2 (lowN t) vs gs0 g0 tests t.hood.length t.states.toNat (atS vs (bitsF t.states))) (h:Rows2 (lowN t) vs g0 g acc i (bitsF t.states) (valN t vs)):
 Rows1 (lowN t) vs g (nodeS t (lowN t) (bitsF t.states) t.states.toNat tests g acc i).1 (nodeS t (lowN t) (bitsF t.states) t.states.toNat tests g acc i).2 (bitsF t.states) (valN t vs i):=by
 obtain ⟨_,⟨hs,_⟩,hn⟩:=rightT_parts hr;obtain ⟨⟨l1,l2,l3⟩,hlink⟩:=nodeOk_parts (hn i hi);refine scan_ind _ g (fun g' row k=>Rows1 (lowN t) vs g g' row k (valN t vs i)) ⟨Ext.refl _,h.ok,fun s hs=>absurd hs (by omega)⟩ (bitsF t.states) (fun k g' row hk hl hh=>hh.next hv hl ?_);rw [← node_step hr hv i k hi];refine res_good hv _ _ _ _ g' k _ _ _ hh.ok (fun s hs'=>?_) (fun s hs' hup=>?_) (fun s hs' hup=>?_)
 ·obtain ⟨t1,t2⟩:=ht.at_ ((t.hood.length:Int) - (t.nodes.getD i default).level).toNat (by omega) s hs';exact ⟨t1.ext (h.ext.trans hh.ext),(V_ext hv (h.ext.trans hh.ext) t1).trans t2⟩
 ·have hlk:=hlink s (by omega);simp only [linkOk,decide_eq_true_eq] at hlk;have hlt:=(hlk.2.2 (by simpa [upN] using hup)).1;obtain ⟨t1,t2⟩:=h.at_ ((t.nodes.getD i default).next.getD s 0).toNat (by omega) k hk;refine ⟨t1.ext hh.ext,(V_ext hv hh.ext t1).trans ?_⟩;rw [t2,nextR,if_pos hup]
 ·rw [nextR,if_neg (by rw [hup];simp)]
theorem lowT_good {t:Tre} (hr:rightT t=true) {vs:List Bool} (hv:vs.length=lowN t):Rows2 (lowN t) vs (notsG (lowN t)) (lowT t).1 (lowT t).2 t.hood.length t.states.toNat (atS vs (bitsF t.states)):=by
 obtain ⟨_,⟨hs,_⟩,hn⟩:=rightT_parts hr;exact testRows_good hv rfl (bitsF_pos hs) (Ext.refl _) (nots_ok _)
theorem lowM_good {t:Tre} (hr:rightT t=true) {vs:List Bool} (hv:vs.length=lowN t) (m:Nat) (hm:m≤t.nodes.length):Rows2 (lowN t) vs (lowT t).1 (lowM t m).1 (lowM t m).2 m (bitsF t.states) (valN t vs):=
 scan_ind (fun g res i=>nodeS t (lowN t) (bitsF t.states) t.states.toNat (lowT t).2 g res i) (lowT t).1 (fun g acc k=>Rows2 (lowN t) vs (lowT t).1 g acc k (bitsF t.states) (valN t vs)) ⟨Ext.refl _,(lowT_good hr hv).ok,fun s hs=>absurd hs (by omega)⟩ m
  (fun k g acc hk hl h=>h.next hv hl (nodeS_good hr hv (by omega) (lowT_good hr hv) h))
theorem scan_bd {α:Type} (f:List Gt→List α→Nat→List Gt × α) (gs:List Gt) (K c:Nat) (h:∀ k g acc,k < K→acc.length=k→(f g acc k).1.length≤g.length+c):(scan f gs K).1.length≤gs.length+c * K:=
 scan_ind f gs (fun g _ k=>g.length≤gs.length+c * k) (by simp) K (fun k g acc hk hl hh=>by
  have:=h k g acc hk hl
  rw [Nat.mul_add];omega)
theorem scan_all {α:Type} (f:List Gt→List α→Nat→List Gt × α) (gs:List Gt) (K:Nat) (Q:α→Prop) (h:∀ k g acc,k < K→Q (f g acc k).2):∀ x ∈ (scan f gs K).2,Q x:=
 scan_ind f gs (fun _ acc _=>∀ x ∈ acc,Q x) (by simp) K (fun k g acc hk hl hh x hx=>by
  simp only [List.mem_append,List.mem_singleton] at hx;rcases hx with hx | rfl
  ·exact hh x hx
  ·exact h k g acc hk)
theorem lowT_len {t:Tre} (hr:rightT t=true):(lowT t).1.length≤475∧lowN t≤75:=by
 obtain ⟨hh,⟨hs,_⟩,hn⟩:=rightT_parts hr
 have h25:t.hood.length≤25:=by
  simp only [hoodOk,Bool.and_eq_true,decide_eq_true_eq] at hh;omega
 have hb:=bitsF_bd t.states
 have hN:lowN t≤75:=by
  have:=Nat.mul_le_mul h25 hb;unfold lowN;omega
 refine ⟨?_,hN⟩
 have h1:=scan_bd (fun g _ i=>testRow (lowN t) (bitsF t.states) t.states.toNat g i) (notsG (lowN t)) t.hood.length 16 (fun k g acc hk hl=>by
  have h2:=scan_bd (fun g _ s=>testS (lowN t) (bitsF t.states) g k s) g t.states.toNat 2 (fun s g acc hk hl=>by
   simp only [testS]
   rw [allS_len,litsF_length];omega)
  unfold testRow
  omega)
 rw [notsG_length] at h1;unfold lowT testRows;omega
theorem nodeS_len {t:Tre} (hs:2≤t.states∧t.states≤8) (N:Nat) (tests:List (List Int)) (g:List Gt) (acc:List (List Int)) (i:Nat):(nodeS t N (bitsF t.states) t.states.toNat tests g acc i).1.length≤g.length+48:=by
 have hb:=bitsF_bd t.states
 have:=scan_bd (fun g _ k=>resS N (upN (t.nodes.getD i default)) (tests.getD ((t.hood.length:Int) - (t.nodes.getD i default).level).toNat []) acc (t.nodes.getD i default).next t.states.toNat g k) g (bitsF t.states) 16 (fun k g acc' hk hl=>by
  have:=resS_len N (upN (t.nodes.getD i default)) (tests.getD ((t.hood.length:Int) - (t.nodes.getD i default).level).toNat []) acc (t.nodes.getD i default).next g k t.states.toNat (by omega)
  omega)
 unfold nodeS;omega
theorem lowM_len {t:Tre} (hr:rightT t=true) (m:Nat):(lowM t m).1.length≤475+48 * m:=by
 obtain ⟨hh,⟨hs,_⟩,hn⟩:=rightT_parts hr;have h1:=(lowT_len hr).1;have:=scan_bd (fun g res i=>nodeS t (lowN t) (bitsF t.states) t.states.toNat (lowT t).2 g res i) (lowT t).1 m 48 (fun k g acc hk hl=>nodeS_len hs _ _ g acc k);unfold lowM nodesS;omega
theorem lowM_row {t:Tre} (m i:Nat) (hi:i < m):((lowM t m).2.getD i []).length=bitsF t.states:=by
 have hl:(lowM t m).2.length=m:=by unfold lowM nodesS;exact scan_length _ _ _
 have:=scan_all (fun g res i=>nodeS t (lowN t) (bitsF t.states) t.states.toNat (lowT t).2 g res i) (lowT t).1 m (fun r=>r.length=bitsF t.states) (fun k g acc hk=>by unfold nodeS;exact scan_length _ _ _);have hi':i < (lowM t m).2.length:=by omega
 have this:∀ x ∈ (lowM t m).2,x.length=bitsF t.states:=this;rw [List.getD_eq_getElem?_getD,List.getElem?_eq_getElem hi'];exact this _ (List.getElem_mem hi')
theorem lowT_row {t:Tre} (i:Nat) (hi:i < t.hood.length):((lowT t).2.getD i []).length=t.states.toNat:=by
 have hl:(lowT t).2.length=t.hood.length:=by unfold lowT testRows;exact scan_length _ _ _
 have:=scan_all (fun g _ i=>testRow (lowN t) (bitsF t.states) t.states.toNat g i) (notsG (lowN t)) t.hood.length (fun r=>r.length=t.states.toNat) (fun k g acc hk=>by unfold testRow;exact scan_length _ _ _);have hi':i < (lowT t).2.length:=by omega
 have this:∀ x ∈ (lowT t).2,x.length=t.states.toNat:=this;rw [List.getD_eq_getElem?_getD,List.getElem?_eq_getElem hi'];exact this _ (List.getElem_mem hi')
theorem right_mk (N:Nat) (gs:List Gt) (os:List Int) (h1:N≤1000) (h2:gs.length≤20000) (h3:os.length≤1000) (hg:okG N gs) (ho:∀ k,k < os.length→okW N gs (os.getD k 0)):rightC ⟨(N:Int),gs,os⟩=true:=by
 have e:=right_true_gates ⟨(N:Int),gs,os⟩ ⟨by dsimp only;omega,by dsimp only;omega,h2,h3⟩ hg;rw [e]
 apply all_true_at
 intro k hk;have:=ho k hk;unfold okW at this;exact decide_eq_true this
theorem lowR_right {t:Tre} (hr:rightT t=true) (hm:t.nodes.length≤400):rightC (lowR t)=true:=by
 obtain ⟨hh,⟨hs,hn1,_⟩,hn⟩:=rightT_parts hr;have h1:=lowM_len hr t.nodes.length;have h2:=(lowT_len hr).2;have hg:=lowM_good hr (vs:=List.replicate (lowN t) false) (List.length_replicate ..) t.nodes.length (Nat.le_refl _);have hrow:=lowM_row (t:=t) t.nodes.length (t.nodes.length - 1) (by omega);have hb:=bitsF_bd t.states;rw [lowR,if_pos hr];exact right_mk _ _ _ (by omega) (by omega) (by omega) hg.ok (fun k hk=>(hg.at_ (t.nodes.length - 1) (by omega) k (by omega)).1)
def statesOf (t:Tre) (vs:List Bool):List Int:=stsF vs (bitsF t.states) t.hood.length
def outsV (t:Tre) (vs:List Bool):List Bool:=(List.range (bitsF t.states)).map (fun k=>okSts t.states (statesOf t vs) && bitI (valueT t (statesOf t vs)) k)
theorem lowR_outs {t:Tre} (hr:rightT t=true) {vs:List Bool} (hv:vs.length=lowN t):outsG evalB false (lowR t) vs=outsV t vs:=by
 obtain ⟨hh,⟨hs,hn1,_,hroot⟩,hn⟩:=rightT_parts hr;have hg:=lowM_good hr hv t.nodes.length (Nat.le_refl _);have hrow:=lowM_row (t:=t) t.nodes.length (t.nodes.length - 1) (by omega);rw [lowR,if_pos hr];unfold outsG outsV;dsimp only
 apply bl_ext
 ·rw [List.length_map,List.length_map,List.length_range,hrow]
 ·intro k hk;rw [List.length_map,hrow] at hk;have h2:=(hg.at_ (t.nodes.length - 1) (by omega) k hk).2
  have e1:∀ (l:List Int),l.length=bitsF t.states→(l.map (fun o=>(runG evalB false (lowM t t.nodes.length).1 vs).getD o.toNat false)).getD k false=V vs (lowM t t.nodes.length).1 (l.getD k 0):=fun l hl=>by
   have:k < l.length:=by omega
   simp [List.getD_eq_getElem?_getD,List.getElem?_map,List.getElem?_eq_getElem this,V,vals]
  rw [e1 _ hrow,h2];simp only [List.getD_eq_getElem?_getD,List.getElem?_map,List.getElem?_range hk,Option.map_some,Option.getD_some];simp only [valN,tailOf];rw [hroot,Int.sub_self];simp only [Int.toNat_zero,List.drop_zero];unfold valueT statesOf;rw [show ((t.nodes.length:Int) - 1)=((t.nodes.length - 1:Nat):Int) by omega]
theorem flat_part (b:Nat) (ins:List Int) (i:Nat) (hi:i < ins.length):((ins.flatMap (bitsOf b)).drop (i * b)).take b=bitsOf b (ins.getD i 0):=by
 induction ins generalizing i with
 | nil=>simp at hi
 | cons x l ih=>
  cases i with
  | zero=>
   simp only [List.flatMap_cons,Nat.zero_mul,List.drop_zero,List.getD_cons_zero];rw [List.take_left' (bitsOf_length b x)]
  | succ i=>
   have:=ih i (by simpa using hi);simp only [List.flatMap_cons,List.getD_cons_succ];rw [← this,show (i+1) * b=b+i * b by rw [Nat.add_mul];omega,← List.drop_drop,List.drop_left' (bitsOf_length b x)]
theorem flat_len (b:Nat) (ins:List Int):(ins.flatMap (bitsOf b)).length=ins.length * b:=by
 induction ins with
 | nil=>simp
 | cons x l ih=>simp only [List.flatMap_cons,List.length_append,List.length_cons,ih,bitsOf_length,Nat.add_mul];omega
theorem evalErr_parts {t:Tre} {ins:List Int} (h:evalErr t ins=0):rightT t=true∧ins.length=t.hood.length∧ins.all (stateIn t)=true:=by
 unfold evalErr at h;split at h
 ·split at h
  ·split at h
   ·exact ⟨by assumption,by assumption,by assumption⟩
   ·omega
  ·omega
 ·omega
theorem inputs_len {t:Tre} {ins:List Int} (h:evalErr t ins=0):(inputsB t ins).length=lowN t:=by
 obtain ⟨_,h2,_⟩:=evalErr_parts h;unfold inputsB lowN;rw [flat_len,h2]
theorem statesOf_inputs {t:Tre} {ins:List Int} (h:evalErr t ins=0):statesOf t (inputsB t ins)=ins:=by
 obtain ⟨h1,h2,h3⟩:=evalErr_parts h;obtain ⟨_,⟨hs,_⟩,_⟩:=rightT_parts h1;have hp:=bitsF_pow hs
 apply List.ext_getElem
 ·simp [statesOf,stsF,h2]
 ·intro i hi1 hi2;have h4:=stateIn_at h3 hi2;have e:ins.getD i 0=ins[i]:=by rw [List.getD_eq_getElem?_getD,List.getElem?_eq_getElem hi2];rfl
  simp only [statesOf,stsF,List.getElem_map,List.getElem_range,stF,inputsB];rw [flat_part _ _ _ hi2,valB_bits _ _ h4.1 (by omega),e]
theorem low_same {t:Tre} {ins:List Int} (h:evalErr t ins=0):outsG evalB false (lowR t) (inputsB t ins)=bitsOf (bitsF t.states) (valueT t ins)∧stateF (outsG evalB false (lowR t) (inputsB t ins))=valueT t ins:=by
 obtain ⟨h1,h2,h3⟩:=evalErr_parts h;obtain ⟨hh,⟨hs,_⟩,_⟩:=rightT_parts h1;have hp:=bitsF_pow hs
 have h0:1≤t.hood.length:=by
  simp only [hoodOk,Bool.and_eq_true,decide_eq_true_eq] at hh;omega
 have hv:=(walkT_at h1 ins h2 (fun j hj=>stateIn_at h3 hj) ins.length (Nat.le_refl _)).2 rfl (by omega);rw [List.take_length] at hv
 have hok:okSts t.states ins=true:=by
  unfold okSts;rw [List.all_eq_true] at *;intro x hx;have:=h3 x hx;simp only [stateIn,decide_eq_true_eq] at this
  simpa using this.2
 have e:outsG evalB false (lowR t) (inputsB t ins)=bitsOf (bitsF t.states) (valueT t ins):=by
  rw [lowR_outs h1 (inputs_len h)];unfold outsV;rw [statesOf_inputs h,hok]
  simp [bitsOf]
 refine ⟨e,?_⟩;rw [e,stateF,if_neg (by rw [bitsOf_length];have:=bitsF_bd t.states;omega)];exact valB_bits _ _ hv.1 (by unfold valueT;omega)
end Go.Proofs.YtbijfnbelkbofaaGreatDoor
namespace Go.Proofs.YtbijfnbelkbofaaGreatDoor
open Go.RowKit
theorem gate_infoL:(Tryz.prog.info? 135).map (fun i=>(i.zero,i.size,i.bytes))=some (some (.agg #[.int .i64 0,.int .i64 0,.int .i64 0]),3,24):=by kernel_rfl
theorem int_infoL:(Tryz.prog.info? 3).map (fun i=>(i.zero,i.size,i.bytes))=some (some (.int .i64 0),1,8):=by kernel_rfl
def LSt (w:World) (B b N:Nat) (gs:List Gt) (cs:List Value):Prop:=
 ∃ gv:Value,Row w b 74 (.int .i64 N :: gv :: cs)∧w.ownsRow B 135 3 gv gs.length (gatesCells gs)∧B≤b
abbrev LFrm (B:Nat) (w w':World):Prop:=Frm B 74 135 w w'
theorem LSt.blk {w:World} {B b N:Nat} {gs:List Gt} {cs:List Value} (h:LSt w B b N gs cs):b < w.heap.size∧B≤b:=by
 obtain ⟨gv,h1,_,h3⟩:=h;exact ⟨h1.lt,h3⟩
theorem LSt.cs {w:World} {B b N:Nat} {gs:List Gt} {cs:List Value} (h:LSt w B b N gs cs) (i:Nat):w.cell? ⟨b,i+2,none⟩=cs[i]?:=by
 obtain ⟨gv,h1,_,h3⟩:=h;exact (h1.cell (i+2)).trans (by simp)
theorem LSt.keep {w w':World} {B b N:Nat} {gs:List Gt} {cs:List Value} (h:LSt w B b N gs cs) (hb:∀ k,k < w.heap.size→w'.heap[k]?=w.heap[k]?):LSt w' B b N gs cs:=by
 obtain ⟨gv,h1,h2,h3⟩:=h;refine ⟨gv,(hb b h1.lt).trans h1,⟨h2.1,h2.2.imp id (fun ⟨g,cap,cur,a,b',c,d⟩=>⟨g,cap,cur,a,b',(hb g (heap_lt c)).trans c,d⟩)⟩,h3⟩
theorem LSt.below {w w':World} {B b N:Nat} {gs:List Gt} {cs:List Value} (h:LSt w B b N gs cs) (hb:Below w.heap.size w w'):LSt w' B b N gs cs:=h.keep hb.block
theorem LSt.alloc {w:World} {B b N:Nat} {gs:List Gt} {cs:List Value} (h:LSt w B b N gs cs) (o:Obj):LSt (w.alloc o) B b N gs cs:=h.keep (fun k hk=>Below.heap_alloc w o k hk)
theorem LSt.grown {w w':World} {B b N:Nat} {gs:List Gt} {cs:List Value} {row:Option Nat} (h:LSt w B b N gs cs) (hg:w.grownBy w' row) (hr:∀ k,row=some k→w.heap.size≤k):LSt w' B b N gs cs:=
 h.keep (fun k hk=>hg.block k hk (fun e=>by have:=hr k e.symm;omega))
theorem LSt.grownT {w w':World} {B b N:Nat} {gs:List Gt} {cs:List Value} {base sz n:Nat} {e:TypeId} {v:Value} {xs:List Value} (h:LSt w B b N gs cs) (ho:w.ownsRow base e sz v n xs) (hg:w.grownBy w' v.ownBlock) (h1:e≠74) (h2:e≠135):LSt w' B b N gs cs:=by
 obtain ⟨gv,r1,r2,r3⟩:=h
 have key:∀ k cs' T,T≠e→w.heap[k]?=some (Obj.cells cs' T (0,0))→w'.heap[k]?=some (Obj.cells cs' T (0,0)):=fun k cs' T ht hh=>by
  rw [hg.block k (heap_lt hh) (fun he=>by
   obtain ⟨cur,hc,_⟩:=own_block_type ho he.symm;rw [hc] at hh;injection hh with hh;injection hh with _ h4
   exact ht h4.symm)]
  exact hh
 exact ⟨gv,key b _ _ h1.symm r1,⟨r2.1,r2.2.imp id (fun ⟨g,cap,cur,a,b',c,d⟩=>⟨g,cap,cur,a,b',key g cur _ h2.symm c,d⟩)⟩,r3⟩
theorem LSt.set {w:World} {B b N:Nat} {gs:List Gt} {cs:List Value} (h:LSt w B b N gs cs) (i:Nat) (u:Value):LSt (w.setCell ⟨b,i+2,none⟩ u) B b N gs (cs.set i u):=by
 obtain ⟨gv,h1,h2,h3⟩:=h;exact ⟨gv,h1.set (i+2) u,own_set (p:=⟨b,i+2,none⟩) h2 h1 (by decide) u,h3⟩
set_option maxRecDepth 100000 in
set_option maxHeartbeats 1000000 in
theorem lgate_any (B b N:Nat) (gs:List Gt) (cs:List Value) (op x y:Int) (w:World) (h:LSt w B b N gs cs) (hN:N≤100) (hl:gs.length≤30000):
 Calls Tryz.prog 28 #[.pointer (some ⟨b,0,none⟩),.int .i64 op,.int .i64 x,.int .i64 y] w fun e w'=>e=.returned (.int .i64 (wireF N gs))∧LSt w' B b N (gs ++ [⟨op,x,y⟩]) cs∧LFrm B w w':=by
 obtain ⟨gv,hr,ho,hB⟩:=h;have RL:=hiD hr;have OG:=hiD ho;have c0:=RL.out.cell 0;have c1:=RL.out.cell 1;have hbl:=RL.out.lt;have f1:=RL.out.frozen 1;simp only [List.getElem?_cons_zero,List.getElem?_cons_succ] at c0 c1;generalize hn:gs.length=n at hl OG;have HL:=hiD hn;have hW:Hid (wireF N gs=(N:Int)+n):=by show _=_;rw [wireF,hn]
 clear hr ho hn;go_enter Tryz.func28,Tryz.ntmps28
 go_wp2_with (at_builtin;refine wpList_app rfl (.tmp 14) (.tmp 19) 34 rfl B 135 (.agg #[.int .i64 0,.int .i64 0,.int .i64 0]) 3 24 Tryz.underlying34 gate_infoL rfl (by decide) (by decide) gv n (gatesCells gs) rfl ?own (w.heap.size+1) (some ⟨w.heap.size,0,none⟩) 1 1 [.int .i64 op,.int .i64 x,.int .i64 y] rfl ?rd ?one ?hb ?hbase ?_)
 case own=>exact OG.out.alloc _
 case rd=>exact Rd.lit w #[.int .i64 op,.int .i64 x,.int .i64 y] 135 (sz:=3) (m:=1) rfl
 case one=>intro u hu;simp at hu;rcases hu with rfl | rfl | rfl <;> rfl
 case hb=>omega
 case hbase=>simp;omega
 intro v' w' hown' hgrow' hat';have F1:Hid (LFrm B w w'):=Frm.grown2 ((Frm.refl B _ _ w).alloc (by omega) _) (OG.out.alloc _) (Nat.le_refl _) (by simp;omega) hgrow';have RL':Hid (Row w' b 74 (.int .i64 N :: gv :: cs)):=(RL.out.alloc _).grown hgrow' (fun e=>(own_ne_row OG.out RL.out (by decide)) e.symm);have OG':Hid (w'.ownsRow B 135 3 v' (n+1) (gatesCells gs ++ [.int .i64 op,.int .i64 x,.int .i64 y])):=hown';clear hown' hgrow' hat' c0 c1 f1 hbl;obtain ⟨A',c',rfl,_⟩:=Rd.own OG'.out;have c0:=RL'.out.cell 0;have c1:=RL'.out.cell 1;have hbl:=RL'.out.lt;have f1:=RL'.out.frozen 1;simp only [List.getElem?_cons_zero,List.getElem?_cons_succ] at c0 c1;have hw1:IntKind.i64.wrap ((N:Int)+(n+1))=(N:Int)+(n+1):=IntWalk.i64_in _ (by omega);have hw2:IntKind.i64.wrap ((N:Int)+(n+1) - 1)=(N:Int)+(n+1) - 1:=IntWalk.i64_in _ (by omega);go_wp2_with fail;go_quiet (fail);go_wp2;go_ret;refine ⟨ret_i64 (by rw [hW.out];omega),⟨.slice A' (n+1) c',?_,?_,hB⟩,?_⟩
 ·exact (RL'.out.set 1 (.slice A' (n+1) c')).drewN _
 ·have h1:=own_set (p:=⟨b,1,none⟩) OG'.out RL'.out (by decide) (.slice A' (n+1) c');rw [gatesCells_append,gatesCells_one,List.length_append,List.length_singleton,HL.out];exact h1
 ·exact (Frm.set (p:=⟨b,1,none⟩) F1.out RL'.out hB _).drewN _
def notsW (N:Nat):List Int:=(List.range N).map (fun (j:Nat)=>(N:Int)+j)
theorem notsW_get (N k:Nat) (h:k < N):(notsW N).getD k 0=(N:Int)+k:=by
 simp [notsW,List.getD_eq_getElem?_getD,List.getElem?_map,List.getElem?_range h]
theorem notsW_upto (N k:Nat):((List.range (k+1)).map (fun (j:Nat)=>(N:Int)+j))=((List.range k).map (fun (j:Nat)=>(N:Int)+j)) ++ [(N:Int)+k]:=by simp [List.range_succ]
set_option maxHeartbeats 1000000 in
theorem llit_any (b N bb i k nc:Nat) (NA:Option Addr) (one:Bool) (q:Int) (w:World) (h6:w.cell? ⟨b,6,none⟩=some (.int .i64 bb)) (h7:w.cell? ⟨b,7,none⟩=some (.slice NA N nc)) (hR:Rd w w.heap.size 1 NA N (ints (notsW N)))
 (hlt:i * bb+k < N) (hN:N≤100) (hq:q=if one=true then 1 else 0):
 Calls Tryz.prog 74 #[.pointer (some ⟨b,0,none⟩),.int .i64 i,.int .i64 k,.int .i64 q] w fun e w'=>e=.returned (.int .i64 (litF N (i * bb+k) one))∧w=w':=by
 have HR:=hiD hR;clear hR;generalize hm:i * bb=m at hlt;have hmi:(i:Int) * (bb:Int)=(m:Int):=by rw [← hm];simp
 have hmk:(m:Int)+(k:Int)=((m+k:Nat):Int):=by omega
 clear hm
 cases one
 ·obtain rfl:q=0:=by simpa using hq
  obtain ⟨ad,rfl,hb',hz⟩:=HR.out.int hlt;rw [notsW_get N _ hlt] at hz;have hz2:(0:Int)≤((m+k:Nat):Int):=by omega
  have hz3:((m+k:Nat):Int) < (N:Int):=by omega
  generalize m+k=j at hz hmk hlt hz2 hz3;clear hq;go_enter Tryz.func74,Tryz.ntmps74;go_wp2;go_ret;exact ⟨ret_i64 rfl,rfl⟩
 ·obtain rfl:q=1:=by simpa using hq
  have hz2:(0:Int)≤((m+k:Nat):Int):=by omega
  have hz3:((m+k:Nat):Int) < (N:Int):=by omega
  generalize m+k=j at hmk hlt hz2 hz3;clear hq;go_enter Tryz.func74,Tryz.ntmps74;go_wp2;go_ret;exact ⟨ret_i64 rfl,rfl⟩
set_option maxRecDepth 100000 in
set_option maxHeartbeats 2000000 in
theorem lall_any (B b N Bw n:Nat) (gs:List Gt) (cs:List Value) (op:Int) (wv:Value) (ws:List Int) (w:World) (h:LSt w B b N gs cs) (hN:N≤100) (hl:gs.length≤20000)
 (hw:w.ownsRow Bw 3 1 wv n (ints ws)) (h1:1≤n) (hn:n≤100):
 Calls Tryz.prog 75 #[.pointer (some ⟨b,0,none⟩),.int .i64 op,wv] w fun e w'=>e=.returned (.int .i64 (allS N op gs ws).2)∧LSt w' B b N (allS N op gs ws).1 cs∧LFrm B w w':=by
 have H:=hiD h;have OW:=hiD hw;have HL:Hid (ws.length=n):=by have:=hw.1;rw [ints_length,Nat.mul_one] at this;exact this
 obtain ⟨g,cap,rfl,hgB,hgl⟩:=hw.form (by omega)
 have hcap:n≤cap∧cap≤maxLen:=by
  rcases hw.2 with ⟨hh,_⟩ | ⟨g',cap',cur,hh,_,_,h4,h5,_⟩
  ·cases hh
  ·injection hh with hh1 hh2 hh3;subst hh3;exact ⟨h4,h5⟩
 clear h hw
 obtain ⟨m,rfl⟩:∃ m,n=m+1:=⟨n - 1,by omega⟩
 have key:∀ (w1:World),LFrm B w w1→∀ k,k < m+1→w1.cell? ⟨g,k,none⟩=some (.int .i64 (ws.getD k 0)):=fun w1 hf k hk=>by
  have:=(Frm.own hf OW.out (by decide) (by decide)).cellAt k (by omega);rw [this];exact ints_get _ _ (by rw [HL.out];omega)
 have KEY:=hiD key;have c0:=KEY.out w (Frm.refl _ _ _ _) 0 (by omega);generalize hz0:ws.getD 0 0=z0 at c0;have HZ0:=hiD hz0;obtain ⟨hcap1,hcap2⟩:=hcap;unfold maxLen at hcap2;clear key hz0;by_cases hm:m=0
 ·subst hm
  have HE:Hid (allS N op gs ws=(gs,z0)):=by
   show _=_;rw [← allS_all,HL.out,allS_one,HZ0.out]
  by_cases hc1:cap=1
  ·subst hc1;go_enter Tryz.func75,Tryz.ntmps75;go_wp2
   go_loopg [7,9,16] 0 (fun gg s7 _ s16 wr=>s16=.int .i64 0∧s7=.int .i64 z0∧wr=w)
   case atStart=>exact ⟨rfl,rfl,rfl⟩
   case round=>
    obtain ⟨rfl,rfl,rfl⟩:=hrel;go_wp2;go_ret;refine ⟨ret_i64 (by rw [HE.out]),?_,Frm.refl _ _ _ _⟩;rw [HE.out];exact H.out
  ·have hc2:1 < cap:=by omega
   go_enter Tryz.func75,Tryz.ntmps75;go_wp2
   go_loopg [7,9,16] 0 (fun gg s7 _ s16 wr=>s16=.int .i64 0∧s7=.int .i64 z0∧wr=w)
   case atStart=>exact ⟨rfl,rfl,rfl⟩
   case round=>
    obtain ⟨rfl,rfl,rfl⟩:=hrel;go_wp2;go_ret;refine ⟨ret_i64 (by rw [HE.out]),?_,Frm.refl _ _ _ _⟩;rw [HE.out];exact H.out
 ·have hc1:¬ cap=1:=by omega
  have hc2:1 < cap:=by omega
  go_enter Tryz.func75,Tryz.ntmps75;go_wp2;clear c0 hc1 hc2
  go_loopg [7,9,16] m (fun gg s7 _ s16 wr=>∃ (kk:Nat) (z:Int),kk≤m∧m - kk≤gg∧s16=.int .i64 kk∧s7=.int .i64 z∧Aside (z=(allS N op gs (ws.take (kk+1))).2)∧Aside (LSt wr B b N (allS N op gs (ws.take (kk+1))).1 cs)∧Aside (LFrm B w wr))
  case atStart=>exact ⟨0,z0,Nat.zero_le _,by omega,rfl,rfl,(show _=_ by rw [allS_one,HZ0.out]),(show LSt _ _ _ _ _ _ by rw [allS_one];exact H.out),Frm.refl _ _ _ _⟩
  case round=>
   obtain ⟨kk,z,hkk,hgg,rfl,rfl,HZ,LS,FF⟩:=hrel;by_cases hlt:kk < m
   ·have hltz:(kk:Int) < (m:Int):=by omega
    have c1:=KEY.out wr FF.out (1+kk) (by omega);have c2:=c1;rw [Nat.add_comm] at c2;have hlen:=allS_len N op gs (ws.take (kk+1));rw [List.length_take,HL.out,Nat.min_eq_left (by omega)] at hlen
    have HS:Hid (allS N op gs (ws.take (kk+1+1))=gateS N op (allS N op gs (ws.take (kk+1))) (ws.getD (1+kk) 0)):=by
     show _=_;rw [allS_take N op gs ws (kk+1) (by omega) (by rw [HL.out];omega),Nat.add_comm 1 kk]
    generalize ws.getD (1+kk) 0=x at c1 c2 HS;generalize allS N op gs (ws.take (kk+1))=p at HZ LS hlen HS;obtain ⟨pg,pw⟩:=p;have HZ':Hid (z=pw):=HZ.out;have LS':Hid (LSt wr B b N pg cs):=LS.out;dsimp only at hlen;clear HZ LS;go_wp2_with fail;refine (lgate_any B b N pg cs op z x _ LS'.out hN (by omega)).mono ?_;rintro e w2 ⟨rfl,hl2,hf2⟩;have LS2:=hiD hl2;have FF2:Hid (LFrm B w w2):=Frm.trans FF.out hf2;clear hl2 hf2;go_wp2;go_roundg (m - (kk+1))
    case measure=>omega
    case rel=>
     refine ⟨kk+1,wireF N pg,by omega,by omega,by go_num,rfl,(show _=_ by rw [HS.out];rfl),(show LSt _ _ _ _ _ _ by rw [HS.out];have:=LS2.out;rw [HZ'.out] at this;exact this),FF2.out⟩
   ·have hltz:¬ (kk:Int) < (m:Int):=by omega
    obtain rfl:kk=m:=by omega
    have HA:Hid (allS N op gs (ws.take (kk+1))=allS N op gs ws):=by show _=_;rw [← HL.out,allS_all]
    go_wp2;go_ret;refine ⟨ret_i64 (by rw [HZ.out,HA.out]),?_,FF.out⟩;rw [← HA.out];exact LS.out
end Go.Proofs.YtbijfnbelkbofaaGreatDoor
namespace Go.Proofs.YtbijfnbelkbofaaGreatDoor
open Go.RowKit
end Go.Proofs.YtbijfnbelkbofaaGreatDoor
namespace Go.Proofs.YtbijfnbelkbofaaGreatDoor
open Go.RowKit
set_option maxHeartbeats 1000000 in
theorem fewT_any (t:Tre) (HA NA:Option Addr) (hn hc nn nc:Nat) (sl:List Sl) (w:World) (h:TAt w t HA NA hn nn sl):
 Calls Tryz.prog 6 #[.agg #[.int .i64 t.states,.slice HA hn hc,.slice NA nn nc]] w fun e w'=>e=.returned (.bool (fewT t))∧Below w.heap.size w w':=by
 have H:=hiD h;have HL:Hid (t.nodes.length=nn):=h.nl;have HLH:Hid (t.hood.length=hn):=h.hl;have hm1:=h.h63;have hm2:=h.n63;clear h;unfold maxLen at hm1 hm2;by_cases q1:40 < hn
 ·have HF:Hid (fewT t=false):=decide_eq_false (by rw [HLH.out];omega);go_enter Tryz.func6,Tryz.ntmps6;go_wp2;go_ret;exact ⟨ret_bool HF.out.symm,by go_grown⟩
 by_cases q2:400 < nn
 ·have HF:Hid (fewT t=false):=decide_eq_false (by rw [HL.out];omega);go_enter Tryz.func6,Tryz.ntmps6;go_wp2;go_ret;exact ⟨ret_bool HF.out.symm,by go_grown⟩
 go_enter Tryz.func6,Tryz.ntmps6;go_wp2
 go_loopg [3,17] nn (fun gg _ s17 wr=>∃ kk:Nat,kk≤nn∧nn - kk≤gg∧s17=.int .i64 kk∧wr=w.alloc (.cells #[.int .i64 t.states,.slice HA hn hc,.slice NA nn nc] 27)∧Aside (∀ j,j < kk→(t.nodes.getD j default).next.length≤20))
 case atStart=>exact ⟨0,Nat.zero_le _,by omega,rfl,rfl,fun j hj=>absurd hj (Nat.not_lt_zero _)⟩
 case round=>
  obtain ⟨kk,hkk,hgg,rfl,rfl,AA⟩:=hrel;by_cases hlt:kk < nn
  ·have hltz:(kk:Int) < (nn:Int):=by omega
   obtain ⟨ad,rfl,hb',g0,g1⟩:=H.out.node hlt;have HNX:=H.out.next kk (by rw [HL.out];exact hlt);have hadz:(ad.add (kk * 2)).block < w.heap.size:=by rw [add_block];exact hb'
   generalize hq:sl.getD kk default=q at g1 HNX;obtain ⟨qa,ql,qc⟩:=q;dsimp only at HNX g1;obtain ⟨hnx,hql⟩:=HNX;have HNL:Hid ((t.nodes.getD kk default).next.length=ql):=by have:=hnx.1;rw [ints_length,Nat.mul_one] at this;exact this
   unfold maxLen at hql;clear hq hnx g0;by_cases q3:20 < ql
   ·have HF:Hid (fewT t=false):=decide_eq_false (fun h=>by
     have:=h.2.2 kk (by rw [HL.out];exact hlt)
     rw [HNL.out] at this;omega)
    go_wp2;go_ret;exact ⟨ret_bool HF.out.symm,by go_grown⟩
   ·go_wp2;go_roundg (nn - (kk+1))
    case measure=>omega
    case rel=>
     refine ⟨kk+1,by omega,by omega,by go_num,rfl,(show Aside _ from fun j hj=>?_)⟩;by_cases e:j=kk
     ·subst e;rw [HNL.out];omega
     ·exact AA.out j (by omega)
  ·have hltz:¬ (kk:Int) < (nn:Int):=by omega
   obtain rfl:kk=nn:=by omega
   have HF:Hid (fewT t=true):=decide_eq_true ⟨by rw [HLH.out];omega,by rw [HL.out];omega,fun i hi=>AA.out i (by rw [HL.out] at hi;omega)⟩;go_wp2;go_ret;exact ⟨ret_bool HF.out.symm,by go_grown⟩
end Go.Proofs.YtbijfnbelkbofaaGreatDoor
namespace Go.Proofs.YtbijfnbelkbofaaGreatDoor
open Go.RowKit
theorem bit_int (x:Int) (k:Nat) (h0:0≤x) (h1:x≤7):bits BinOp.and IntKind.i64 (x / 2 ^ k) 1=if bitI x k=true then 1 else 0:=by rw [bit_run x k h0 h1,bit_cases]
theorem iint_snoc (l:List Int) (x:Int):ints (l ++ [x])=ints l ++ [.int .i64 x]:=by simp [ints]
set_option maxRecDepth 100000 in
set_option maxHeartbeats 2000000 in
theorem ltest_any (B b N bb i s Bn:Nat) (gs:List Gt) (cs:List Value) (nv:Value) (w:World) (h:LSt w B b N gs cs) (hN:N≤100) (hl:gs.length≤20000) (h6:cs[4]?=some (.int .i64 bb)) (h7:cs[5]?=some nv)
 (hn:w.ownsRow Bn 3 1 nv N (ints (notsW N))) (hb:1≤bb) (hb3:bb≤3) (hi:i * bb+bb≤N) (hs:s≤7):
 Calls Tryz.prog 29 #[.pointer (some ⟨b,0,none⟩),.int .i64 i,.int .i64 s] w fun e w'=>e=.returned (.int .i64 (testS N bb gs i s).2)∧LSt w' B b N (testS N bb gs i s).1 cs∧LFrm B w w':=by
 have H:=hiD h;have HN:=hiD hn;obtain ⟨NA,nc,rfl,_⟩:=Rd.own hn;have H6:=hiD h6;have H7:=hiD h7;clear h hn h6 h7;have c6:=(H.out.cs 4).trans H6.out;obtain ⟨hbl,hBb⟩:=H.out.blk;go_enter Tryz.func29,Tryz.ntmps29;go_wp2;clear c6 hbl
 go_loopg [7,8,13] bb (fun gg s7 _ s13 wr=>∃ (kk:Nat),kk≤bb∧bb - kk≤gg∧s13=.int .i64 kk∧Aside (Below w.heap.size w wr)∧Aside (wr.ownsRow w.heap.size 3 1 s7 kk (ints ((litsF N bb i s).take kk))))
 case atStart=>exact ⟨0,Nat.zero_le _,by omega,rfl,Below.refl _ _,World.ownsRow_nil _ _ _ _⟩
 case round=>
  obtain ⟨kk,hkk,hgg,rfl,BW,OW⟩:=hrel;by_cases hlt:kk < bb
  ·have hltz:(kk:Int) < (bb:Int):=by omega
   have hbit:=bit_int (s:Int) kk (by omega) (by omega)
   obtain ⟨q,hq⟩:∃ q:Int,q=if bitI (s:Int) kk=true then 1 else 0:=⟨_,rfl⟩
   rw [← hq] at hbit;have HQ:=hiD hq
   have HT:Hid ((litsF N bb i s).take (kk+1)=(litsF N bb i s).take kk ++ [litF N (i * bb+kk) (bitI (s:Int) kk)]):=by
    show _=_;rw [il_snoc _ _ (by rw [litsF_length];exact hlt),litsF_get _ _ _ _ _ hlt]
   obtain ⟨NA',nc',e9,hRN⟩:=Rd.own (own_below HN.out BW.out (Nat.le_refl _))
   cases e9
   have HRN:=hiD hRN;have LS:=H.out.below BW.out;have h6:Hid (wr.cell? ⟨b,6,none⟩=some (.int .i64 bb)):=(LS.cs 4).trans H6.out;have h7:Hid (wr.cell? ⟨b,7,none⟩=some (.slice NA N nc)):=(LS.cs 5).trans H7.out;have hsz:w.heap.size≤wr.heap.size:=BW.out.size;generalize (litsF N bb i s).take kk=xs at OW HT;generalize hlit:litF N (i * bb+kk) (bitI (s:Int) kk)=lv at HT;have HLV:=hiD hlit;have hjN:Hid (i * bb+kk < N):=by show _ < _;omega
   clear LS hRN hq hlit
   go_wp2_with (first | (go_at_call 74;refine (llit_any b N bb i kk nc NA (bitI (s:Int) kk) q _ h6.out h7.out HRN.out hjN.out hN HQ.out).mono ?_;rw [HLV.out];rintro e w4 ⟨rfl,rfl⟩) | (at_builtin;refine wpList_app rfl (.tmp 16) (.tmp 25) 22 rfl w.heap.size 3 (.int .i64 0) 1 8 Tryz.underlying22 int_infoL rfl (by decide) (by decide) u7 (kk) (ints xs) rfl ?own (wr.heap.size+1) (some ⟨wr.heap.size,0,none⟩) 1 1 [.int .i64 lv] rfl ?rd ?one ?hb ?hbase ?_))
   case own=>exact (OW.out).alloc _
   case rd=>exact Rd.lit wr #[.int .i64 lv] 3 (sz:=1) (m:=1) rfl
   case one=>intro u hu;simp at hu;subst hu;rfl
   case hb=>omega
   case hbase=>simp;omega
   intro v' w' hown' hgrow' hat';have BB:=BW.out;have B3:Below w.heap.size w (wr.alloc (.cells #[.int .i64 lv] 3)):=by go_grown
   have HB4:Aside (Below w.heap.size w w'):=B3.grown hgrow' (by simp;omega) (fun k hk=>(OW.out.lt k hk).1)
   have HOWN':Aside (w'.ownsRow w.heap.size 3 1 v' (kk+1) (ints (xs ++ [lv]))):=by
    show w'.ownsRow _ _ _ _ _ _;rw [iint_snoc];exact hown'
   clear B3 BB hown' hgrow' hat' hbit;go_wp2;go_roundg (bb - (kk+1))
   case measure=>omega
   case rel=>
    refine ⟨kk+1,by omega,by omega,by go_num,HB4.out,?_⟩;show World.ownsRow _ _ _ _ _ _ _;rw [HT.out];exact HOWN'.out
  ·have hltz:¬ (kk:Int) < (bb:Int):=by omega
   obtain rfl:kk=bb:=by omega
   have LS:Hid (LSt wr B b N gs cs):=H.out.below BW.out
   have HA:Hid (allS N 3 gs ((litsF N kk i s).take kk)=testS N kk gs i s):=by
    show _=_;rw [List.take_of_length_le (by rw [litsF_length];exact Nat.le_refl _)];rfl
   have hbB:Hid (B≤w.heap.size):=by show _≤_;have:=H.out.blk;omega
   go_wp2_with fail;refine (lall_any B b N w.heap.size kk gs cs 3 u7 ((litsF N kk i s).take kk) _ LS.out hN hl OW.out hb (by omega)).mono ?_;rw [HA.out];rintro e w2 ⟨rfl,hl2,hf2⟩;have LS2:=hiD hl2;have FF2:Hid (LFrm B w w2):=Frm.trans (Frm.ofBelow BW.out hbB.out) hf2;clear hl2 hf2;go_wp2;go_ret;exact ⟨rfl,LS2.out,FF2.out⟩
end Go.Proofs.YtbijfnbelkbofaaGreatDoor
