/-
  Lemmas for the law TopCircuits.
-/
import Derived.Test.YtbijfnbelkbofaaGreatDoorJZ15
import Derived.Test.YtbijfnbelkbofaaGreatDoorJZ6
import Derived.Test.YtbijfnbelkbofaaGreatDoorJZ2
import Derived.Lib.Hide
import Derived.Test.YtbijfnbelkbofaaGreatDoorJZ16
import Derived.Test.YtbijfnbelkbofaaGreatDoorProg
set_option linter.unusedSimpArgs false
set_option linter.unusedVariables false
namespace Go.Proofs.YtbijfnbelkbofaaGreatDoor
namespace KT
section
variable {t:Tab} {b:List Int} {e s:Int} {r:Rw} {ins:List Int}
structure BOk (t:Tab) (b:List Int):Prop where
 len:b.length=40
 val:∀ v:Nat,v < 40→b.getD v 0=-1∨(0≤b.getD v 0∧b.getD v 0 < t.states)
theorem noneB_ok (t:Tab):BOk t noneB:=⟨by simp [noneB],fun v hv=>.inl (by simp only [noneB,List.getD_eq_getElem?_getD,List.getElem?_replicate];rw [if_pos hv];rfl)⟩
theorem elem_lt (he:elemOk t e=true) (hneg:e < 0):vix e < t.vars.length:=by
 have:=of_decide_eq_true he;unfold vix;omega
theorem getD_setI (l:List Int) (i j:Nat) (z:Int) (hi:i < l.length):(l.set i z).getD j 0=if i=j then z else l.getD j 0:=by
 simp only [List.getD_eq_getElem?_getD,List.getElem?_set];split
 ·rename_i h;subst h;simp [hi]
 ·rfl
structure AOut (t:Tab) (b:List Int) (e s:Int) (a:List Int × Bool × Bool):Prop where
 ok:BOk t a.1
 mono:∀ v,0≤b.getD v 0→a.1.getD v 0=b.getD v 0
 fit:a.2.1=true→e < 0→0≤a.1.getD (vix e) 0
 fresh:a.2.2=true→a.2.1=true∧e < 0∧b.getD (vix e) 0=-1∧a.1=b.set (vix e) s∧(t.vars.getD (vix e) []).contains s=true
 same:a.2.2=false→a.1=b
theorem accept_out (hb:BOk t b) (he:elemOk t e=true) (hv:t.vars.length≤40) (hs:0≤s∧s < t.states):AOut t b e s (acceptK t b e s):=by
 unfold acceptK;by_cases h0:0≤e
 ·rw [if_pos h0];exact ⟨hb,fun _ _=>rfl,fun _ q=>by omega,fun q=>by simp at q,fun _=>rfl⟩
 ·rw [if_neg h0];have hlt:=elem_lt he (by omega);have hv40:vix e < 40:=by omega
  by_cases h1:0≤b.getD (vix e) 0
  ·rw [if_pos h1];exact ⟨hb,fun _ _=>rfl,fun _ _=>h1,fun q=>by simp at q,fun _=>rfl⟩
  ·rw [if_neg h1];have hm1:b.getD (vix e) 0=-1:=(hb.val _ hv40).resolve_right (fun q=>h1 q.1);by_cases h2:(t.vars.getD (vix e) []).contains s=true
   ·rw [if_pos h2];have hl:vix e < b.length:=by rw [hb.len];exact hv40
    refine ⟨⟨by rw [List.length_set];exact hb.len,fun v hv'=>?_⟩,fun v hv'=>?_,fun _ _=>?_,fun _=>⟨rfl,by omega,hm1,rfl,h2⟩,fun q=>by simp at q⟩
    ·dsimp only;rw [getD_setI _ _ _ _ hl];split
     ·exact .inr hs
     ·exact hb.val v hv'
    ·dsimp only;rw [getD_setI _ _ _ _ hl];split
     ·rename_i q;subst q;omega
     ·rfl
    ·dsimp only;rw [getD_setI _ _ _ _ hl,if_pos rfl];exact hs.1
   ·rw [if_neg h2];exact ⟨hb,fun _ _=>rfl,fun q=>by simp at q,fun q=>by simp at q,fun _=>rfl⟩
theorem rowOk_parts (h:rowOk t r=true):r.ins.length=t.hood.length∧elemOk t r.out=true∧(0≤r.out∨r.out ∈ r.ins)∧∀ e ∈ r.ins,elemOk t e=true:=by
 unfold rowOk at h;simp only [Bool.and_eq_true,Bool.or_eq_true,decide_eq_true_eq,List.all_eq_true] at h;exact ⟨h.1,h.2.1,by simpa using h.2.2.1,h.2.2.2⟩
def inR (t:Tab) (s:Int):Prop:=0≤s∧s < t.states
theorem out_in (hb:BOk t b) (hr:rowOk t r=true) (hv:t.vars.length≤40) (hall:∀ e ∈ r.ins,e < 0→0≤b.getD (vix e) 0):inR t (outK b r):=by
 obtain ⟨_,h1,h2,_⟩:=rowOk_parts hr;unfold outK;split
 ·rename_i h0;exact ⟨h0,(of_decide_eq_true h1).1⟩
 ·rename_i h0
  have hm:=h2.resolve_left h0;have hlt:=elem_lt h1 (by omega);have:=hall _ hm (by omega);exact (hb.val (vix r.out) (by omega)).resolve_left (by omega)
theorem go_out (hv:t.vars.length≤40) (hins:∀ i,0≤ins.getD i 0∧ins.getD i 0 < t.states):∀ (es:List Int) (i:Nat) (b b':List Int),BOk t b→(∀ e ∈ es,elemOk t e=true)→plainGo t ins es i b=some b'→BOk t b'∧(∀ v,0≤b.getD v 0→b'.getD v 0=b.getD v 0)∧∀ e ∈ es,e < 0→0≤b'.getD (vix e) 0
 | [],i,b,b',hb,_,h=>by
  simp only [plainGo,Option.some.injEq] at h;subst h;exact ⟨hb,fun _ _=>rfl,fun e he=>by simp at he⟩
 | e :: es,i,b,b',hb,he,h=>by
  unfold plainGo at h;have ha:=accept_out (s:=ins.getD i 0) hb (he e (by simp)) hv (hins i);by_cases hf:(acceptK t b e (ins.getD i 0)).2.1=true
  ·rw [if_pos hf] at h;obtain ⟨q1,q2,q3⟩:=go_out hv hins es (i+1) _ b' ha.ok (fun x hx=>he x (by simp [hx])) h;refine ⟨q1,fun v hv'=>by rw [q2 v (by rw [ha.mono v hv'];exact hv'),ha.mono v hv'],fun x hx hx0=>?_⟩;rcases List.mem_cons.1 hx with rfl | hx
   ·have:=ha.fit hf hx0;rw [q2 _ this];exact this
   ·exact q3 x hx hx0
  ·rw [if_neg hf] at h;cases h
theorem plain_in (hr:rowOk t r=true) (hv:t.vars.length≤40) (hins:∀ i,0≤ins.getD i 0∧ins.getD i 0 < t.states) (h:plainK t r ins=some s):inR t s:=by
 unfold plainK at h;obtain ⟨b',hb',rfl⟩:=Option.map_eq_some_iff.1 h;obtain ⟨_,_,_,he⟩:=rowOk_parts hr;obtain ⟨q1,_,q3⟩:=go_out hv hins _ _ _ _ (noneB_ok t) he hb';exact out_in q1 hr hv q3
theorem least_in {acc:Option Int} {n:Int} (ha:∀ m,acc=some m→inR t m) (hn:inR t n):∀ m,least acc n=some m→inR t m:=fun m hm=>by
 unfold least at hm;split at hm
 ·cases hm;exact hn
 ·rename_i k
  cases hm
  split
  ·exact hn
  ·exact ha _ rfl
theorem place_in {c:Int} (hr:rowOk t r=true) (hv:t.vars.length≤40) (hl:ins.length=r.ins.length) (hins:∀ i,0≤ins.getD i 0∧ins.getD i 0 < t.states):∀ (f i:Nat) (b:List Int) (used:List Bool) (acc:Option Int),BOk t b→(∀ j,j < r.ins.length→(j < i∨(j:Int)=c)→r.ins.getD j 0 < 0→0≤b.getD (vix (r.ins.getD j 0)) 0)→(∀ m,acc=some m→inR t m)→i≤ins.length→∀ m,placeK t r ins c f i b used acc=some m→inR t m
 | 0,i,b,used,acc,_,_,ha,_,m,hm=>ha m (by simpa [placeK] using hm)
 | f+1,i,b,used,acc,hb,hd,ha,hi,m,hm=>by
  obtain ⟨_,_,_,he⟩:=rowOk_parts hr;unfold placeK at hm;by_cases h1:i=ins.length
  ·rw [if_pos h1] at hm;refine least_in ha (out_in hb hr hv fun e hem h0=>?_) m hm;obtain ⟨j,hj,rfl⟩:=List.getElem_of_mem hem;have:=hd j hj (.inl (by omega));rw [List.getD_eq_getElem?_getD,List.getElem?_eq_getElem hj,Option.getD_some] at this;exact this h0
  ·rw [if_neg h1] at hm;by_cases h2:(i:Int)=c
   ·rw [if_pos h2] at hm;exact place_in hr hv hl hins f (i+1) b used acc hb (fun j hj q=>hd j hj (by omega)) ha (by omega) m hm
   ·rw [if_neg h2] at hm
    have hei:elemOk t (r.ins.getD i 0)=true:=by
     rw [List.getD_eq_getElem?_getD,List.getElem?_eq_getElem (by omega),Option.getD_some];exact he _ (List.getElem_mem _)
    have key:∀ (l:List Nat) (q:Int × Option Int),(∀ m,q.2=some m→inR t m)→∀ m,(l.foldl (fun (q:Int × Option Int) (k:Nat)=>
     if (k:Int)=c∨used.getD k false=true∨hasBit q.1 (ins.getD k 0)=true then q
     else (putBit q.1 (ins.getD k 0),if (acceptK t b (r.ins.getD i 0) (ins.getD k 0)).2.1=true then placeK t r ins c f (i+1) (acceptK t b (r.ins.getD i 0) (ins.getD k 0)).1 (used.set k true) q.2 else q.2)) q).2=some m→inR t m:=by
     intro l
     induction l with
     | nil=>intro q hq m hm;exact hq m hm
     | cons k l ih=>
      intro q hq m hm;rw [List.foldl_cons] at hm;refine ih _ ?_ m hm;intro m' hm';split at hm'
      ·exact hq m' hm'
      ·dsimp only at hm';split at hm'
       ·rename_i hf
        have hao:=accept_out (s:=ins.getD k 0) hb hei hv (hins k);refine place_in hr hv hl hins f (i+1) _ _ _ hao.ok (fun j hj q' h0=>?_) hq (by omega) m' hm';by_cases e:j=i
        ·subst e;exact hao.fit hf h0
        ·have:=hd j hj (q'.imp (by omega) id) h0;rw [hao.mono _ this];exact this
       ·exact hq m' hm'
    exact key _ (0,acc) ha m hm
theorem centre_lt {l:List Pt} (hc:0≤centreK l):(centreK l).toNat < l.length:=by
 unfold centreK at hc ⊢;by_cases h1:hoodOk l=true
 ·rw [if_pos h1] at hc ⊢
  cases h2:idxPt l ⟨0,0⟩ with
  | none=>rw [h2] at hc;simp at hc
  | some i=>
   have:=(List.findIdx?_eq_some_iff_getElem.1 h2).1
   simpa using this
 ·rw [if_neg h1] at hc;omega
theorem perm_in (hr:rowOk t r=true) (hv:t.vars.length≤40) (hl:ins.length=t.hood.length) (hins:∀ i,0≤ins.getD i 0∧ins.getD i 0 < t.states) (h:permK t r ins=some s):inR t s:=by
 obtain ⟨hrl,_,_,he⟩:=rowOk_parts hr;unfold permK at h;by_cases hc:0≤centreK t.hood
 ·rw [if_pos hc] at h;have hcl:(centreK t.hood).toNat < r.ins.length:=by rw [hrl];exact centre_lt hc
  have hec:elemOk t (r.ins.getD (centreK t.hood).toNat 0)=true:=by
   rw [List.getD_eq_getElem?_getD,List.getElem?_eq_getElem hcl,Option.getD_some];exact he _ (List.getElem_mem _)
  have hao:=accept_out (s:=ins.getD (centreK t.hood).toNat 0) (noneB_ok t) hec hv (hins _);by_cases hf:(acceptK t noneB (r.ins.getD (centreK t.hood).toNat 0) (ins.getD (centreK t.hood).toNat 0)).2.1=true
  ·rw [if_pos hf] at h
   exact place_in hr hv (by omega) hins _ _ _ _ _ hao.ok (fun j hj q h0=>by
    have hjc:j=(centreK t.hood).toNat:=by rcases q with q | q <;> omega
    subst hjc;exact hao.fit hf h0) (fun m hm=>by cases hm) (Nat.zero_le _) s h
  ·rw [if_neg hf] at h;cases h
 ·rw [if_neg hc] at h;exact place_in hr hv (by omega) hins _ _ _ _ _ (noneB_ok t) (fun j hj q h0=>by rcases q with q | q <;> omega) (fun m hm=>by cases hm) (Nat.zero_le _) s h
theorem decide_in (hr:rowOk t r=true) (hv:t.vars.length≤40) (h2:2≤t.states) (hl:ins.length=t.hood.length) (hins:∀ i,0≤ins.getD i 0∧ins.getD i 0 < t.states) (h:decideK t r ins=some s):inR t s:=by
 unfold decideK at h;by_cases h3:t.sym=3
 ·rw [if_pos h3] at h;exact perm_in hr hv hl hins h
 ·rw [if_neg h3] at h
  have hturn:∀ k i,0≤(turnK t k ins).getD i 0∧(turnK t k ins).getD i 0 < t.states:=fun k i=>by
   unfold turnK;rw [List.getD_eq_getElem?_getD,List.getElem?_map]
   cases t.hood[i]? with
   | none=>simp;omega
   | some q=>exact hins _
  have key:∀ (l:List Nat) (acc:Option Int),(∀ m,acc=some m→inR t m)→∀ m,l.foldl (fun (acc:Option Int) (k:Nat)=>match plainK t r (turnK t k ins) with | some s=>least acc s | none=>acc) acc=some m→inR t m:=by
   intro l
   induction l with
   | nil=>intro acc ha m hm;exact ha m hm
   | cons k l ih=>
    intro acc ha m hm;rw [List.foldl_cons] at hm;refine ih _ ?_ m hm;intro m' hm';split at hm'
    ·rename_i s' hs'
     exact least_in ha (plain_in hr hv (hturn k) hs') m' hm'
    ·exact ha m' hm'
  exact key _ none (fun m hm=>by cases hm) s h
theorem stOk_all (hs:ins.all (stOk t)=true) (h2:2≤t.states) (i:Nat):0≤ins.getD i 0∧ins.getD i 0 < t.states:=by
 rw [List.getD_eq_getElem?_getD]
 cases hi:ins[i]? with
 | none=>simp;omega
 | some s=>
  rw [List.all_eq_true] at hs;exact of_decide_eq_true (hs s (List.mem_of_getElem? hi))
theorem value_in (hr:rightK t=true) (hl:ins.length=t.hood.length) (hs:ins.all (stOk t)=true):inR t (valueK t ins):=by
 unfold rightK headK at hr;simp only [Bool.and_eq_true,decide_eq_true_eq,List.all_eq_true] at hr;obtain ⟨⟨⟨h2,_⟩,_,_,hv,_⟩,_,hrows⟩:=hr;have hins:=stOk_all hs h2
 have key:∀ (l:List Rw),(∀ r ∈ l,rowOk t r=true)→∀ m,rowsK t ins l=some m→inR t m:=by
  intro l
  induction l with
  | nil=>intro _ m hm;cases hm
  | cons r l ih=>
   intro hl' m hm;unfold rowsK at hm;split at hm
   ·rename_i s' hs'
    cases hm
    exact decide_in (hl' r (by simp)) hv h2 hl hins hs'
   ·exact ih (fun r' hr'=>hl' r' (by simp [hr'])) m hm
 unfold valueK;split
 ·rename_i s' hs';exact key _ hrows _ hs'
 ·split
  ·exact hins _
  ·exact ⟨by omega,by omega⟩
end
end KT
end Go.Proofs.YtbijfnbelkbofaaGreatDoor
namespace Go.Proofs.YtbijfnbelkbofaaGreatDoor
open Go.RowKit
set_option maxHeartbeats 400000 in
theorem index_ints (A:Option Addr) (n c:Nat) (zs:List Int) (x:Int) (w:World) (hr:Rd w w.heap.size 1 A n (ints zs)) (hbig:n≤9223372036854775807):
 Calls Tryz.prog 107 #[.slice A n c,.int .i64 x] w fun e w'=>e=.returned (.int .i64 (findI (fun y=>x == y) zs))∧w'=w:=by
 have hl:zs.length=n:=by have:=hr.1;simpa using this
 have HL:=hiD hl;have HR:=hiD hr;clear hl hr;go_enter Tryz.func107,Tryz.ntmps107;go_wp2
 go_loopg [5,8] n (fun gg _ s8 wr=>∃ kk:Nat,kk≤n∧n - kk≤gg∧s8=.int .i64 kk∧w=wr∧Aside (∀ j,j < kk→(x == zs.getD j 0)=false))
 case atStart=>exact ⟨0,Nat.zero_le _,by omega,rfl,rfl,fun j hj=>absurd hj (Nat.not_lt_zero _)⟩
 case round=>
  obtain ⟨kk,hkk,hg,rfl,rfl,AA⟩:=hrel;by_cases hlt:kk < n
  ·have hltz:(kk:Int) < (n:Int):=by omega
   obtain ⟨ad,rfl,hb,hcell⟩:=HR.out.int hlt;generalize hy:zs.getD kk 0=y at hcell;have HY:Aside (zs.getD kk 0=y):=hy;clear hy
   cases hq:(x == y) with
   | true=>
    have HQ:=hiU hq;have hd:decide (x=y)=true:=by simpa using hq
    go_wp2;go_ret;refine ⟨?_,rfl⟩;rw [findI_hit _ zs kk (by rw [HL.out];exact hlt) (by simp only [HY.out];exact HQ.out ()) AA.out];rfl
   | false=>
    have HQ:=hiU hq;have hd:decide (x=y)=false:=by simpa using hq
    go_wp2;go_roundg (n - (kk+1))
    case measure=>omega
    case rel=>
     refine ⟨kk+1,by omega,by omega,by go_num,rfl,(show Aside _ from fun j hj=>?_)⟩;by_cases e:j=kk
     ·subst e;rw [HY.out];exact HQ.out ()
     ·exact AA.out j (by omega)
  ·have hltz:¬ (kk:Int) < (n:Int):=by omega
   have:kk=n:=by omega
   subst this;go_wp2;go_ret;refine ⟨?_,rfl⟩;rw [findI_miss _ zs (fun j hj=>AA.out j (by rw [HL.out] at hj;exact hj))];rfl
set_option maxHeartbeats 400000 in
theorem contains_ints (A:Option Addr) (n c:Nat) (zs:List Int) (x:Int) (w:World) (hr:Rd w w.heap.size 1 A n (ints zs)) (hbig:n≤9223372036854775807):
 Calls Tryz.prog 59 #[.slice A n c,.int .i64 x] w fun e w'=>e=.returned (.bool (zs.contains x))∧w'=w:=by
 have HC:=hiD (index_ints A n c zs x w hr hbig)
 have HE:Hid (decide (0≤findI (fun y=>x == y) zs)=zs.contains x):=by
  show _=_;rw [findI_nonneg,List.contains_eq_any_beq]
 clear hr;revert HC HE;generalize findI (fun y=>x == y) zs=v;intro HC HE;go_enter Tryz.func59,Tryz.ntmps59;go_wp2_with fail;refine HC.out.mono ?_;rintro e w' ⟨rfl,rfl⟩;go_wp2;go_ret;rw [← HE.out];exact ⟨rfl,rfl⟩
end Go.Proofs.YtbijfnbelkbofaaGreatDoor
namespace Go.Proofs.YtbijfnbelkbofaaGreatDoor
open Go.RowKit
structure Kept (S:Nat→Prop) (w w':World):Prop where
 os:w'.os=w.os
 tape:w'.tape=w.tape
 output:w'.output=w.output
 size:w.heap.size≤w'.heap.size
 block:∀ k,k < w.heap.size→¬ S k→w'.heap[k]?=w.heap[k]?
section
variable {S S':Nat→Prop} {a b c w w':World}
theorem Kept.refl (S:Nat→Prop) (w:World):Kept S w w:=⟨rfl,rfl,rfl,Nat.le_refl _,fun _ _ _=>rfl⟩
theorem Kept.trans (h:Kept S a b) (k:Kept S' b c) (hS:∀ k,k < a.heap.size→S' k→S k):Kept S a c:=
 ⟨k.os.trans h.os,k.tape.trans h.tape,k.output.trans h.output,Nat.le_trans h.size k.size,fun i hi hr=>(k.block i (Nat.lt_of_lt_of_le hi h.size) (fun e=>hr (hS i hi e))).trans (h.block i hi hr)⟩
theorem Kept.ofBelow (h:Below w.heap.size w w'):Kept S w w':=⟨h.os,h.tape,h.output,h.size,fun k hk _=>h.block k hk⟩
theorem Kept.wide (h:Kept S w w') (hS:∀ k,S k→S' k):Kept S' w w':=⟨h.os,h.tape,h.output,h.size,fun k hk hs=>h.block k hk (fun e=>hs (hS k e))⟩
theorem Kept.set (h:Kept S a w) {p:Addr} (hp:S p.block∨a.heap.size≤p.block) (u:Value):Kept S a (w.setCell p u):=
 ⟨h.os,h.tape,h.output,by rw [World.size_setCell];exact h.size,fun k hk hs=>(Below.heap_setCell w p u k (fun e=>by
  subst e;rcases hp with hp | hp
  ·exact hs hp
  ·omega)).trans (h.block k hk hs)⟩
theorem Kept.alloc (h:Kept S a w) (o:Obj):Kept S a (w.alloc o):=h.trans (Kept.ofBelow (S:=S) ((Below.refl _ _).alloc (Nat.le_refl _) o)) (fun _ _ h=>h)
theorem Kept.row {g:Nat} {T:TypeId} {xs:List Value} (h:Kept S w w') (hr:Row w g T xs) (hg:¬ S g):Row w' g T xs:=(h.block g hr.lt hg).trans hr
theorem Kept.cell (h:Kept S w w') {p:Addr} (hp:p.block < w.heap.size) (hs:¬ S p.block):w'.cell? p=w.cell? p:=World.cell?_of_block (w:=w) (h.block p.block hp hs)
theorem Kept.below (h:Kept S w w') {B:Nat} (hS:∀ k,S k→B≤k) (hB:B≤w.heap.size):Below B w w':=
 ⟨h.os,h.tape,h.output,h.size,fun k hk=>h.block k (Nat.lt_of_lt_of_le hk hB) (fun e=>Nat.lt_irrefl _ (Nat.lt_of_lt_of_le hk (hS k e)))⟩
end
def BAt (w:World) (g:Nat) (b:List Int):Prop:=Row w g 251 (ints b)
section
variable {w w':World} {g:Nat} {b:List Int}
theorem BAt.cell (h:BAt w g b) {i:Nat} (hi:i < b.length):w.cell? ⟨g,i,none⟩=some (.int .i64 (b.getD i 0)):=by
 rw [Row.cell h,ints_get b i hi]
theorem BAt.set (h:BAt w g b) (i:Nat) (z:Int):BAt (w.setCell ⟨g,i,none⟩ (.int .i64 z)) g (b.set i z):=by
 have:=Row.set h i (.int .i64 z);unfold BAt ints;rw [List.map_set];exact this
end
def noneAt (i:Nat):List Int:=List.replicate i (-1) ++ List.replicate (40 - i) 0
theorem noneAt_set {i:Nat} (h:i < 40):(noneAt i).set i (-1)=noneAt (i+1):=by
 unfold noneAt
 obtain ⟨m,hm⟩:∃ m,40 - i=m+1:=⟨40 - i - 1,by omega⟩
 rw [List.set_append_right _ _ (by simp),List.length_replicate,Nat.sub_self,hm,List.replicate_succ,List.set_cons_zero,show 40 - (i+1)=m by omega,List.replicate_succ',List.append_assoc];rfl
theorem noneAt_len {i:Nat} (h:i≤40):(noneAt i).length=40:=by simp [noneAt];omega
set_option maxHeartbeats 400000 in
theorem none_any (w:World):Calls Tryz.prog 177 #[] w fun e w'=>e=.returned (.pointer (some ⟨w.heap.size,0,none⟩))∧BAt w' w.heap.size KT.noneB∧Below w.heap.size w w':=by
 have HN:Hid (noneAt 40=KT.noneB):=rfl;go_enter Tryz.func177,Tryz.ntmps177;go_upto_region 2 with fail
 have HB1:Hid (Below w.heap.size w (World.alloc w (.cells #[.int .i64 0,.int .i64 0,.int .i64 0,.int .i64 0,.int .i64 0,.int .i64 0,.int .i64 0,.int .i64 0,.int .i64 0,.int .i64 0,.int .i64 0,.int .i64 0,.int .i64 0,.int .i64 0,.int .i64 0,.int .i64 0,.int .i64 0,.int .i64 0,.int .i64 0,.int .i64 0,.int .i64 0,.int .i64 0,.int .i64 0,.int .i64 0,.int .i64 0,.int .i64 0,.int .i64 0,.int .i64 0,.int .i64 0,.int .i64 0,.int .i64 0,.int .i64 0,.int .i64 0,.int .i64 0,.int .i64 0,.int .i64 0,.int .i64 0,.int .i64 0,.int .i64 0,.int .i64 0] 251))):=(show Below _ _ _ by go_grown)
 have RF1:Hid (BAt (World.alloc w (.cells #[.int .i64 0,.int .i64 0,.int .i64 0,.int .i64 0,.int .i64 0,.int .i64 0,.int .i64 0,.int .i64 0,.int .i64 0,.int .i64 0,.int .i64 0,.int .i64 0,.int .i64 0,.int .i64 0,.int .i64 0,.int .i64 0,.int .i64 0,.int .i64 0,.int .i64 0,.int .i64 0,.int .i64 0,.int .i64 0,.int .i64 0,.int .i64 0,.int .i64 0,.int .i64 0,.int .i64 0,.int .i64 0,.int .i64 0,.int .i64 0,.int .i64 0,.int .i64 0,.int .i64 0,.int .i64 0,.int .i64 0,.int .i64 0,.int .i64 0,.int .i64 0,.int .i64 0,.int .i64 0] 251)) w.heap.size (noneAt 0)):=Row.new w 251 (ints (noneAt 0));revert HB1 RF1;generalize World.alloc w (.cells #[.int .i64 0,.int .i64 0,.int .i64 0,.int .i64 0,.int .i64 0,.int .i64 0,.int .i64 0,.int .i64 0,.int .i64 0,.int .i64 0,.int .i64 0,.int .i64 0,.int .i64 0,.int .i64 0,.int .i64 0,.int .i64 0,.int .i64 0,.int .i64 0,.int .i64 0,.int .i64 0,.int .i64 0,.int .i64 0,.int .i64 0,.int .i64 0,.int .i64 0,.int .i64 0,.int .i64 0,.int .i64 0,.int .i64 0,.int .i64 0,.int .i64 0,.int .i64 0,.int .i64 0,.int .i64 0,.int .i64 0,.int .i64 0,.int .i64 0,.int .i64 0,.int .i64 0,.int .i64 0] 251)=w1;intro HB1 RF1;go_wp2
 go_loopg [2,3] 40 (fun gg _ s3 wr=>∃ i:Nat,i≤40∧40 - i≤gg∧s3=.int .i64 (i:Int)∧Aside (Below w.heap.size w wr∧BAt wr w.heap.size (noneAt i)))
 case atStart=>exact ⟨0,by omega,by omega,rfl,HB1.out,RF1.out⟩
 case round=>
  obtain ⟨i,hi,hgg,rfl,hv⟩:=hrel;have HB:=hiD hv.out.1;have RF:=hiD hv.out.2;clear hv;by_cases hlt:i < 40
  ·have hltz:(i:Int) < 40:=by omega
   have hnn:(0:Int)≤(i:Int):=by omega
   have k0:=RF.out.cell (i:=i) (by rw [noneAt_len hi];exact hlt);have kf:wr.frozen? ⟨w.heap.size,i,none⟩=false:=Row.frozen RF.out i;have kl:w.heap.size < wr.heap.size:=Row.lt RF.out;revert k0;generalize (noneAt i).getD i 0=z;intro k0;go_wp2;go_roundg (40 - (i+1))
   case measure=>omega
   case rel=>
    refine ⟨i+1,by omega,by omega,by go_num,(show _∧_ from ⟨HB.out.setCell (by show _≤w.heap.size;omega) _,?_⟩)⟩;rw [← noneAt_set hlt];exact RF.out.set i (-1)
  ·have hltz:¬ (i:Int) < 40:=by omega
   obtain rfl:i=40:=by omega
   go_wp2;go_ret;exact ⟨rfl,HN.out ▸ RF.out,HB.out⟩
theorem anyNot_stOk (t:KT.Tab) (l:List Int):(l.any fun x=>!KT.stOk t x)=!(l.all (KT.stOk t)):=by
 induction l with
 | nil=>rfl
 | cons a l ih=>rw [List.any_cons,List.all_cons,ih];cases KT.stOk t a <;> simp
set_option maxHeartbeats 400000 in
theorem statesPred_any (t:KT.Tab) (x:Int) (pb:Nat) (w:World) (h:w.cell? ⟨pb,0,none⟩=some (.int .i64 t.states)):
 Calls Tryz.prog 150 #[.int .i64 x,.pointer (some ⟨pb,0,none⟩)] w fun e w'=>e=.returned (.bool (!KT.stOk t x))∧w=w':=by
 by_cases q1:x < 0
 ·have HV:Hid (∀ _:Unit,(!KT.stOk t x)=true):=fun _=>by unfold KT.stOk;rw [decide_eq_false (by omega)];rfl
  have d1:decide (x < 0)=true:=decide_eq_true q1;go_enter Tryz.func150,Tryz.ntmps150;go_wp2;go_ret;exact ⟨ret_bool (HV.out ()).symm,rfl⟩
 ·have d1:decide (x < 0)=false:=decide_eq_false q1
  have HV:Hid (∀ _:Unit,(!KT.stOk t x)=decide (t.states≤x)):=fun _=>by
   unfold KT.stOk;by_cases h2:t.states≤x
   ·rw [decide_eq_false (by omega),decide_eq_true h2];rfl
   ·rw [decide_eq_true (by omega),decide_eq_false h2];rfl
  go_enter Tryz.func150,Tryz.ntmps150;go_wp2;go_ret;exact ⟨ret_bool (HV.out ()).symm,rfl⟩
set_option maxHeartbeats 1000000 in
theorem states_any (t:KT.Tab) (P:TP) (A:Option Addr) (n c:Nat) (l:List Int) (w:World) (h:Rd w w.heap.size 1 A n (ints l)) (hn:n≤maxLen):
 Calls Tryz.prog 123 #[.agg #[.int .i64 t.states,.int .i64 t.sym,.slice P.HA P.hn P.hc,.slice P.VA P.vn P.vc,.slice P.RA P.rn P.rc],.slice A n c] w fun e w'=>e=.returned (.bool (l.all (KT.stOk t)))∧Below w.heap.size w w':=by
 have H:=hiD h;have hm:=hn;unfold maxLen at hm;clear h hn;go_enter Tryz.func123,Tryz.ntmps123;go_wp2_with fail;refine (containsFunc_ints A n c l _ _ (fun x=>!KT.stOk t x) _ (enters Tryz.func150 (by kernel_rfl) rfl) (H.out.up (by go_grown)) (by omega) ?_).mono ?_
 ·intro W x hx hb;have h0:=Row.new w 60 [.int .i64 t.states,.int .i64 t.sym,.slice P.HA P.hn P.hc,.slice P.VA P.vn P.vc,.slice P.RA P.rn P.rc];refine (statesPred_any t x w.heap.size W (by rw [(rowCells h0 hb).cell];rfl)).mono ?_;rintro e w' ⟨rfl,rfl⟩;exact ⟨rfl,hb⟩
 rintro e w1 ⟨rfl,hb⟩;have HB:Hid (Below w.heap.size w w1):=below_next hb (by go_grown);clear hb;go_wp2;go_ret;exact ⟨ret_bool (by rw [anyNot_stOk];simp),HB.out⟩
structure AccPost (g:Nat) (b':List Int) (ok fresh:Bool) (w:World) (e:Ending) (w':World):Prop where
 ret:e=.returned (.tuple #[.bool ok,.bool fresh])
 bat:BAt w' g b'
 kept:Kept (·=g) w w'
set_option maxHeartbeats 1000000 in
theorem accept_any (t:KT.Tab) (P:TP) (g:Nat) (b:List Int) (e s:Int) (w:World) (h:TabAt w t P) (hb:BAt w g b) (hbl:b.length=40) (hv40:t.vars.length≤40) (he:e < 0→KT.vix e < t.vars.length) (hb64:-9223372036854775808≤e):
 Calls Tryz.prog 178 #[.pointer (some ⟨g,0,none⟩),.agg #[.int .i64 t.states,.int .i64 t.sym,.slice P.HA P.hn P.hc,.slice P.VA P.vn P.vc,.slice P.RA P.rn P.rc],.int .i64 e,.int .i64 s] w (AccPost g (KT.acceptK t b e s).1 (KT.acceptK t b e s).2.1 (KT.acceptK t b e s).2.2 w):=by
 obtain ⟨HA,hn,hc,VA,vn,vc,RA,rn,rc,vs,rs⟩:=P;dsimp only;have H:=hiD h;have HB:=hiD hb;have HVL:=hiD (show t.vars.length=vn from h.vl);clear h hb;go_enter Tryz.func178,Tryz.ntmps178;go_upto_region 1 with fail
 have HB1:Hid (Below w.heap.size w (World.alloc w (.cells #[.int .i64 t.states,.int .i64 t.sym,.slice HA hn hc,.slice VA vn vc,.slice RA rn rc] 60))):=(show Below _ _ _ by go_grown)
 have RF1:Hid (Row (World.alloc w (.cells #[.int .i64 t.states,.int .i64 t.sym,.slice HA hn hc,.slice VA vn vc,.slice RA rn rc] 60)) w.heap.size 60 [.int .i64 t.states,.int .i64 t.sym,.slice HA hn hc,.slice VA vn vc,.slice RA rn rc]):=Row.new w _ [.int .i64 t.states,.int .i64 t.sym,.slice HA hn hc,.slice VA vn vc,.slice RA rn rc];revert HB1 RF1;generalize (World.alloc w (.cells #[.int .i64 t.states,.int .i64 t.sym,.slice HA hn hc,.slice VA vn vc,.slice RA rn rc] 60))=w1;intro HB1 RF1;have BA1:Hid (BAt w1 g b):=rowCells HB.out HB1.out;by_cases h0:0≤e
 ·have HE:Hid (∀ _:Unit,KT.acceptK t b e s=(b,e == s,false)):=fun _=>by unfold KT.acceptK;rw [if_pos h0]
  go_wp2;go_ret2;rw [HE.out ()];exact ⟨rfl,BA1.out,Kept.ofBelow HB1.out⟩
 have hd0:decide (0≤e)=false:=decide_eq_false h0;have hi40:KT.vix e < 40:=by have:=he (by omega);omega
 have hw:IntKind.i64.wrap (-1 - e)=(KT.vix e:Int):=by rw [IntWalk.i64_in _ (by omega)];unfold KT.vix;omega
 have HLT:=hiD (he (by omega))
 have HE0:Hid (KT.acceptK t b e s=if 0≤b.getD (KT.vix e) 0 then (b,b.getD (KT.vix e) 0 == s,false) else if (t.vars.getD (KT.vix e) []).contains s=true then (b.set (KT.vix e) s,true,true) else (b,false,false)):=by
  show _=_;unfold KT.acceptK;rw [if_neg h0]
 clear he;have k0:=BA1.out.cell (i:=KT.vix e) (by omega);have kf:w1.frozen? ⟨g,KT.vix e,none⟩=false:=Row.frozen BA1.out _;have kl:g < w1.heap.size:=Row.lt BA1.out;revert hw k0 kf HLT HE0 hi40;generalize KT.vix e=v;generalize b.getD v 0=z;intro hi40 hw HLT HE0 k0 kf;have hv0:(0:Int)≤(v:Int):=by omega
 have hv4:(v:Int) < 40:=by omega
 by_cases hz:0≤z
 ·have HE:Hid (∀ _:Unit,KT.acceptK t b e s=(b,z == s,false)):=fun _=>by rw [HE0.out,if_pos hz]
  have hdz:decide (0≤z)=true:=decide_eq_true hz;go_wp2;go_ret2;rw [HE.out ()];exact ⟨rfl,BA1.out,Kept.ofBelow HB1.out⟩
 have hdz:decide (0≤z)=false:=decide_eq_false hz;obtain ⟨ad,hva,hb,g0,hrd,hql,hll⟩:=(H.out.up HB1.out).varAt (k:=v) (by dsimp only;have:=HLT.out;have:=HVL.out;omega);dsimp only at hva g0 hrd hql hll;subst hva;revert HLT HE0 g0 hrd hql hll;generalize t.vars.getD v []=L;generalize vs.getD v default=q;obtain ⟨qa,ql,qc⟩:=q;intro HLT HE0 g0 hrd hql hll;dsimp only at g0 hrd hql hll;have hvn:(v:Int) < (vn:Int):=by have:=HLT.out;have:=HVL.out;omega
 obtain ⟨j0,j1,j2,j3,j4,jl⟩:=RF1.out.cells5;have HC:=contains_ints qa ql qc L s w1 hrd (by unfold maxLen at hql;omega);clear hrd hql hll
 cases hcn:L.contains s with
 | false=>
  rw [hcn] at HC;have HC:=hiD HC;have HE:Hid (∀ _:Unit,KT.acceptK t b e s=(b,false,false)):=fun _=>by rw [HE0.out,if_neg hz,hcn];rfl
  clear hcn;go_wp2_with fail;refine HC.out.mono ?_;rintro e w2 ⟨rfl,hw2⟩;subst w2;go_wp2;go_ret2;rw [HE.out ()];exact ⟨rfl,BA1.out,Kept.ofBelow HB1.out⟩
 | true=>
  rw [hcn] at HC;have HC:=hiD HC;have HE:Hid (∀ _:Unit,KT.acceptK t b e s=(b.set v s,true,true)):=fun _=>by rw [HE0.out,if_neg hz,hcn];rfl
  clear hcn;go_wp2_with fail;refine HC.out.mono ?_;rintro e w2 ⟨rfl,hw2⟩;subst w2;go_wp2;go_ret2;rw [HE.out ()];exact ⟨rfl,BA1.out.set v s,Kept.set (S:=(·=g)) (Kept.ofBelow HB1.out) (p:=⟨g,v,none⟩) (.inl rfl) _⟩
set_option maxHeartbeats 1000000 in
theorem out_any (r:KT.Rw) (g:Nat) (b:List Int) (A:Option Addr) (n c:Nat) (w:World) (hb:BAt w g b) (hbl:b.length=40) (he:r.out < 0→KT.vix r.out < 40) (hb64:-9223372036854775808≤r.out):
 Calls Tryz.prog 180 #[.pointer (some ⟨g,0,none⟩),.agg #[.slice A n c,.int .i64 r.out]] w fun e w'=>e=.returned (.int .i64 (KT.outK b r))∧Below w.heap.size w w':=by
 have HB:=hiD hb;clear hb;go_enter Tryz.func180,Tryz.ntmps180;go_upto_region 1 with fail
 have HB1:Hid (Below w.heap.size w (World.alloc w (.cells #[.slice A n c,.int .i64 r.out] 179))):=(show Below _ _ _ by go_grown)
 have RF1:Hid (Row (World.alloc w (.cells #[.slice A n c,.int .i64 r.out] 179)) w.heap.size 179 [.slice A n c,.int .i64 r.out]):=Row.new w _ [.slice A n c,.int .i64 r.out];revert HB1 RF1;generalize (World.alloc w (.cells #[.slice A n c,.int .i64 r.out] 179))=w1;intro HB1 RF1;have BA1:Hid (BAt w1 g b):=rowCells HB.out HB1.out;obtain ⟨j0,j1,jl⟩:=RF1.out.cells2;by_cases h0:0≤r.out
 ·have HE:Hid (∀ _:Unit,KT.outK b r=r.out):=fun _=>by unfold KT.outK;rw [if_pos h0]
  have hd0:decide (0≤r.out)=true:=decide_eq_true h0;go_wp2;go_ret;rw [HE.out ()];exact ⟨rfl,HB1.out⟩
 have hd0:decide (0≤r.out)=false:=decide_eq_false h0;have hi40:KT.vix r.out < 40:=he (by omega);have hw:IntKind.i64.wrap (-1 - r.out)=(KT.vix r.out:Int):=by rw [IntWalk.i64_in _ (by omega)];unfold KT.vix;omega
 have HE:Hid (∀ _:Unit,KT.outK b r=b.getD (KT.vix r.out) 0):=fun _=>by unfold KT.outK;rw [if_neg h0]
 clear he;have k0:=BA1.out.cell (i:=KT.vix r.out) (by omega);have kl:g < w1.heap.size:=Row.lt BA1.out;revert hi40 hw HE k0;generalize KT.vix r.out=v;generalize b.getD v 0=z;intro hi40 hw HE k0;have hv0:(0:Int)≤(v:Int):=by omega
 have hv4:(v:Int) < 40:=by omega
 go_wp2_with fail;go_quiet (fail);go_wp2;go_ret;rw [HE.out ()];exact ⟨rfl,below_drewN HB1.out _⟩
end Go.Proofs.YtbijfnbelkbofaaGreatDoor
namespace Go.Proofs.YtbijfnbelkbofaaGreatDoor
open Go.RowKit
structure TFr (B b:Nat) (w w':World):Prop where
 below:Below b w w'
 keep:∀ (k:Nat) (cs:Array Value) (T:TypeId) (fz:Nat × Nat),T≠27→(T=65→k < B)→w.heap[k]?=some (Obj.cells cs T fz)→w'.heap[k]?=some (Obj.cells cs T fz)
section
variable {B b:Nat} {w w1 w':World}
theorem TFr.refl (B b:Nat) (w:World):TFr B b w w:=⟨Below.refl _ _,fun _ _ _ _ _ _ h=>h⟩
theorem TFr.trans (h:TFr B b w w1) (k:TFr B b w1 w'):TFr B b w w':=⟨h.below.trans k.below,fun g cs T fz h1 h2 hh=>k.keep g cs T fz h1 h2 (h.keep g cs T fz h1 h2 hh)⟩
theorem TFr.drew (h:TFr B b w w1):TFr B b w w1.drew:=⟨h.below.drew,h.keep⟩
theorem TFr.alloc (h:TFr B b w w1) (hB:b≤w1.heap.size) (o:Obj):TFr B b w (w1.alloc o):=
 ⟨h.below.alloc hB o,fun g cs T fz h1 h2 hh=>by
  have:=h.keep g cs T fz h1 h2 hh
  rw [Below.heap_alloc w1 o g (heap_lt this)];exact this⟩
theorem TFr.set {xs:List Value} {p:Addr} (h:TFr B b w w1) (hr:Row w1 p.block 27 xs) (hB:b≤p.block) (u:Value):TFr B b w (w1.setCell p u):=
 ⟨h.below.setCell hB u,fun g cs T fz h1 h2 hh=>by
  have:=h.keep g cs T fz h1 h2 hh
  rw [Below.heap_setCell w1 p u g (fun e=>by
   subst e;unfold Row at hr;rw [hr] at this;injection this with this;injection this with _ ht
   exact h1 ht.symm)]
  exact this⟩
theorem TFr.ofBelow (h:Below w.heap.size w w') (hB:b≤w.heap.size):TFr B b w w':=
 ⟨h.mono hB,fun g cs T fz _ _ hh=>by rw [h.block g (heap_lt hh)];exact hh⟩
theorem TFr.grownN {sz n:Nat} {v:Value} {xs:List Value} (h:TFr B b w w1) (ho:w1.ownsRow B 65 sz v n xs) (hB:b≤B) (hS:b≤w1.heap.size) (hg:w1.grownBy w' v.ownBlock):TFr B b w w':=by
 refine ⟨h.below.grown hg hS (fun k hk=>Nat.le_trans hB (own_block_type ho hk).choose_spec.2),fun g cs T fz h1 h2 hh=>?_⟩;have:=h.keep g cs T fz h1 h2 hh
 rw [hg.block g (heap_lt this) (fun e=>by
  obtain ⟨cur,hc,hBg⟩:=own_block_type ho e.symm;rw [hc] at this;injection this with this;injection this with _ ht;have:=h2 ht.symm
  omega)]
 exact this
theorem TFr.own {base sz n:Nat} {e:TypeId} {v:Value} {xs:List Value} (h:TFr B b w w') (ho:w.ownsRow base e sz v n xs) (h1:e≠27) (h2:e≠65):w'.ownsRow base e sz v n xs:=
 ⟨ho.1,ho.2.imp id (fun ⟨g,cap,cur,a,c,d,r⟩=>⟨g,cap,cur,a,c,h.keep g cur e (0,0) h1 (fun e=>absurd e h2) d,r⟩)⟩
theorem TFr.row {g:Nat} {T:TypeId} {xs:List Value} (h:TFr B b w w') (hr:Row w g T xs) (h1:T≠27) (h2:T=65→g < B):Row w' g T xs:=h.keep g _ T (0,0) h1 h2 hr
end
theorem nodesCells_snoc (ns:List Nd) (sl:List Sl) (x:Nd) (s:Sl) (h:sl.length=ns.length):nodesCells (ns ++ [x]) (sl ++ [s])=nodesCells ns sl ++ [.int .i64 x.level,.slice s.at_ s.len s.cap]:=by
 unfold nodesCells;rw [List.zip_append h.symm,List.flatMap_append];rfl
theorem gsl_snoc (sl:List Sl) (s:Sl):(sl ++ [s]).getD sl.length default=s:=by
 rw [List.getD_eq_getElem?_getD,List.getElem?_append_right (Nat.le_refl _)];simp
theorem gsl_old (sl:List Sl) (s:Sl) (i:Nat) (h:i < sl.length):(sl ++ [s]).getD i default=sl.getD i default:=by
 rw [List.getD_eq_getElem?_getD,List.getElem?_append_left h,← List.getD_eq_getElem?_getD]
def NextAt (w:World) (ns:List Nd) (sl:List Sl) (q:Option Nat):Prop:=
 ∀ i,i < ns.length→w.ownsRow 0 3 1 (.slice (sl.getD i default).at_ (sl.getD i default).len (sl.getD i default).cap) (sl.getD i default).len (ints (ns.getD i default).next) ∧
  ∀ k,q=some k→(Value.slice (sl.getD i default).at_ (sl.getD i default).len (sl.getD i default).cap).ownBlock≠some k
def TSt (w:World) (B b:Nat) (st:Int) (hv:Value) (ns:List Nd) (q:Option Nat):Prop:=
 ∃ (v:Value) (sl:List Sl),Row w b 27 [.int .i64 st,hv,v]∧w.ownsRow B 65 2 v ns.length (nodesCells ns sl)∧sl.length=ns.length∧b≤B∧NextAt w ns sl q
section
variable {w w' w0:World} {B b:Nat} {st:Int} {hv:Value} {ns:List Nd} {q:Option Nat}
theorem NextAt.keep {sl:List Sl} (h:NextAt w ns sl q) (hk:∀ k cs,w.heap[k]?=some (Obj.cells cs 3 (0,0))→(∀ i,i < ns.length→(Value.slice (sl.getD i default).at_ (sl.getD i default).len (sl.getD i default).cap).ownBlock=some k→w'.heap[k]?=some (Obj.cells cs 3 (0,0)))):NextAt w' ns sl q:=by
 intro i hi;obtain ⟨h1,h2⟩:=h i hi;refine ⟨⟨h1.1,h1.2.imp id (fun ⟨g,cap,cur,a,c,d,r⟩=>⟨g,cap,cur,a,c,hk g cur d i hi (by rw [a];rfl),r⟩)⟩,h2⟩
theorem TSt.new (w:World) (st:Int) (hv:Value) (q:Option Nat) {b B:Nat} (hr:Row w b 27 [.int .i64 st,hv,.slice none 0 0]) (hB:b≤B):TSt w B b st hv [] q:=
 ⟨_,[],hr,World.ownsRow_nil _ _ _ _,rfl,hB,fun i hi=>absurd hi (Nat.not_lt_zero _)⟩
theorem TSt.blk (h:TSt w B b st hv ns q):b < w.heap.size∧b≤B:=by
 obtain ⟨v,sl,h1,_,_,h3,_⟩:=h;exact ⟨h1.lt,h3⟩
theorem TSt.op (h:TSt w B b st hv ns q):∃ NA nc sl,Row w b 27 [.int .i64 st,hv,.slice NA ns.length nc]∧w.ownsRow B 65 2 (.slice NA ns.length nc) ns.length (nodesCells ns sl)∧sl.length=ns.length∧b≤B∧NextAt w ns sl q:=by
 obtain ⟨v,sl,h1,h2,h3,h4,h5⟩:=h;obtain ⟨NA,nc,rfl,_⟩:=Rd.own h2;exact ⟨NA,nc,sl,h1,h2,h3,h4,h5⟩
theorem TSt.keepAll (h:TSt w B b st hv ns q) (hb:∀ k,k < w.heap.size→w'.heap[k]?=w.heap[k]?):TSt w' B b st hv ns q:=by
 obtain ⟨v,sl,h1,h2,h3,h4,h5⟩:=h;exact ⟨v,sl,(hb b h1.lt).trans h1,⟨h2.1,h2.2.imp id (fun ⟨g,cap,cur,a,b',c,d⟩=>⟨g,cap,cur,a,b',(hb g (heap_lt c)).trans c,d⟩)⟩,h3,h4,h5.keep (fun k cs hk _ _ _=>(hb k (heap_lt hk)).trans hk)⟩
theorem TSt.below (h:TSt w B b st hv ns q) (hb:Below w.heap.size w w'):TSt w' B b st hv ns q:=h.keepAll hb.block
theorem TSt.alloc (h:TSt w B b st hv ns q) (o:Obj):TSt (w.alloc o) B b st hv ns q:=h.keepAll (fun k hk=>Below.heap_alloc w o k hk)
theorem TSt.drew (h:TSt w B b st hv ns q):TSt w.drew B b st hv ns q:=h
theorem TSt.free (h:TSt w B b st hv ns q):TSt w B b st hv ns none:=by
 obtain ⟨v,sl,h1,h2,h3,h4,h5⟩:=h;exact ⟨v,sl,h1,h2,h3,h4,fun i hi=>⟨(h5 i hi).1,fun k hk=>by cases hk⟩⟩
theorem TSt.push {v v':Value} {n:Nat} {x:Nd} {s:Sl} {sl:List Sl} (hr:Row w b 27 [.int .i64 st,hv,v]) (ho:w.ownsRow B 65 2 v n (nodesCells ns sl)) (hn:ns.length=n) (hsl:sl.length=ns.length) (hB:b≤B) (hx:NextAt w ns sl q)
 (hs:w.ownsRow 0 3 1 (.slice s.at_ s.len s.cap) s.len (ints x.next)) (hq:∀ k,q=some k→(Value.slice s.at_ s.len s.cap).ownBlock≠some k) (hg:w.grownBy w' v.ownBlock)
 (ho':w'.ownsRow B 65 2 v' (n+1) (nodesCells ns sl ++ [.int .i64 x.level,.slice s.at_ s.len s.cap])) (hF:TFr B b w0 w):
 Row w' b 27 [.int .i64 st,hv,v]∧TSt (w'.setCell ⟨b,2,none⟩ v') B b st hv (ns ++ [x]) q∧TFr B b w0 (w'.setCell ⟨b,2,none⟩ v')∧TFr B b w0 w':=by
 have hbl:=hr.lt;have r1:Row w' b 27 [.int .i64 st,hv,v]:=hr.grown hg (fun e=>(own_ne_row ho hr (by decide)) e.symm);have f1:TFr B b w0 w':=TFr.grownN hF ho hB (by omega) hg;have f2:TFr B b w w':=TFr.grownN (TFr.refl _ _ _) ho hB (by omega) hg;have f3:TFr B b w (w'.setCell ⟨b,2,none⟩ v'):=TFr.set (p:=⟨b,2,none⟩) f2 r1 (Nat.le_refl _) _;refine ⟨r1,⟨v',sl ++ [s],r1.set 2 v',?_,?_,hB,?_⟩,TFr.set (p:=⟨b,2,none⟩) f1 r1 (Nat.le_refl _) _,f1⟩
 ·rw [nodesCells_snoc _ _ _ _ hsl,List.length_append,List.length_singleton,hn];exact own_set (p:=⟨b,2,none⟩) ho' r1 (by decide) v'
 ·rw [List.length_append,List.length_append,hsl];rfl
 ·intro i hi;rw [List.length_append,List.length_singleton] at hi;by_cases e:i < ns.length
  ·rw [(prefOf.snoc ns x).get i e,gsl_old sl s i (by omega)];exact ⟨f3.own (hx i e).1 (by decide) (by decide),(hx i e).2⟩
  ·obtain rfl:i=ns.length:=by omega
   rw [gnd_snoc];have e2:(sl ++ [s]).getD ns.length default=s:=by rw [← hsl];exact gsl_snoc sl s
   rw [e2];exact ⟨f3.own hs (by decide) (by decide),hq⟩
end
def TPost (t:Tre) (k:Int) (w:World) (e:Ending) (w':World):Prop:=∃ HA NA hn hc nn nc sl,e=.returned (.tuple #[.agg #[.int .i64 t.states,.slice HA hn hc,.slice NA nn nc],.int .i64 k])∧TAt w' t HA NA hn nn sl∧Below w.heap.size w w'
theorem noTre_at (w:World):TAt w noTre none none 0 0 []:=⟨Rd.empty _,Rd.empty _,rfl,fun i hi=>absurd hi (Nat.not_lt_zero _),by unfold maxLen;omega,by unfold maxLen;omega⟩
theorem tpost_err {t:Tre} {k:Int} {w w':World} (h:t=noTre) (hb:Below w.heap.size w w'):TPost t k w (.returned (.tuple #[.agg #[.int .i64 0,.slice none 0 0,.slice none 0 0],.int .i64 k])) w':=by
 subst h;exact ⟨none,none,0,0,0,0,[],rfl,noTre_at _,hb⟩
end Go.Proofs.YtbijfnbelkbofaaGreatDoor
