/-
 A part.
-/
import Derived.Test.YtiemhbogbaamlaaYF4
import Derived.Test.YtiemhbogbaamlaaYF3
set_option linter.unusedSimpArgs false
set_option linter.unusedVariables false
namespace Go.Proofs.Ytiemhbogbaamlaa
open Go.RowKit
theorem evalB_congr {op:Int} (ho:op=0∨op=1∨op=2∨op=3∨op=4∨op=5) {x x' y y':Bool} (hx:2≤op→x=x') (hy:3≤op→y=y'):evalB op x y=evalB op x' y':=by
 rcases ho with rfl | rfl | rfl | rfl | rfl | rfl
 ·rfl
 ·rfl
 ·rw [hx (by omega)];rfl
 ·rw [hx (by omega),hy (by omega)]
 ·rw [hx (by omega),hy (by omega)]
 ·rw [hx (by omega),hy (by omega)]
theorem V_at {N:Nat} {vs:List Bool} (hv:vs.length=N) {gs:List Gt} {j:Nat} (hj:j < gs.length) (hg:gateOk ((N:Int)+(j:Int)) (gs.getD j default)=true):
 V vs gs ((N:Int)+(j:Int))=evalB (gs.getD j default).op (V vs gs (gs.getD j default).a) (V vs gs (gs.getD j default).b):=by
 have ht:=take_snoc_getD gs j hj
 have hl:(gs.take j).length=j:=by rw [List.length_take];omega
 have he:Ext (gs.take j ++ [gs.getD j default]) gs:=⟨gs.drop (j+1),by rw [← ht,List.take_append_drop]⟩
 have he0:Ext (gs.take j) gs:=⟨gs.drop j,by rw [List.take_append_drop]⟩
 have hw:okW N (gs.take j ++ [gs.getD j default]) ((N:Int)+(j:Int)):=by
  unfold okW;rw [List.length_append,hl,List.length_singleton];omega
 rw [V_ext hv he hw]
 have e1:(N:Int)+(j:Int)=wireF N (gs.take j):=by unfold wireF;rw [hl]
 rw [e1,V_new _ _ hv]
 obtain ⟨ho,ha,hb,_,_⟩:=gateOk_parts hg
 refine evalB_congr ho (fun h=>?_) (fun h=>?_)
 ·exact (V_ext hv he0 (by have:=ha h;unfold okW;rw [hl];omega)).symm
 ·exact (V_ext hv he0 (by have:=hb h;unfold okW;rw [hl];omega)).symm
theorem moveG_op (to:List Int) (g:Gt):(moveG to g).op=g.op:=rfl
theorem moveG_a {to:List Int} {g:Gt} (ho:g.op=0∨g.op=1∨g.op=2∨g.op=3∨g.op=4∨g.op=5) (h:2≤g.op):(moveG to g).a=toAt to g.a:=by
 show (if _ then _ else _)=_
 rw [if_pos]
 rw [operandsO_of ho,if_neg (by omega)];split <;> omega
theorem moveG_b {to:List Int} {g:Gt} (ho:g.op=0∨g.op=1∨g.op=2∨g.op=3∨g.op=4∨g.op=5) (h:3≤g.op):(moveG to g).b=toAt to g.b:=by
 show (if _ then _ else _)=_
 rw [if_pos]
 rw [operandsO_of ho,if_neg (by omega),if_neg (by omega)]
theorem moveG_a0 {to:List Int} {g:Gt} (ho:g.op=0∨g.op=1∨g.op=2∨g.op=3∨g.op=4∨g.op=5) (h:g.op < 2):(moveG to g).a=g.a:=by
 show (if _ then _ else _)=_
 rw [if_neg]
 rw [operandsO_of ho,if_pos h];omega
theorem moveG_b0 {to:List Int} {g:Gt} (ho:g.op=0∨g.op=1∨g.op=2∨g.op=3∨g.op=4∨g.op=5) (h:g.op < 3):(moveG to g).b=g.b:=by
 show (if _ then _ else _)=_
 rw [if_neg]
 rw [operandsO_of ho];split <;> omega
section
variable {N:Nat} {vs:List Bool} {gs:List Gt}
theorem isW_V (hv:vs.length=N) (hs:GsOk N gs) {x op:Int} (h:isW N gs x op=true) (hx:x < (N:Int)+(gs.length:Int)):∃ y z:Bool,V vs gs x=evalB op y z∧(2≤op→y=V vs gs (argW N gs x)):=by
 obtain ⟨j,rfl,hj,ho,ha⟩:=isW_gate h hx
 refine ⟨_,_,(V_at hv hj (hs j hj)).trans (by rw [ho]),fun _=>by rw [ha]⟩
theorem isW_0 (hv:vs.length=N) (hs:GsOk N gs) {x:Int} (h:isW N gs x 0=true) (hx:x < (N:Int)+(gs.length:Int)):V vs gs x=false:=by
 obtain ⟨y,z,e,_⟩:=isW_V hv hs h hx
 exact e
theorem isW_1 (hv:vs.length=N) (hs:GsOk N gs) {x:Int} (h:isW N gs x 1=true) (hx:x < (N:Int)+(gs.length:Int)):V vs gs x=true:=by
 obtain ⟨y,z,e,_⟩:=isW_V hv hs h hx
 exact e
theorem isW_2 (hv:vs.length=N) (hs:GsOk N gs) {x:Int} (h:isW N gs x 2=true) (hx:x < (N:Int)+(gs.length:Int)):V vs gs x=!V vs gs (argW N gs x):=by
 obtain ⟨y,z,e,e2⟩:=isW_V hv hs h hx
 rw [e,e2 (by omega)];rfl
theorem oppW_V (hv:vs.length=N) (hs:GsOk N gs) {x y:Int} (h:oppW N gs x y=true) (hx:x < (N:Int)+(gs.length:Int)) (hy:y < (N:Int)+(gs.length:Int)):V vs gs x=!V vs gs y:=by
 unfold oppW negW at h
 rw [Bool.or_eq_true,Bool.and_eq_true,Bool.and_eq_true,decide_eq_true_iff,decide_eq_true_iff] at h
 rcases h with ⟨h1,h2⟩ | ⟨h1,h2⟩
 ·rw [isW_2 hv hs h1 hx,h2]
 ·rw [isW_2 hv hs h1 hy,h2,Bool.not_not]
def FVal (vs:List Bool) (gs:List Gt) (p:Gt × Int) (v:Bool):Prop:=if p.2 < 0 then evalB p.1.op (V vs gs p.1.a) (V vs gs p.1.b)=v else V vs gs p.2=v
theorem FVal.gate {g:Gt} {v:Bool} (h:evalB g.op (V vs gs g.a) (V vs gs g.b)=v):FVal vs gs (g,-1) v:=by unfold FVal;rw [if_pos (by show (-1:Int) < 0;decide)];exact h
theorem FVal.congr {p:Gt × Int} {v v':Bool} (h:FVal vs gs p v) (e:v=v'):FVal vs gs p v':=e ▸ h
theorem FVal.wire {g:Gt} {z:Int} {v:Bool} (hz:0≤z) (h:V vs gs z=v):FVal vs gs (g,z) v:=by unfold FVal;rw [if_neg (by show ¬ z < 0;omega)];exact h
theorem notF_val (hv:vs.length=N) (hs:GsOk N gs) {a:Int} (ha:0≤a∧a < (N:Int)+(gs.length:Int)):FVal vs gs (notF N gs a) (!V vs gs a):=by
 unfold notF
 split
 ·rename_i h
  rw [isW_0 hv hs h ha.2];exact .gate rfl
 ·split
  ·rename_i h
   rw [isW_1 hv hs h ha.2];exact .gate rfl
  ·split
   ·rename_i h
    have:=argW_ok hs h ha.2
    rw [isW_2 hv hs h ha.2,Bool.not_not];exact .wire this.1 rfl
   ·exact .gate rfl
theorem foldG_val (hv:vs.length=N) (hs:GsOk N gs) {g:Gt} (hg:gateOk ((N:Int)+(gs.length:Int)) g=true):FVal vs gs (foldG N gs g) (evalB g.op (V vs gs g.a) (V vs gs g.b)):=by
 obtain ⟨ho,ha,hb,_,_⟩:=gateOk_parts hg
 obtain ⟨op,x,y⟩:=g
 dsimp only at ho ha hb ⊢
 unfold foldG
 dsimp only
 split
 ·rename_i h;subst h
  exact notF_val hv hs (ha (by omega))
 ·split
  ·rename_i _ h;subst h
   have hx:=ha (by omega)
   have hy:=hb (by omega)
   unfold eitherF
   dsimp only
   split
   ·rename_i h
    rw [Bool.or_eq_true] at h
    rcases h with h | h
    ·rw [isW_0 hv hs h hx.2];exact .gate rfl
    ·rw [isW_0 hv hs h hy.2];refine .gate ?_;show false=(_ && false);rw [Bool.and_false]
   ·split
    ·rename_i h
     rw [isW_1 hv hs h hx.2];exact .wire hy.1 rfl
    ·split
     ·rename_i h
      rw [Bool.or_eq_true,decide_eq_true_iff] at h
      rcases h with h | h
      ·rw [isW_1 hv hs h hy.2];refine .wire hx.1 ?_;show _=(_ && true);rw [Bool.and_true]
      ·subst h;refine .wire hx.1 ?_;show _=(_ && _);rw [Bool.and_self]
     ·split
      ·rename_i h
       rw [oppW_V hv hs h hx.2 hy.2];refine .gate ?_;show false=(_ && _);rw [Bool.not_and_self]
      ·exact .gate rfl
  ·split
   ·rename_i _ _ h;subst h
    have hx:=ha (by omega)
    have hy:=hb (by omega)
    unfold eitherF
    dsimp only
    split
    ·rename_i h
     rw [Bool.or_eq_true] at h
     rcases h with h | h
     ·rw [isW_1 hv hs h hx.2];exact .gate rfl
     ·rw [isW_1 hv hs h hy.2];refine .gate ?_;show true=(_ || true);rw [Bool.or_true]
    ·split
     ·rename_i h
      rw [isW_0 hv hs h hx.2];exact .wire hy.1 rfl
     ·split
      ·rename_i h
       rw [Bool.or_eq_true,decide_eq_true_iff] at h
       rcases h with h | h
       ·rw [isW_0 hv hs h hy.2];refine .wire hx.1 ?_;show _=(_ || false);rw [Bool.or_false]
       ·subst h;refine .wire hx.1 ?_;show _=(_ || _);rw [Bool.or_self]
      ·split
       ·rename_i h
        rw [oppW_V hv hs h hx.2 hy.2];refine .gate ?_;show true=(_ || _);rw [Bool.not_or_self]
       ·exact .gate rfl
   ·split
    ·rename_i _ _ _ h;subst h
     have hx:=ha (by omega)
     have hy:=hb (by omega)
     unfold xorF
     dsimp only
     split
     ·rename_i h
      rw [isW_0 hv hs h hx.2];refine .wire hy.1 ?_;show _=(false != _);rw [Bool.false_bne]
     ·split
      ·rename_i h
       rw [isW_0 hv hs h hy.2];refine .wire hx.1 ?_;show _=(_ != false);rw [Bool.bne_false]
      ·split
       ·rename_i h
        subst h;refine .gate ?_;show false=(_ != _);rw [bne_self_eq_false]
       ·split
        ·rename_i h
         rw [oppW_V hv hs h hx.2 hy.2];refine .gate ?_;show true=(_ != _);cases V vs gs y <;> rfl
        ·split
         ·rename_i h
          have e:evalB 5 (V vs gs x) (V vs gs y)=!V vs gs y:=by rw [isW_1 hv hs h hx.2];show (true != _)=_;cases V vs gs y <;> rfl
          rw [e];exact notF_val hv hs hy
         ·split
          ·rename_i h
           have e:evalB 5 (V vs gs x) (V vs gs y)=!V vs gs x:=by rw [isW_1 hv hs h hy.2];show (_ != true)=_;cases V vs gs x <;> rfl
           rw [e];exact notF_val hv hs hx
          ·exact .gate rfl
    ·exact .gate rfl
end
def SemOk (vs:List Bool) (P:Nat→Prop) (s:Wk) (gs:List Gt):Prop:=∀ w,w < s.to.length→P w→V vs s.gates (s.to.getD w 0)=V vs gs (w:Int)
section
variable {N:Nat} {vs:List Bool} {gs:List Gt} {P:Nat→Prop} {s:Wk}
theorem move_val (hsem:SemOk vs P s gs) {lim:Int} {g:Gt} (hg:gateOk lim g=true) (hl:lim≤(s.to.length:Int)) (hPa:2≤g.op→P g.a.toNat) (hPb:3≤g.op→P g.b.toNat):
 evalB (moveG s.to g).op (V vs s.gates (moveG s.to g).a) (V vs s.gates (moveG s.to g).b)=evalB g.op (V vs gs g.a) (V vs gs g.b):=by
 obtain ⟨ho,ha,hb,_,_⟩:=gateOk_parts hg
 rw [moveG_op]
 refine evalB_congr ho (fun h=>?_) (fun h=>?_)
 ·have:=ha h
  rw [moveG_a ho h]
  refine (hsem g.a.toNat (by omega) (hPa h)).trans ?_
  rw [Int.toNat_of_nonneg this.1]
 ·have:=hb h
  rw [moveG_b ho h]
  refine (hsem g.b.toNat (by omega) (hPb h)).trans ?_
  rw [Int.toNat_of_nonneg this.1]
theorem SemOk.add (hv:vs.length=N) (hsem:SemOk vs P s gs) (hok:WkOk N P s) (hl:s.to.length=N+gs.length) {p:Gt × Int} {g:Gt} (hp:-1≤p.2∧p.2 < (N:Int)+(s.gates.length:Int)) (h:FVal vs s.gates p (evalB g.op (V vs gs g.a) (V vs gs g.b))):SemOk vs P (addW N s p) (gs ++ [g]):=by
 intro w hw hP
 rw [(addW_len _ s p).2] at hw
 have hx:Ext s.gates (addW N s p).gates:=Ext.snoc _ _
 rcases Nat.lt_or_ge w s.to.length with h1 | h1
 ·rw [show (addW N s p).to.getD w 0=s.to.getD w 0 from snocZ_lt _ _ _ h1]
  have hb:=hok.tok w h1 hP
  rw [V_ext hv hx (by unfold okW;omega),V_ext hv (Ext.snoc gs g) (by unfold okW;omega)]
  exact hsem w h1 hP
 ·obtain rfl:w=s.to.length:=by omega
  rw [show (addW N s p).to.getD s.to.length 0=_ from snocZ_eq _ _ _]
  have e1:((s.to.length:Nat):Int)=wireF N gs:=by unfold wireF;omega
  rw [e1,V_new gs g hv]
  unfold FVal at h
  split at h
  ·rename_i hz
   rw [if_pos hz]
   exact (V_new s.gates p.1 hv).trans h
  ·rename_i hz
   rw [if_neg hz,V_ext hv hx (by unfold okW;omega)]
   exact h
end
theorem V_start {N:Nat} {vs:List Bool} (hv:vs.length=N) (P:Nat→Prop):SemOk vs P (startW N) []:=by
 intro w hw _
 have hw':w < N:=by simpa [startW] using hw
 rw [show (startW N).to.getD w 0=(w:Int) by simp [startW,List.getD_eq_getElem?_getD,List.getElem?_map,List.getElem?_range hw']]
 rfl
theorem done_sem {c:Circ} {s:Wk} {vs:List Bool} {P:Nat→Prop} (hr:rightC c=true) (hsem:SemOk vs P s c.gates) (hl:(s.to.length:Int)=c.inputs+(c.gates.length:Int)) (hP:∀ k,k < c.outs.length→P (c.outs.getD k 0).toNat):outsG evalB false (doneW c s) vs=outsG evalB false c vs:=by
 show (c.outs.map (toAt s.to)).map (fun o=>V vs s.gates o)=c.outs.map (fun o=>V vs c.gates o)
 rw [List.map_map]
 apply List.map_congr_left
 intro o ho
 obtain ⟨k,hk,rfl⟩:=List.getElem_of_mem ho
 have hb:=outOk_at (rightC_parts hr).2.2 hk
 have h3:=hP k hk
 have e:c.outs.getD k 0=c.outs[k]:=by rw [List.getD_eq_getElem?_getD,List.getElem?_eq_getElem hk];rfl
 rw [e] at hb h3
 show V vs s.gates (s.to.getD (c.outs[k]).toNat 0)=_
 rw [hsem _ (by omega) h3,Int.toNat_of_nonneg hb.1]
theorem fold_sem {c:Circ} (h:rightC c=true) {vs:List Bool} (hv:(vs.length:Int)=c.inputs):outsG evalB false (foldC c) vs=outsG evalB false c vs:=by
 obtain ⟨⟨h0,h1,_⟩,_⟩:=rightC_parts h
 obtain ⟨N,hN⟩:∃ N:Nat,c.inputs=(N:Int):=⟨c.inputs.toNat,by omega⟩
 have hvN:vs.length=N:=by omega
 have key:∀ k,k≤c.gates.length→SemOk vs (fun _=>True) (foldTo c k) (c.gates.take k):=fun k hk=>by
  induction k with
  | zero=>rw [foldTo,hN];exact V_start hvN _
  | succ k ih=>
   have hs:=foldTo_ok h k (by omega)
   obtain ⟨l1,l2⟩:=foldTo_len c k
   have hg:=gateAt_ok h (show k < c.gates.length by omega)
   have hm:=moveG_ok hs hg (by omega) (fun _=>trivial) (fun _=>trivial)
   obtain ⟨f1,f2,f3⟩:=foldG_ok hs.gok h0 hm
   rw [take_snoc_getD c.gates k (by omega),foldTo]
   rw [hN] at hs hm f2 f3 ⊢
   refine (ih (by omega)).add hvN hs (by rw [l2,List.length_take];omega) ⟨f2,f3⟩ ?_
   exact (foldG_val hvN hs.gok hm).congr (move_val (ih (by omega)) hg (by omega) (fun _=>trivial) (fun _=>trivial))
 rw [foldC,if_pos h]
 have:=key c.gates.length (Nat.le_refl _)
 rw [List.take_length] at this
 obtain ⟨l1,l2⟩:=foldTo_len c c.gates.length
 exact done_sem h this (by omega) (fun _ _=>trivial)
theorem evalB_swap {op:Int} (ho:op=0∨op=1∨op=2∨op=3∨op=4∨op=5) (h:3≤op) (x y:Bool):evalB op x y=evalB op y x:=by
 rcases ho with rfl | rfl | rfl | rfl | rfl | rfl
 ·omega
 ·omega
 ·omega
 ·show (x && y)=(y && x);rw [Bool.and_comm]
 ·show (x || y)=(y || x);rw [Bool.or_comm]
 ·show (x != y)=(y != x);rw [bne_comm]
theorem swapG_val {lim:Int} {g:Gt} (hg:gateOk lim g=true) (f:Int→Bool):evalB (swapG g).op (f (swapG g).a) (f (swapG g).b)=evalB g.op (f g.a) (f g.b):=by
 obtain ⟨ho,_⟩:=gateOk_parts hg
 unfold swapG
 split
 ·rename_i h
  have h2:=h.1
  rw [operandsO_of ho] at h2
  exact evalB_swap ho (by split at h2 <;> (try split at h2) <;> omega) _ _
 ·rfl
theorem knownW_val {N:Nat} {vs:List Bool} (hv:vs.length=N) {gs:List Gt} (hs:GsOk N gs) {g:Gt}:FVal vs gs (g,knownW N gs g) (evalB g.op (V vs gs g.a) (V vs gs g.b)):=by
 unfold knownW
 split
 ·rename_i k hk
  obtain ⟨hlt,he,_⟩:=List.findIdx?_eq_some_iff_getElem.1 hk
  have hg:gs.getD k default=g:=by rw [List.getD_eq_getElem?_getD,List.getElem?_eq_getElem hlt];exact (gtEq_iff _ _).1 he
  refine .wire (by omega) ?_
  rw [V_at hv hlt (hs k hlt),hg]
 ·exact .gate rfl
theorem share_sem {c:Circ} (h:rightC c=true) {vs:List Bool} (hv:(vs.length:Int)=c.inputs):outsG evalB false (shareC c) vs=outsG evalB false c vs:=by
 obtain ⟨⟨h0,h1,_⟩,_⟩:=rightC_parts h
 obtain ⟨N,hN⟩:∃ N:Nat,c.inputs=(N:Int):=⟨c.inputs.toNat,by omega⟩
 have hvN:vs.length=N:=by omega
 have key:∀ k,k≤c.gates.length→SemOk vs (fun _=>True) (shareTo c k) (c.gates.take k):=fun k hk=>by
  induction k with
  | zero=>rw [shareTo,hN];exact V_start hvN _
  | succ k ih=>
   have hs:=shareTo_ok h k (by omega)
   obtain ⟨l1,l2⟩:=shareTo_len c k
   have hg:=gateAt_ok h (show k < c.gates.length by omega)
   have hm:=moveG_ok hs hg (by omega) (fun _=>trivial) (fun _=>trivial)
   have hk:=knownW_bd c.inputs (shareTo c k).gates (swapG (moveG (shareTo c k).to (gateAt c k))) h0
   rw [take_snoc_getD c.gates k (by omega),shareTo]
   rw [hN] at hs hm hk ⊢
   refine (ih (by omega)).add hvN hs (by rw [l2,List.length_take];omega) hk ?_
   exact (knownW_val hvN hs.gok).congr ((swapG_val hm (V vs (shareTo c k).gates)).trans (move_val (ih (by omega)) hg (by omega) (fun _=>trivial) (fun _=>trivial)))
 rw [shareC,if_pos h]
 have:=key c.gates.length (Nat.le_refl _)
 rw [List.take_length] at this
 obtain ⟨l1,l2⟩:=shareTo_len c c.gates.length
 exact done_sem h this (by omega) (fun _ _=>trivial)
end Go.Proofs.Ytiemhbogbaamlaa
/-
 A part.
-/
namespace Go.Proofs.Ytiemhbogbaamlaa
open Go.RowKit
theorem setT_get (nd:List Bool) (z:Int) (w:Nat):(setT nd z).getD w false=true ↔ (w=z.toNat∧w < nd.length)∨nd.getD w false=true:=by
 unfold setT
 rw [List.getD_eq_getElem?_getD,List.getD_eq_getElem?_getD,List.getElem?_set]
 by_cases h:z.toNat=w
 ·rw [if_pos h]
  subst h
  by_cases h2:z.toNat < nd.length
  ·simp [h2]
  ·simp [h2]
 ·rw [if_neg h]
  have h3:¬ w=z.toNat:=fun e=>h e.symm
  simp [h3]
theorem needG_get {n:Int} {nd:List Bool} {i:Nat} {g:Gt} (ho:g.op=0∨g.op=1∨g.op=2∨g.op=3∨g.op=4∨g.op=5) (w:Nat):
 (needG n nd i g).getD w false=true ↔ nd.getD w false=true∨(needAt nd (n+(i:Int))=true∧w < nd.length∧((2≤g.op∧w=g.a.toNat)∨(3≤g.op∧w=g.b.toNat))):=by
 have hop:=operandsO_of ho
 unfold needG
 by_cases h:needAt nd (n+(i:Int))=true
 ·rw [if_pos h]
  simp only [h,true_and]
  by_cases h3:3≤g.op
  ·rw [if_pos (by rw [hop,if_neg (by omega),if_neg (by omega)]),setT_get,setT_get]
   have hl:(setT nd g.a).length=nd.length:=by simp [setT]
   rw [hl]
   have h2:2≤g.op:=by omega
   simp only [h2,h3,true_and]
   constructor
   ·rintro (⟨e,l⟩ | ⟨e,l⟩ | e)
    ·exact .inr ⟨l,.inr e⟩
    ·exact .inr ⟨l,.inl e⟩
    ·exact .inl e
   ·rintro (e | ⟨l,e | e⟩)
    ·exact .inr (.inr e)
    ·exact .inr (.inl ⟨e,l⟩)
    ·exact .inl ⟨e,l⟩
  ·rw [if_neg (by rw [hop];split <;> (try split) <;> omega)]
   by_cases h2:2≤g.op
   ·rw [if_pos (by rw [hop,if_neg (by omega),if_pos (by omega)]),setT_get]
    simp only [h2,h3,true_and,false_and,or_false]
    constructor
    ·rintro (⟨e,l⟩ | e)
     ·exact .inr ⟨l,e⟩
     ·exact .inl e
    ·rintro (e | ⟨l,e⟩)
     ·exact .inr e
     ·exact .inl ⟨e,l⟩
   ·rw [if_neg (by rw [hop,if_pos (by omega)];omega)]
    simp [h2,h3]
 ·rw [if_neg h]
  simp [h]
structure Closed (c:Circ) (P:Int→Prop):Prop where
 outs:∀ k,k < c.outs.length→P (c.outs.getD k 0)
 fst:∀ k,k < c.gates.length→P (c.inputs+(k:Int))→2≤(gateAt c k).op→P (gateAt c k).a
 snd:∀ k,k < c.gates.length→P (c.inputs+(k:Int))→3≤(gateAt c k).op→P (gateAt c k).b
theorem need_min {c:Circ} (h:rightC c=true) {P:Int→Prop} (hc:Closed c P) (w:Nat) (hw:(needC c).getD w false=true):P (w:Int):=by
 obtain ⟨⟨h0,h1,_⟩,hg,ho⟩:=rightC_parts h
 have hout:∀ k,k≤c.outs.length→∀ w:Nat,(needOuts c k).getD w false=true→P (w:Int):=fun k=>by
  induction k with
  | zero=>
   intro _ w hw
   rw [needOuts,List.getD_eq_getElem?_getD,List.getElem?_replicate] at hw
   split at hw <;> cases hw
  | succ k ih=>
   intro hk w hw
   rw [needOuts,setT_get] at hw
   rcases hw with ⟨e,_⟩ | hw
   ·have:=outOk_at ho (show k < c.outs.length by omega)
    rw [e,Int.toNat_of_nonneg this.1]
    exact hc.outs k (by omega)
   ·exact ih (by omega) w hw
 have hto:∀ j,j≤c.gates.length→∀ w:Nat,(needTo c j).getD w false=true→P (w:Int):=fun j=>by
  induction j with
  | zero=>intro _ w hw;exact hout _ (Nat.le_refl _) w hw
  | succ j ih=>
   intro hj w hw
   have hk:c.gates.length - 1 - j < c.gates.length:=by omega
   obtain ⟨hop,ha,hb,_,_⟩:=gateOk_parts (gateAt_ok h hk)
   rw [needTo,needG_get hop] at hw
   rcases hw with hw | ⟨hn,_,hw⟩
   ·exact ih (by omega) w hw
   ·have hP:P (c.inputs+((c.gates.length - 1 - j:Nat):Int)):=by
     have:=ih (by omega) _ hn
     rw [Int.toNat_of_nonneg (by omega)] at this
     exact this
    rcases hw with ⟨h2,e⟩ | ⟨h3,e⟩
    ·rw [e,Int.toNat_of_nonneg (ha h2).1];exact hc.fst _ hk hP h2
    ·rw [e,Int.toNat_of_nonneg (hb h3).1];exact hc.snd _ hk hP h3
 exact hto _ (Nat.le_refl _) w hw
def Ned (c:Circ) (w:Int):Prop:=needAt (needC c) w=true
theorem need_closed {c:Circ} (h:rightC c=true):Closed c (Ned c):=by
 obtain ⟨⟨h0,h1,_⟩,hg,ho⟩:=rightC_parts h
 have hmono:∀ j,j≤c.gates.length→∀ d,d≤j→∀ w,(needTo c d).getD w false=true→(needTo c j).getD w false=true:=fun j=>by
  induction j with
  | zero=>
   intro _ d hd w hw
   obtain rfl:d=0:=by omega
   exact hw
  | succ j ih=>
   intro hj d hd w hw
   rcases Nat.lt_or_ge d (j+1) with h1 | h1
   ·rw [needTo,needG_get (gateOk_parts (gateAt_ok h (show c.gates.length - 1 - j < c.gates.length by omega))).1]
    exact .inl (ih (by omega) d (by omega) w hw)
   ·obtain rfl:d=j+1:=by omega
    exact hw
 have hout:∀ k,k≤c.outs.length→∀ i,i < k→(needOuts c k).getD (c.outs.getD i 0).toNat false=true:=fun k=>by
  induction k with
  | zero=>intro _ i hi;omega
  | succ k ih=>
   intro hk i hi
   rw [needOuts,setT_get]
   rcases Nat.lt_or_ge i k with h1 | h1
   ·exact .inr (ih (by omega) i h1)
   ·obtain rfl:i=k:=by omega
    have:=outOk_at ho (show i < c.outs.length by omega)
    exact .inl ⟨rfl,by rw [needOuts_len];omega⟩
 have hops:∀ j,j≤c.gates.length→∀ k,k < c.gates.length→c.gates.length - j≤k→(needTo c j).getD (c.inputs+(k:Int)).toNat false=true →
  (2≤(gateAt c k).op→(needTo c j).getD (gateAt c k).a.toNat false=true)∧(3≤(gateAt c k).op→(needTo c j).getD (gateAt c k).b.toNat false=true):=fun j=>by
  induction j with
  | zero=>intro _ k hk h2;omega
  | succ j ih=>
   intro hj k hk h2 hn
   have hi:c.gates.length - 1 - j < c.gates.length:=by omega
   obtain ⟨hop,ha,hb,_,_⟩:=gateOk_parts (gateAt_ok h hi)
   have hn2:=hn
   rw [needTo,needG_get hop] at hn2
   have hn3:(needTo c j).getD (c.inputs+(k:Int)).toNat false=true:=by
    rcases hn2 with e | ⟨_,_,⟨h3,e⟩ | ⟨h3,e⟩⟩
    ·exact e
    ·have:=ha h3;omega
    ·have:=hb h3;omega
   rcases Nat.lt_or_ge (c.gates.length - 1 - j) k with h4 | h4
   ·obtain ⟨p1,p2⟩:=ih (by omega) k hk (by omega) hn3
    exact ⟨fun q=>hmono _ hj j (by omega) _ (p1 q),fun q=>hmono _ hj j (by omega) _ (p2 q)⟩
   ·obtain rfl:k=c.gates.length - 1 - j:=by omega
    have hl:(needTo c j).length=(c.inputs+c.gates.length).toNat:=needTo_len c j
    rw [needTo,needG_get hop,needG_get hop]
    exact ⟨fun q=>.inr ⟨hn3,by have:=ha q;omega,.inl ⟨q,rfl⟩⟩,fun q=>.inr ⟨hn3,by have:=hb q;omega,.inr ⟨q,rfl⟩⟩⟩
 refine ⟨fun k hk=>?_,fun k hk hP h2=>?_,fun k hk hP h3=>?_⟩
 ·exact hmono _ (Nat.le_refl _) 0 (Nat.zero_le _) _ (hout _ (Nat.le_refl _) k hk)
 ·exact (hops _ (Nat.le_refl _) k hk (by omega) hP).1 h2
 ·exact (hops _ (Nat.le_refl _) k hk (by omega) hP).2 h3
def ndg (c:Circ) (i:Nat):Bool:=needAt (needC c) (c.inputs+(i:Int))
def rank (c:Circ) (i:Nat):Nat:=((List.range i).filter (ndg c)).length
theorem rank_succ (c:Circ) (i:Nat):rank c (i+1)=if ndg c i=true then rank c i+1 else rank c i:=by
 unfold rank
 rw [List.range_succ,List.filter_append,List.length_append]
 split
 ·rename_i h;simp [h]
 ·rename_i h;simp [h]
theorem rank_le (c:Circ) (i:Nat):rank c i≤i:=by
 unfold rank
 exact Nat.le_trans (List.length_filter_le _ _) (by simp)
theorem rank_mono (c:Circ) {i j:Nat} (h:i≤j):rank c i≤rank c j:=by
 induction j with
 | zero => obtain rfl : i = 0 := by omega
           exact Nat.le_refl _
 | succ j ih=>
  rcases Nat.lt_or_ge i (j+1) with h1 | h1
  ·have:=ih (by omega)
   rw [rank_succ];split <;> omega
  ·obtain rfl:i=j+1:=by omega
   exact Nat.le_refl _
theorem trimTo_succ (c:Circ) (k:Nat):trimTo c (k+1)=if ndg c k=true then addW c.inputs (trimTo c k) (moveG (trimTo c k).to (gateAt c k),-1) else ⟨(trimTo c k).gates,(trimTo c k).to ++ [0]⟩:=rfl
theorem trim_gl (c:Circ) (k:Nat):(trimTo c k).gates.length=rank c k:=by
 induction k with
 | zero=>rfl
 | succ k ih=>
  rw [trimTo_succ,rank_succ]
  split
  ·rw [(addW_len _ _ _).1,ih]
  ·exact ih
theorem trim_to_keep (c:Circ) {k k':Nat} (h:k≤k') {w:Nat} (hw:w < c.inputs.toNat+k):(trimTo c k').to.getD w 0=(trimTo c k).to.getD w 0:=by
 induction k' with
 | zero => obtain rfl : k = 0 := by omega
           rfl
 | succ j ih=>
  rcases Nat.lt_or_ge k (j+1) with h1 | h1
  ·have hl:=(trimTo_len c j).2
   rw [← ih (by omega),trimTo_succ]
   split
   ·exact snocZ_lt _ _ _ (by omega)
   ·exact snocZ_lt _ _ _ (by omega)
  ·obtain rfl:k=j+1:=by omega
   rfl
theorem start_at (n:Int) {w:Nat} (h:w < n.toNat):(startW n).to.getD w 0=(w:Int):=by
 simp [startW,List.getD_eq_getElem?_getD,List.getElem?_map,List.getElem?_range h]
theorem trim_to_in (c:Circ) (k:Nat) {w:Nat} (h:w < c.inputs.toNat):(trimTo c k).to.getD w 0=(w:Int):=
 (trim_to_keep c (Nat.zero_le k) (by omega)).trans (start_at _ h)
theorem trim_to_gate (c:Circ) (h0:0≤c.inputs) {k i:Nat} (h:i < k):(trimTo c k).to.getD (c.inputs.toNat+i) 0=if ndg c i=true then c.inputs+(rank c i:Int) else 0:=by
 rw [trim_to_keep c (show i+1≤k by omega) (by omega),trimTo_succ]
 have hl:=(trimTo_len c i).2
 rw [← hl]
 split
 ·rw [show (addW c.inputs (trimTo c i) (moveG (trimTo c i).to (gateAt c i),-1)).to.getD (trimTo c i).to.length 0=_ from snocZ_eq _ _ _,if_pos (show (-1:Int) < 0 by decide),trim_gl]
 ·exact snocZ_eq _ _ _
theorem moveG_congr {to to':List Int} {L:Nat} (h:∀ w,w < L→to.getD w 0=to'.getD w 0) {lim:Int} {g:Gt} (hg:gateOk lim g=true) (hl:lim≤(L:Int)):moveG to g=moveG to' g:=by
 obtain ⟨ho,ha,hb,_,_⟩:=gateOk_parts hg
 have hop:=operandsO_of ho
 have e1:(moveG to g).a=(moveG to' g).a:=by
  rcases (by omega:g.op < 2∨2≤g.op) with h2 | h2
  ·rw [moveG_a0 ho h2,moveG_a0 ho h2]
  ·rw [moveG_a ho h2,moveG_a ho h2];exact h _ (by have:=ha h2;omega)
 have e2:(moveG to g).b=(moveG to' g).b:=by
  rcases (by omega:g.op < 3∨3≤g.op) with h3 | h3
  ·rw [moveG_b0 ho h3,moveG_b0 ho h3]
  ·rw [moveG_b ho h3,moveG_b ho h3];exact h _ (by have:=hb h3;omega)
 have e:∀ x y:Gt,x.op=y.op→x.a=y.a→x.b=y.b→x=y:=fun x y p q r=>by cases x;cases y;cases p;cases q;cases r;rfl
 exact e _ _ rfl e1 e2
theorem trim_gates {c:Circ} (h:rightC c=true) (k:Nat) (hk:k≤c.gates.length):(trimTo c k).gates=((List.range k).filter (ndg c)).map (fun i=>moveG (trimTo c k).to (gateAt c i)):=by
 obtain ⟨⟨h0,h1,_⟩,_⟩:=rightC_parts h
 induction k with
 | zero=>rfl
 | succ k ih=>
  have hkeep:∀ i,i≤k→moveG (trimTo c (k+1)).to (gateAt c i)=moveG (trimTo c k).to (gateAt c i):=fun i hi=>
   moveG_congr (L:=c.inputs.toNat+k) (fun w hw=>trim_to_keep c (Nat.le_succ k) hw) (gateAt_ok h (show i < c.gates.length by omega)) (by omega)
  rw [List.range_succ,List.filter_append,List.map_append]
  have e:((List.range k).filter (ndg c)).map (fun i=>moveG (trimTo c (k+1)).to (gateAt c i))=(trimTo c k).gates:=by
   rw [ih (by omega)]
   apply List.map_congr_left
   intro i hi
   rw [List.mem_filter,List.mem_range] at hi
   exact hkeep i (by omega)
  rw [e]
  by_cases hn:ndg c k=true
  ·have e2:List.filter (ndg c) [k]=[k]:=by simp [hn]
   rw [e2,List.map_singleton,hkeep k (Nat.le_refl _),trimTo_succ,if_pos hn];rfl
  ·have e2:List.filter (ndg c) [k]=[]:=by simp [hn]
   rw [e2,List.map_nil,List.append_nil,trimTo_succ,if_neg hn]
theorem trimTo_ok {c:Circ} (h:rightC c=true) (k:Nat) (hk:k≤c.gates.length):WkOk c.inputs (fun w=>c.inputs≤(w:Int)→Ned c (w:Int)) (trimTo c k):=by
 obtain ⟨⟨h0,h1,_⟩,_⟩:=rightC_parts h
 have hcl:=need_closed h
 induction k with
 | zero=>exact startOk h0 _
 | succ k ih=>
  have hs:=ih (by omega)
  have l2:=(trimTo_len c k).2
  rw [trimTo_succ]
  split
  ·rename_i hn
   have hg:=gateAt_ok h (show k < c.gates.length by omega)
   obtain ⟨ho,ha,hb,_,_⟩:=gateOk_parts hg
   have hm:=moveG_ok hs hg (by omega) (fun h2 _=>by rw [Int.toNat_of_nonneg (ha h2).1];exact hcl.fst k (by omega) hn h2) (fun h3 _=>by rw [Int.toNat_of_nonneg (hb h3).1];exact hcl.snd k (by omega) hn h3)
   exact hs.add hm ⟨by show (-1:Int)≤-1;omega,by show (-1:Int) < _;omega⟩ h0 (fun _ _ q=>q)
  ·rename_i hn
   refine ⟨hs.gok,fun w hw hq=>?_⟩
   have hw:w < ((trimTo c k).to ++ [(0:Int)]).length:=hw
   rw [List.length_append,List.length_singleton] at hw
   rcases Nat.lt_or_ge w (trimTo c k).to.length with h2 | h2
   ·show 0≤((trimTo c k).to ++ [(0:Int)]).getD w 0∧_
    rw [snocZ_lt _ _ _ h2]
    exact hs.tok w h2 hq
   ·obtain rfl:w=(trimTo c k).to.length:=by omega
    have:=hq (by omega)
    have e:(((trimTo c k).to.length:Nat):Int)=c.inputs+(k:Int):=by omega
    rw [e] at this
    exact absurd this hn
theorem trim_outs {c:Circ} (h:rightC c=true):∀ k,k < c.outs.length→c.inputs≤(((c.outs.getD k 0).toNat:Nat):Int)→Ned c (((c.outs.getD k 0).toNat:Nat):Int):=fun k hk _=>by
 rw [Int.toNat_of_nonneg (outOk_at (rightC_parts h).2.2 hk).1]
 exact (need_closed h).outs k hk
theorem trim_right {c:Circ} (h:rightC c=true):rightC (trimC c)=true:=by
 rw [trimC,if_pos h]
 obtain ⟨⟨h0,h1,_⟩,_⟩:=rightC_parts h
 obtain ⟨l1,l2⟩:=trimTo_len c c.gates.length
 exact done_ok h (trimTo_ok h _ (Nat.le_refl _)) (by omega) (by omega) (trim_outs h)
theorem trim_sem {c:Circ} (h:rightC c=true) {vs:List Bool} (hv:(vs.length:Int)=c.inputs):outsG evalB false (trimC c) vs=outsG evalB false c vs:=by
 obtain ⟨⟨h0,h1,_⟩,_⟩:=rightC_parts h
 obtain ⟨N,hN⟩:∃ N:Nat,c.inputs=(N:Int):=⟨c.inputs.toNat,by omega⟩
 have hvN:vs.length=N:=by omega
 have hcl:=need_closed h
 have key:∀ k,k≤c.gates.length→SemOk vs (fun w=>c.inputs≤(w:Int)→Ned c (w:Int)) (trimTo c k) (c.gates.take k):=fun k hk=>by
  induction k with
  | zero=>rw [trimTo,hN];exact V_start hvN _
  | succ k ih=>
   have hs:=trimTo_ok h k (by omega)
   have l2:=(trimTo_len c k).2
   have hg:=gateAt_ok h (show k < c.gates.length by omega)
   rw [take_snoc_getD c.gates k (by omega),trimTo_succ]
   split
   ·rename_i hn
    obtain ⟨ho,ha,hb,_,_⟩:=gateOk_parts hg
    have q1:2≤(gateAt c k).op→(c.inputs≤(((gateAt c k).a.toNat:Nat):Int)→Ned c (((gateAt c k).a.toNat:Nat):Int)):=fun h2 _=>by rw [Int.toNat_of_nonneg (ha h2).1];exact hcl.fst k (by omega) hn h2
    have q2:3≤(gateAt c k).op→(c.inputs≤(((gateAt c k).b.toNat:Nat):Int)→Ned c (((gateAt c k).b.toNat:Nat):Int)):=fun h3 _=>by rw [Int.toNat_of_nonneg (hb h3).1];exact hcl.snd k (by omega) hn h3
    have hmv:=move_val (ih (by omega)) hg (by omega) q1 q2
    have hp:(-1:Int)≤-1∧(-1:Int) < (N:Int)+((trimTo c k).gates.length:Int):=⟨by omega,by omega⟩
    have hs2:WkOk (N:Int) (fun w=>c.inputs≤(w:Int)→Ned c (w:Int)) (trimTo c k):=hN ▸ hs
    have:=(ih (by omega)).add (p:=(moveG (trimTo c k).to (gateAt c k),-1)) (g:=gateAt c k) hvN hs2 (by rw [l2,List.length_take];omega) hp (.gate hmv)
    rw [hN] at this ⊢
    exact this
   ·rename_i hn
    intro w hw hq
    have hw:w < ((trimTo c k).to ++ [(0:Int)]).length:=hw
    rw [List.length_append,List.length_singleton] at hw
    show V vs (trimTo c k).gates (((trimTo c k).to ++ [(0:Int)]).getD w 0)=_
    rcases Nat.lt_or_ge w (trimTo c k).to.length with h2 | h2
    ·rw [snocZ_lt _ _ _ h2,ih (by omega) w h2 hq,V_ext hvN (Ext.snoc _ _) (by unfold okW;rw [List.length_take];omega)]
    ·obtain rfl:w=(trimTo c k).to.length:=by omega
     have:=hq (by omega)
     have e:(((trimTo c k).to.length:Nat):Int)=c.inputs+(k:Int):=by omega
     rw [e] at this
     exact absurd this hn
 rw [trimC,if_pos h]
 have:=key c.gates.length (Nat.le_refl _)
 rw [List.take_length] at this
 obtain ⟨l1,l2⟩:=trimTo_len c c.gates.length
 exact done_sem h this (by omega) (trim_outs h)
end Go.Proofs.Ytiemhbogbaamlaa
