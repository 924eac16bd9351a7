/-
 A part.
-/
import Derived.Test.YtiemhbogbaamlaaYF24
import Derived.Test.YtiemhbogbaamlaaYF29
set_option linter.unusedSimpArgs false
set_option linter.unusedVariables false
namespace Go.Proofs.Ytiemhbogbaamlaa
open Go.RowKit
structure PSep (W:World) (p:Pln) (A:Option Addr) (n:Nat) (sl:List Sl) (lo hi:Nat):Prop where
 pat:PAt W p A n sl
 top:NewOr A n lo hi
 row:∀ i,i < p.words.length→NewOr (sl.getD i default).at_ (sl.getD i default).len lo hi
theorem PAt.sep {W:World} {p:Pln} {A:Option Addr} {n:Nat} {sl:List Sl} (h:PAt W p A n sl) (hi:Nat):PSep W p A n sl W.heap.size hi:=
 ⟨h,h.rows.newOr,fun i hi'=>(h.next i hi').1.newOr⟩
theorem PSep.up {W W':World} {p:Pln} {A:Option Addr} {n:Nat} {sl:List Sl} {lo hi:Nat} (h:PSep W p A n sl lo hi) (hb:Below W.heap.size W W'):PSep W' p A n sl lo hi:=⟨h.pat.up hb,h.top,h.row⟩
theorem NewOr.ne {A:Option Addr} {n lo hi b:Nat} (h:NewOr A n lo hi) (h1:lo≤b) (h2:b < hi):∀ ad,A=some ad→0 < n→ad.block≠b:=fun ad e hn=>by
 have:=h ad e hn;omega
theorem PSep.far {W:World} {p:Pln} {A:Option Addr} {n:Nat} {sl:List Sl} {lo hi:Nat} (h:PSep W p A n sl lo hi) {q:Addr} (h1:lo≤q.block) (h2:q.block < hi) (u:Value):PSep (W.setCell q u) p A n sl lo hi:=by
 refine ⟨⟨?_,h.pat.sll,fun i hi'=>⟨?_,(h.pat.next i hi').2⟩,h.pat.n63,h.pat.cap⟩,h.top,h.row⟩
 ·rw [World.size_setCell];exact h.pat.rows.farSet (h.top.ne h1 h2) u
 ·rw [World.size_setCell];exact (h.pat.next i hi').1.farSet ((h.row i hi').ne h1 h2) u
theorem POwn.sep {W:World} {base M n c:Nat} {A:Option Addr} {gs:List Nat} {p:Pln} (h:POwn W base (.slice A n c) M gs p.words) (hn:p.words.length=n) (hn3:n≤maxLen) (hM:M≤maxLen):∃ sl,∀ lo hi,hi≤base→PSep W p A n sl lo hi:=by
 refine ⟨_,fun lo hi hb=>⟨h.pAt hn hn3 hM,fun ad e h0=>.inr ?_,fun i hi' ad e h0=>.inr ?_⟩⟩
 ·have ho:=h.own
  rw [hn] at ho
  have h2:=own_from ho ad e h0
  omega
 ·have e1:(gs.map (fun g=>(⟨some ⟨g,0,none⟩,M,M⟩:Sl))).getD i default=⟨some ⟨gs.getD i 0,0,none⟩,M,M⟩:=by
   rw [List.getD_eq_getElem?_getD,List.getElem?_map,List.getD_eq_getElem?_getD,List.getElem?_eq_getElem (by rw [h.len];exact hi')];rfl
  rw [e1] at e
  cases e
  have:=h.bas i hi'
  show hi≤gs.getD i 0
  omega
theorem noPln_sep (W:World) (lo hi:Nat):PSep W noPln none 0 [] lo hi:=⟨noPln_at W,.none,fun i hi'=>absurd hi' (Nat.not_lt_zero _)⟩
def PlPost (r:Pln) (k:Int) (lo hi:Nat) (w:World) (e:Ending) (w':World):Prop:=
 ∃ (A:Option Addr) (n c:Nat) (sl:List Sl),e=.returned (.tuple #[.agg #[.int .i64 r.w,.int .i64 r.h,.int .i64 r.edge,.slice A n c],.int .i64 k])∧PSep w' r A n sl lo hi∧Below w.heap.size w w'
def PlPostA (P0:Nat→Nat→Prop) (r:Pln) (k:Int) (w:World) (e:Ending) (w':World):Prop:=
 ∃ (A:Option Addr) (n c:Nat) (sl:List Sl),e=.returned (.tuple #[.agg #[.int .i64 r.w,.int .i64 r.h,.int .i64 r.edge,.slice A n c],.int .i64 k])∧(∀ lo hi,P0 lo hi→PSep w' r A n sl lo hi)∧PAt w' r A n sl∧Below w.heap.size w w'
theorem PlPostA.post {P0:Nat→Nat→Prop} {r:Pln} {k:Int} {w w':World} {e:Ending} (h:PlPostA P0 r k w e w') {lo hi:Nat} (h0:P0 lo hi):PlPost r k lo hi w e w':=by
 obtain ⟨A,n,c,sl,h1,h2,_,h3⟩:=h
 exact ⟨A,n,c,sl,h1,h2 lo hi h0,h3⟩
theorem run_err {t:Tre} {p:Pln} {z:Int} {k:Int} (h:runErr t p z=k) (h0:k≠0):runPl t p z=noPln:=by unfold runPl;rw [if_neg (by rw [h];exact h0)]
set_option maxRecDepth 100000 in
set_option maxHeartbeats 2000000 in
theorem run_nil (p:Pln) (A:Option Addr) (n c:Nat) (z:Int) (w:World):Calls Try.prog 19 #[.pointer none,.agg #[.int .i64 p.w,.int .i64 p.h,.int .i64 p.edge,.slice A n c],.int .i64 z] w (PlPostA (fun _ _=>True) noPln 1 w):=by
 go_enter Try.func19,Try.ntmps19
 go_upto_region 1 with fail
 obtain ⟨wa,hW9,RP,RZ,hgr9⟩:=laid2 w [.int .i64 p.w,.int .i64 p.h,.int .i64 p.edge,.slice A n c] 42 [.int .i64 0,.int .i64 0,.int .i64 0,.slice none 0 0] 42
 rewrite [hW9]
 clear hW9
 have B_w:=hiD hgr9
 clear hgr9
 obtain ⟨k0,k1,k2,k3,kl⟩:=RP.out.cells4
 go_wp2_with fail
 refine (check_nil p A n c wa).mono ?_
 rintro e w1 ⟨rfl,hb⟩
 have B_w:=hiD (below_on2 B_w.out hb)
 have B_wa:=hiD hb
 clear k0 k1 k2 k3 kl
 clear hb
 have RZ1:=hiD (rowCells RZ.out B_wa.out)
 obtain ⟨z0,z1,z2,z3,zl⟩:=RZ1.out.cells4
 obtain ⟨zf0,zf1,zf2,zf3⟩:=RZ1.out.froz4
 go_wp2_with fail
 have Z9:=RZ1.out.set4 (.int .i64 0) (.int .i64 0) (.int .i64 0) (.slice none 0 0)
 have B9:=bSet4 B_w.out (w.heap.size+1) (by show w.heap.size≤w.heap.size+1;omega) (.int .i64 0) (.int .i64 0) (.int .i64 0) (.slice none 0 0)
 obtain ⟨d0,d1,d2,d3,-⟩:=Z9.cells4
 clear Z9
 refine bodyPost_ret (v:=.tuple #[.agg #[.int .i64 0,.int .i64 0,.int .i64 0,.slice none 0 0],.int .i64 1]) (by simp [results,Try.results19,go_sem,d0,d1,d2,d3]) rfl ?_
 exact ⟨none,0,0,[],rfl,fun _ _ _=>noPln_sep _ _ _,noPln_at _,B9⟩
set_option maxRecDepth 100000 in
set_option maxHeartbeats 8000000 in
theorem run_any (b:Nat) (t:Tre) (GA OA PA:Option Addr) (gn gc on oc pn pc:Nat) (p:Pln) (A:Option Addr) (n c:Nat) (sl:List Sl) (z:Int) (w:World) (he:EngAt w b t GA OA PA gn gc on oc pn pc) (hp:PAt w p A n sl):
 Calls Try.prog 19 #[.pointer (some ⟨b,0,none⟩),.agg #[.int .i64 p.w,.int .i64 p.h,.int .i64 p.edge,.slice A n c],.int .i64 z] w (PlPostA (fun lo hi=>hi≤w.heap.size∧PSep w p A n sl lo hi) (runPl t p z) (runErr t p z) w):=by
 have HE:=hiD he
 have HP:=hiD hp
 have HWL:Hid (p.words.length=n):=hp.wl
 clear he hp
 go_enter Try.func19,Try.ntmps19
 go_upto_region 1 with fail
 obtain ⟨wa,hW9,RP,RZ,hgr9⟩:=laid2 w [.int .i64 p.w,.int .i64 p.h,.int .i64 p.edge,.slice A n c] 42 [.int .i64 0,.int .i64 0,.int .i64 0,.slice none 0 0] 42
 rewrite [hW9]
 clear hW9
 have B_w:=hiD hgr9
 clear hgr9
 obtain ⟨k0,k1,k2,k3,kl⟩:=RP.out.cells4
 go_wp2_with fail
 obtain ⟨ce,hce⟩:∃ ce,checkPl t p=ce:=⟨_,rfl⟩
 have HCE:=hiU hce
 have hcs:=check_cases t p
 have HC:=check_any b t GA OA PA gn gc on oc pn pc p A n c sl wa (HE.out.up B_w.out) (HP.out.up B_w.out)
 rw [hce] at HC hcs
 clear hce
 refine HC.mono ?_
 clear HC
 rintro e w1 ⟨rfl,hb⟩
 have B_w:=hiD (below_on2 B_w.out hb)
 have B_wa:=hiD hb
 clear k0 k1 k2 k3 kl
 clear hb
 have RZ1:=hiD (rowCells RZ.out B_wa.out)
 have RP1:=hiD (rowCells RP.out B_wa.out)
 have BW1:=hiD B_w
 have hs1:w.heap.size+1 < w1.heap.size:=RZ1.out.lt
 clear B_w B_wa RP RZ
 have hbad:ce=2∨ce=10→Hid (∀ _:Unit,runErr t p z=ce∧runPl t p z=noPln):=fun h _=>by
  have h1:runErr t p z=ce:=by unfold runErr;rw [HCE.out (),if_neg (by omega)]
  exact ⟨h1,run_err h1 (by omega)⟩
 rcases hcs with rfl | rfl | rfl
 rotate_left 1
 ·have HB:=hbad (.inl rfl)
  clear hbad
  obtain ⟨z0,z1,z2,z3,zl⟩:=RZ1.out.cells4
  obtain ⟨zf0,zf1,zf2,zf3⟩:=RZ1.out.froz4
  go_wp2_with fail
  have Z9:=RZ1.out.set4 (.int .i64 0) (.int .i64 0) (.int .i64 0) (.slice none 0 0)
  have B9:=bSet4 BW1.out (w.heap.size+1) (by show w.heap.size≤w.heap.size+1;omega) (.int .i64 0) (.int .i64 0) (.int .i64 0) (.slice none 0 0)
  obtain ⟨d0,d1,d2,d3,-⟩:=Z9.cells4
  clear Z9
  refine bodyPost_ret (v:=.tuple #[.agg #[.int .i64 0,.int .i64 0,.int .i64 0,.slice none 0 0],.int .i64 2]) (by simp [results,Try.results19,go_sem,d0,d1,d2,d3]) rfl ?_
  rw [(HB.out ()).1,(HB.out ()).2]
  exact ⟨none,0,0,[],rfl,fun _ _ _=>noPln_sep _ _ _,noPln_at _,B9⟩
 ·have HB:=hbad (.inr rfl)
  clear hbad
  obtain ⟨z0,z1,z2,z3,zl⟩:=RZ1.out.cells4
  obtain ⟨zf0,zf1,zf2,zf3⟩:=RZ1.out.froz4
  go_wp2_with fail
  have Z9:=RZ1.out.set4 (.int .i64 0) (.int .i64 0) (.int .i64 0) (.slice none 0 0)
  have B9:=bSet4 BW1.out (w.heap.size+1) (by show w.heap.size≤w.heap.size+1;omega) (.int .i64 0) (.int .i64 0) (.int .i64 0) (.slice none 0 0)
  obtain ⟨d0,d1,d2,d3,-⟩:=Z9.cells4
  clear Z9
  refine bodyPost_ret (v:=.tuple #[.agg #[.int .i64 0,.int .i64 0,.int .i64 0,.slice none 0 0],.int .i64 10]) (by simp [results,Try.results19,go_sem,d0,d1,d2,d3]) rfl ?_
  rw [(HB.out ()).1,(HB.out ()).2]
  exact ⟨none,0,0,[],rfl,fun _ _ _=>noPln_sep _ _ _,noPln_at _,B9⟩
 clear hbad
 have HBAD:Hid (¬ (0≤z∧z≤10000)→runErr t p z=2∧runPl t p z=noPln):=fun h=>by
  have h1:runErr t p z=2:=by unfold runErr;rw [if_pos (HCE.out ()),if_neg h]
  exact ⟨h1,run_err h1 (by omega)⟩
 by_cases hz0:z < 0
 ·have d0:decide (z < 0)=true:=decide_eq_true hz0
  have HB:Hid (runErr t p z=2∧runPl t p z=noPln):=HBAD.out (by omega)
  obtain ⟨z0,z1,z2,z3,zl⟩:=RZ1.out.cells4
  obtain ⟨zf0,zf1,zf2,zf3⟩:=RZ1.out.froz4
  go_wp2_with fail
  have Z9:=RZ1.out.set4 (.int .i64 0) (.int .i64 0) (.int .i64 0) (.slice none 0 0)
  have B9:=bSet4 BW1.out (w.heap.size+1) (by show w.heap.size≤w.heap.size+1;omega) (.int .i64 0) (.int .i64 0) (.int .i64 0) (.slice none 0 0)
  obtain ⟨d0,d1,d2,d3,-⟩:=Z9.cells4
  clear Z9
  refine bodyPost_ret (v:=.tuple #[.agg #[.int .i64 0,.int .i64 0,.int .i64 0,.slice none 0 0],.int .i64 2]) (by simp [results,Try.results19,go_sem,d0,d1,d2,d3]) rfl ?_
  rw [HB.out.1,HB.out.2]
  exact ⟨none,0,0,[],rfl,fun _ _ _=>noPln_sep _ _ _,noPln_at _,B9⟩
 have d0:decide (z < 0)=false:=decide_eq_false hz0
 by_cases hz1:10000 < z
 ·have d1:decide (10000 < z)=true:=decide_eq_true hz1
  have HB:Hid (runErr t p z=2∧runPl t p z=noPln):=HBAD.out (by omega)
  obtain ⟨z0,z1,z2,z3,zl⟩:=RZ1.out.cells4
  obtain ⟨zf0,zf1,zf2,zf3⟩:=RZ1.out.froz4
  go_wp2_with fail
  have Z9:=RZ1.out.set4 (.int .i64 0) (.int .i64 0) (.int .i64 0) (.slice none 0 0)
  have B9:=bSet4 BW1.out (w.heap.size+1) (by show w.heap.size≤w.heap.size+1;omega) (.int .i64 0) (.int .i64 0) (.int .i64 0) (.slice none 0 0)
  obtain ⟨d0,d1,d2,d3,-⟩:=Z9.cells4
  clear Z9
  refine bodyPost_ret (v:=.tuple #[.agg #[.int .i64 0,.int .i64 0,.int .i64 0,.slice none 0 0],.int .i64 2]) (by simp [results,Try.results19,go_sem,d0,d1,d2,d3]) rfl ?_
  rw [HB.out.1,HB.out.2]
  exact ⟨none,0,0,[],rfl,fun _ _ _=>noPln_sep _ _ _,noPln_at _,B9⟩
 have d1:decide (10000 < z)=false:=decide_eq_false hz1
 clear HBAD
 obtain ⟨N,rfl⟩:∃ N:Nat,z=(N:Int):=⟨z.toNat,by omega⟩
 have HOK:Hid (OkTP t p):=check_ok (HE.out).rt (HE.out).few (HCE.out ())
 have HRS:Hid (runErr t p (N:Int)=0∧runPl t p (N:Int)=genPl t p N):=(by
  have h1:runErr t p (N:Int)=0:=by unfold runErr;rw [if_pos (HCE.out ()),if_pos (by omega)]
  exact ⟨h1,by unfold runPl;rw [if_pos h1,Int.toNat_natCast]⟩)
 have HSH:Hid (∀ k,(genPl t p k).w=p.w∧(genPl t p k).h=p.h∧(genPl t p k).edge=p.edge∧(genPl t p k).words.length=n):=fun k=>by
  obtain ⟨x1,x2,x3,x4⟩:=gen_shape t p k
  exact ⟨x1,x2,x3,by rw [x4];exact HWL.out⟩
 have hn3:n≤3:=by have:=(rightPl_parts HOK.out.rp).2.1;rw [HWL.out] at this;exact this.2
 have SP1:Hid (PSep w1 (genPl t p 0) A n sl w.heap.size (w.heap.size+2)):=(HP.out.sep _).up BW1.out
 have SQ1:Hid (∀ lo hi,hi≤w.heap.size∧PSep w p A n sl lo hi→PSep w1 (genPl t p 0) A n sl lo hi):=fun lo hi h=>h.2.up BW1.out
 go_wp2_with fail
 go_loopg [9,10,26] N (fun gg _ _ s26 wr=>∃ (k:Nat) (KA:Option Addr) (kc:Nat) (ks:List Sl),k≤N∧N - k≤gg∧s26=.int .i64 k∧Aside (Below w.heap.size w wr)∧Aside (Row wr w.heap.size 42 [.int .i64 p.w,.int .i64 p.h,.int .i64 p.edge,.slice KA n kc])∧Aside (Row wr (w.heap.size+1) 42 [.int .i64 0,.int .i64 0,.int .i64 0,.slice none 0 0])∧Aside (PSep wr (genPl t p k) KA n ks w.heap.size (w.heap.size+2))∧Aside (∀ lo hi,hi≤w.heap.size∧PSep w p A n sl lo hi→PSep wr (genPl t p k) KA n ks lo hi))
 case atStart=>exact ⟨0,A,c,sl,Nat.zero_le _,by omega,rfl,BW1.out,RP1.out,RZ1.out,SP1.out,SQ1.out⟩
 case round=>
  clear BW1 RP1 RZ1 SP1 SQ1 hs1 HP
  obtain ⟨k,KA,kc,ks,hk,hgg,rfl,BW,RP,RZ,SP,SQ⟩:=hrel
  have hsr:w.heap.size+1 < wr.heap.size:=RZ.out.lt
  by_cases hlt:k < N
  ·have hlz:(k:Int) < (N:Int):=by omega
   have RPr:Hid (Row wr w.heap.size 42 [.int .i64 p.w,.int .i64 p.h,.int .i64 p.edge,.slice KA n kc]):=RP.out
   have RZr:Hid (Row wr (w.heap.size+1) 42 [.int .i64 0,.int .i64 0,.int .i64 0,.slice none 0 0]):=RZ.out
   obtain ⟨k0,k1,k2,k3,kl⟩:=RPr.out.cells4
   go_wp2_with fail
   have HC:=eNext_any b t GA OA PA gn gc on oc pn pc (genPl t p k) KA n kc ks wr (HE.out.up BW.out) SP.out.pat (HOK.out.gen k)
   rw [(HSH.out k).1,(HSH.out k).2.1,(HSH.out k).2.2.1] at HC
   refine HC.mono ?_
   clear HC
   rintro e w2 ⟨QA,qn,qc,M,gs,he,ho,⟨hl1,hl2,hl3⟩,hb⟩
   obtain rfl:n=qn:=by rw [← hl1];exact ((HSH.out (k+1)).2.2.2).symm
   have he2:e=.returned (.tuple #[.agg #[.int .i64 p.w,.int .i64 p.h,.int .i64 p.edge,.slice QA n qc],.int .i64 0]):=by
    rw [he]
    show Ending.returned (.tuple #[.agg #[.int .i64 (genPl t p k).w,.int .i64 (genPl t p k).h,.int .i64 (genPl t p k).edge,.slice QA n qc],.int .i64 0])=_
    rw [(HSH.out k).1,(HSH.out k).2.1,(HSH.out k).2.2.1]
   subst he2
   have HQ:=hiD ho
   clear he ho hl1 hl2
   have B_wr:=hiD hb
   clear k0 k1 k2 k3 kl
   clear hb
   go_upto_region 9 with fail
   obtain ⟨w3,hW9,RQ,hgr9⟩:=laid1 w2 [.int .i64 p.w,.int .i64 p.h,.int .i64 p.edge,.slice QA n qc] 42
   rewrite [hW9]
   clear hW9
   have B_wr:=hiD (below_on2 B_wr.out hgr9)
   have B_w2:=hiD hgr9
   clear hgr9
   have RP3:=hiD (rowCells RPr.out B_wr.out)
   have RZ3:=hiD (rowCells RZr.out B_wr.out)
   have HQ3:Hid (POwn w3 wr.heap.size (.slice QA n qc) M gs (genPl t p (k+1)).words):=HQ.out.up B_w2.out
   have BW3:=hiD (below_on2 BW.out B_wr.out)
   obtain ⟨q0,q1,q2,q3,ql⟩:=RQ.out.cells4
   obtain ⟨k0,k1,k2,k3,kl⟩:=RP3.out.cells4
   obtain ⟨kf0,kf1,kf2,kf3⟩:=RP3.out.froz4
   go_wp2_with fail
   go_roundg (N - (k+1))
   case measure=>omega
   case rel=>
    have h4:=HQ3.out.far4 (.int .i64 p.w) (.int .i64 p.h) (.int .i64 p.edge) (.slice QA n qc) RP3.out (by decide) (by omega)
    obtain ⟨ks2,h5⟩:=h4.sep ((HSH.out (k+1)).2.2.2) (by unfold maxLen;omega) (by unfold maxLen;omega)
    exact ⟨k+1,QA,qc,ks2,by omega,by omega,by go_num,(Below.setCell (Below.setCell (Below.setCell (Below.setCell BW3.out (p:=⟨w.heap.size,0,none⟩) (Nat.le_refl _) (.int .i64 p.w)) (p:=⟨w.heap.size,1,none⟩) (Nat.le_refl _) (.int .i64 p.h)) (p:=⟨w.heap.size,2,none⟩) (Nat.le_refl _) (.int .i64 p.edge)) (p:=⟨w.heap.size,3,none⟩) (Nat.le_refl _) (.slice QA n qc)),(Row.set (Row.set (Row.set (Row.set RP3.out 0 (.int .i64 p.w)) 1 (.int .i64 p.h)) 2 (.int .i64 p.edge)) 3 (.slice QA n qc)),(Row.far (Row.far (Row.far (Row.far RZ3.out (p:=⟨w.heap.size,0,none⟩) (by show w.heap.size+1≠w.heap.size;omega) (.int .i64 p.w)) (p:=⟨w.heap.size,1,none⟩) (by show w.heap.size+1≠w.heap.size;omega) (.int .i64 p.h)) (p:=⟨w.heap.size,2,none⟩) (by show w.heap.size+1≠w.heap.size;omega) (.int .i64 p.edge)) (p:=⟨w.heap.size,3,none⟩) (by show w.heap.size+1≠w.heap.size;omega) (.slice QA n qc)),h5 _ _ (by omega),fun lo hi h=>h5 _ _ (by omega)⟩
  ·have hlz:¬ (k:Int) < (N:Int):=by omega
   obtain rfl:N=k:=by omega
   have RPr:Hid (Row wr w.heap.size 42 [.int .i64 p.w,.int .i64 p.h,.int .i64 p.edge,.slice KA n kc]):=RP.out
   have RZr:Hid (Row wr (w.heap.size+1) 42 [.int .i64 0,.int .i64 0,.int .i64 0,.slice none 0 0]):=RZ.out
   have BWr:Hid (Below w.heap.size w wr):=BW.out
   have SPr:Hid (PSep wr (genPl t p N) KA n ks w.heap.size (w.heap.size+2)):=SP.out
   have SQr:Hid (∀ lo hi,hi≤w.heap.size∧PSep w p A n sl lo hi→PSep wr (genPl t p N) KA n ks lo hi):=SQ.out
   clear RP RZ BW SP SQ hgg hlz hlt hk
   obtain ⟨k0,k1,k2,k3,kl⟩:=RPr.out.cells4
   obtain ⟨z0,z1,z2,z3,zl⟩:=RZr.out.cells4
   obtain ⟨zf0,zf1,zf2,zf3⟩:=RZr.out.froz4
   go_wp2_with fail
   have Z9:=RZr.out.set4 (.int .i64 p.w) (.int .i64 p.h) (.int .i64 p.edge) (.slice KA n kc)
   have B9:=bSet4 BWr.out (w.heap.size+1) (by show w.heap.size≤w.heap.size+1;omega) (.int .i64 p.w) (.int .i64 p.h) (.int .i64 p.edge) (.slice KA n kc)
   obtain ⟨d0,d1,d2,d3,-⟩:=Z9.cells4
   clear Z9
   refine bodyPost_ret (v:=.tuple #[.agg #[.int .i64 p.w,.int .i64 p.h,.int .i64 p.edge,.slice KA n kc],.int .i64 0]) (by simp [results,Try.results19,go_sem,d0,d1,d2,d3]) rfl ?_
   rw [HRS.out.1,HRS.out.2]
   refine ⟨KA,n,kc,ks,?_,fun lo hi h=>⟨(PSep.far (PSep.far (PSep.far (PSep.far SPr.out (q:=⟨(w.heap.size+1),0,none⟩) (by show w.heap.size≤w.heap.size+1;omega) (by show w.heap.size+1 < w.heap.size+2;omega) (.int .i64 p.w)) (q:=⟨(w.heap.size+1),1,none⟩) (by show w.heap.size≤w.heap.size+1;omega) (by show w.heap.size+1 < w.heap.size+2;omega) (.int .i64 p.h)) (q:=⟨(w.heap.size+1),2,none⟩) (by show w.heap.size≤w.heap.size+1;omega) (by show w.heap.size+1 < w.heap.size+2;omega) (.int .i64 p.edge)) (q:=⟨(w.heap.size+1),3,none⟩) (by show w.heap.size≤w.heap.size+1;omega) (by show w.heap.size+1 < w.heap.size+2;omega) (.slice KA n kc)).pat,(SQr.out lo hi h).top,(SQr.out lo hi h).row⟩,(PSep.far (PSep.far (PSep.far (PSep.far SPr.out (q:=⟨(w.heap.size+1),0,none⟩) (by show w.heap.size≤w.heap.size+1;omega) (by show w.heap.size+1 < w.heap.size+2;omega) (.int .i64 p.w)) (q:=⟨(w.heap.size+1),1,none⟩) (by show w.heap.size≤w.heap.size+1;omega) (by show w.heap.size+1 < w.heap.size+2;omega) (.int .i64 p.h)) (q:=⟨(w.heap.size+1),2,none⟩) (by show w.heap.size≤w.heap.size+1;omega) (by show w.heap.size+1 < w.heap.size+2;omega) (.int .i64 p.edge)) (q:=⟨(w.heap.size+1),3,none⟩) (by show w.heap.size≤w.heap.size+1;omega) (by show w.heap.size+1 < w.heap.size+2;omega) (.slice KA n kc)).pat,B9⟩
   rw [(HSH.out N).1,(HSH.out N).2.1,(HSH.out N).2.2.1]
set_option maxRecDepth 100000 in
set_option maxHeartbeats 4000000 in
theorem step_of (v:Value) (r:Pln) (k:Int) (p:Pln) (A:Option Addr) (n c:Nat) (P0:Nat→Nat→Prop) (w:World) (hrun:∀ W,Below w.heap.size w W→w.heap.size+2≤W.heap.size→Calls Try.prog 19 #[v,.agg #[.int .i64 p.w,.int .i64 p.h,.int .i64 p.edge,.slice A n c],.int .i64 1] W fun e w'=>∃ (A:Option Addr) (n c:Nat) (sl:List Sl),e=.returned (.tuple #[.agg #[.int .i64 r.w,.int .i64 r.h,.int .i64 r.edge,.slice A n c],.int .i64 k])∧PSep w' r A n sl w.heap.size (w.heap.size+2)∧(∀ lo hi,P0 lo hi→PSep w' r A n sl lo hi)∧Below W.heap.size W w'):
 Calls Try.prog 16 #[v,.agg #[.int .i64 p.w,.int .i64 p.h,.int .i64 p.edge,.slice A n c]] w (PlPostA P0 r k w):=by
 have HRUN:=(show Hid (∀ W,Below w.heap.size w W→w.heap.size+2≤W.heap.size→_) from hrun)
 clear hrun
 go_enter Try.func16,Try.ntmps16
 go_upto_region 1 with fail
 obtain ⟨wa,hW9,RP,RZ,hgr9⟩:=laid2 w [.int .i64 p.w,.int .i64 p.h,.int .i64 p.edge,.slice A n c] 42 [.int .i64 0,.int .i64 0,.int .i64 0,.slice none 0 0] 42
 rewrite [hW9]
 clear hW9
 have B_w:=hiD hgr9
 clear hgr9
 have hsa:w.heap.size+1 < wa.heap.size:=RZ.out.lt
 obtain ⟨k0,k1,k2,k3,kl⟩:=RP.out.cells4
 go_wp2_with fail
 refine (HRUN.out wa B_w.out (by omega)).mono ?_
 rintro e w1 ⟨RA,rn,rc,sr,rfl,hat,hat2,hb⟩
 have HAT:=hiD hat
 have HAU:=hiD hat2
 clear hat hat2
 have B_w:=hiD (below_on2 B_w.out hb)
 have B_wa:=hiD hb
 clear k0 k1 k2 k3 kl
 clear hb
 have RZ1:=hiD (rowCells RZ.out B_wa.out)
 obtain ⟨z0,z1,z2,z3,zl⟩:=RZ1.out.cells4
 obtain ⟨zf0,zf1,zf2,zf3⟩:=RZ1.out.froz4
 go_wp2_with fail
 have Z9:=RZ1.out.set4 (.int .i64 r.w) (.int .i64 r.h) (.int .i64 r.edge) (.slice RA rn rc)
 have B9:=bSet4 B_w.out (w.heap.size+1) (by show w.heap.size≤w.heap.size+1;omega) (.int .i64 r.w) (.int .i64 r.h) (.int .i64 r.edge) (.slice RA rn rc)
 obtain ⟨d0,d1,d2,d3,-⟩:=Z9.cells4
 clear Z9
 refine bodyPost_ret (v:=.tuple #[.agg #[.int .i64 r.w,.int .i64 r.h,.int .i64 r.edge,.slice RA rn rc],.int .i64 k]) (by simp [results,Try.results16,go_sem,d0,d1,d2,d3]) rfl ?_
 exact ⟨RA,rn,rc,sr,rfl,fun lo hi h=>⟨(PSep.far (PSep.far (PSep.far (PSep.far HAT.out (q:=⟨(w.heap.size+1),0,none⟩) (by show w.heap.size≤w.heap.size+1;omega) (by show w.heap.size+1 < w.heap.size+2;omega) (.int .i64 r.w)) (q:=⟨(w.heap.size+1),1,none⟩) (by show w.heap.size≤w.heap.size+1;omega) (by show w.heap.size+1 < w.heap.size+2;omega) (.int .i64 r.h)) (q:=⟨(w.heap.size+1),2,none⟩) (by show w.heap.size≤w.heap.size+1;omega) (by show w.heap.size+1 < w.heap.size+2;omega) (.int .i64 r.edge)) (q:=⟨(w.heap.size+1),3,none⟩) (by show w.heap.size≤w.heap.size+1;omega) (by show w.heap.size+1 < w.heap.size+2;omega) (.slice RA rn rc)).pat,(HAU.out lo hi h).top,(HAU.out lo hi h).row⟩,(PSep.far (PSep.far (PSep.far (PSep.far HAT.out (q:=⟨(w.heap.size+1),0,none⟩) (by show w.heap.size≤w.heap.size+1;omega) (by show w.heap.size+1 < w.heap.size+2;omega) (.int .i64 r.w)) (q:=⟨(w.heap.size+1),1,none⟩) (by show w.heap.size≤w.heap.size+1;omega) (by show w.heap.size+1 < w.heap.size+2;omega) (.int .i64 r.h)) (q:=⟨(w.heap.size+1),2,none⟩) (by show w.heap.size≤w.heap.size+1;omega) (by show w.heap.size+1 < w.heap.size+2;omega) (.int .i64 r.edge)) (q:=⟨(w.heap.size+1),3,none⟩) (by show w.heap.size≤w.heap.size+1;omega) (by show w.heap.size+1 < w.heap.size+2;omega) (.slice RA rn rc)).pat,B9⟩
theorem step_nil (p:Pln) (A:Option Addr) (n c:Nat) (w:World):Calls Try.prog 16 #[.pointer none,.agg #[.int .i64 p.w,.int .i64 p.h,.int .i64 p.edge,.slice A n c]] w (PlPostA (fun _ _=>True) noPln 1 w):=
 step_of _ noPln 1 p A n c (fun _ _=>True) w fun W _ _=>(run_nil p A n c 1 W).mono fun e w' ⟨B,m,d,s,h1,h2,_,h4⟩=>⟨B,m,d,s,h1,h2 _ _ trivial,fun lo hi _=>h2 _ _ trivial,h4⟩
theorem step_any (b:Nat) (t:Tre) (GA OA PA:Option Addr) (gn gc on oc pn pc:Nat) (p:Pln) (A:Option Addr) (n c:Nat) (sl:List Sl) (w:World) (he:EngAt w b t GA OA PA gn gc on oc pn pc) (hp:PAt w p A n sl):
 Calls Try.prog 16 #[.pointer (some ⟨b,0,none⟩),.agg #[.int .i64 p.w,.int .i64 p.h,.int .i64 p.edge,.slice A n c]] w (PlPostA (fun lo hi=>hi≤w.heap.size∧PSep w p A n sl lo hi) (runPl t p 1) (runErr t p 1) w):=
 step_of _ _ _ p A n c _ w fun W hb hs=>(run_any b t GA OA PA gn gc on oc pn pc p A n c sl 1 W (he.up hb) (hp.up hb)).mono fun e w' ⟨B,m,d,s,h1,h2,_,h4⟩=>
  ⟨B,m,d,s,h1,h2 _ _ ⟨hs,(hp.sep _).up hb⟩,fun lo hi h=>h2 lo hi ⟨Nat.le_trans h.1 hb.size,h.2.up hb⟩,h4⟩
end Go.Proofs.Ytiemhbogbaamlaa
