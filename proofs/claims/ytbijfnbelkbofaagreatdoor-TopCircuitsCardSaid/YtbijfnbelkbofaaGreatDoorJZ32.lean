/-
  Lemmas for the law TopCircuits.
-/
import Derived.Test.YtbijfnbelkbofaaGreatDoorJZ21
import Derived.Test.YtbijfnbelkbofaaGreatDoorJZ17
import Derived.Test.YtbijfnbelkbofaaGreatDoorJZ1
set_option linter.unusedSimpArgs false
set_option linter.unusedVariables false
namespace Go.Proofs.YtbijfnbelkbofaaGreatDoor
open Go.RowKit
set_option maxHeartbeats 400000 in
theorem centre_any (l:List Pt) (A:Option Addr) (n c:Nat) (w:World) (hr:Rd w w.heap.size 2 A n (hoodCells l)) (hm:n≤maxLen):
 Calls Tryz.prog 56 #[.slice A n c] w fun e w'=>e=.returned (.int .i64 (KT.centreK l))∧Below w.heap.size w w':=by
 have HR:=hiD hr;have HC:=hoodRight_any l A n c w hr hm;clear hr
 cases hh:hoodOk l with
 | false=>
  rw [hh] at HC;have HE:Hid (∀ _:Unit,KT.centreK l=-1):=fun _=>by unfold KT.centreK;rw [hh];rfl
  clear hh;go_enter Tryz.func56,Tryz.ntmps56;go_wp2_with fail;refine HC.mono ?_;clear HC;rintro e w2 ⟨rfl,hb2⟩;go_wp2;go_ret;rw [HE.out ()];exact ⟨rfl,hb2⟩
 | true=>
  rw [hh] at HC;have HE:Hid (∀ _:Unit,KT.centreK l=idxI l ⟨0,0⟩):=fun _=>by unfold KT.centreK;rw [if_pos hh];rfl
  clear hh;go_enter Tryz.func56,Tryz.ntmps56;go_wp2_with fail;refine HC.mono ?_;clear HC;rintro e w2 ⟨rfl,hb2⟩;have HI:=hiD (index_pts A n c l ⟨0,0⟩ w2 (HR.out.up hb2) (by unfold maxLen at hm;omega));have HB2:=hiD hb2;clear hb2;go_wp2_with fail;refine HI.out.mono ?_;rintro e w3 ⟨rfl,hb3⟩;go_wp2;go_ret;rw [HE.out ()];exact ⟨rfl,HB2.out.trans (hb3.mono HB2.out.size)⟩
set_option maxHeartbeats 400000 in
theorem permits_any (l:List Pt) (sym:Int) (A:Option Addr) (n c:Nat) (w:World) (hr:Rd w w.heap.size 2 A n (hoodCells l)) (hm:n≤maxLen) (hmat:MatAt w):
 Calls Tryz.prog 117 #[.slice A n c,.int .i64 sym] w fun e w'=>e=.returned (.bool (KT.permitsK l sym))∧Below w.heap.size w w':=by
 have hln:l.length=n:=by have:=hr.1;rw [hoodCells,flat2_length _ (fun _=>rfl)] at this;omega
 have HLN:=hiD (show l.length=n from hln);have HC:=hiD (syms_any l A n c w hr hm hmat);clear hr hmat hln;go_enter Tryz.func117,Tryz.ntmps117;go_wp2_with fail;refine HC.out.mono ?_;clear HC;rintro e w2 ⟨SA,sn,sc,rfl,hrd,hsn,hb2⟩;have HRD:=hiD hrd;have HSN:=hiD hsn;have HB2:=hiD hb2
 have hs8:sn≤8:=by
  rw [hsn];unfold KT.symsL;split
  ·exact Nat.le_trans (List.length_filter_le _ _) (by simp)
  ·simp
 clear hrd hsn hb2;by_cases h0:sym=0
 ·subst h0;go_wp2;go_ret;exact ⟨rfl,HB2.out⟩
 have e0:(sym == 0)=false:=by simpa using h0
 by_cases h1:sym=1
 ·subst h1
  have HE:Hid (∀ _:Unit,((KT.symsL l).map fun (k:Nat)=>(k:Int)).contains 1=KT.permitsK l 1):=fun _=>by
   unfold KT.permitsK;rw [if_neg (by decide),if_pos rfl,Bool.eq_iff_iff];simp only [List.contains_iff_mem,List.mem_map];exact ⟨fun ⟨k,hk,e⟩=>by (have:k=1:=by omega);exact this ▸ hk,fun h=>⟨1,h,rfl⟩⟩
  have HC0:=contains_ints SA sn sc ((KT.symsL l).map fun (k:Nat)=>(k:Int)) 1 w2 HRD.out (by omega);rw [HE.out ()] at HC0;have HC:=hiD HC0;clear HC0;clear HE;go_wp2_with fail;refine HC.out.mono ?_;rintro e w3 ⟨rfl,hw3⟩;rw [hw3];go_wp2;go_ret;exact ⟨rfl,HB2.out⟩
 have e1:(sym == 1)=false:=by simpa using h1
 by_cases h2:sym=2
 ·subst h2
  have HE:Hid (∀ _:Unit,decide ((sn:Int)=8)=KT.permitsK l 2):=fun _=>by
   unfold KT.permitsK;rw [if_neg (by decide),if_neg (by decide),if_pos rfl,HSN.out,Bool.eq_iff_iff]
   simp
   omega
  by_cases h8:sn=8
  ·subst h8;go_wp2;go_ret;rw [← HE.out ()];exact ⟨rfl,HB2.out⟩
  ·have h8z:¬ (sn:Int)=8:=by omega
   have h8b:((sn:Int) == 8)=false:=by simpa using h8z
   go_wp2;go_ret;rw [← HE.out ()];exact ⟨ret_bool (by simp;omega),HB2.out⟩
 have e2:(sym == 2)=false:=by simpa using h2
 by_cases h3:sym=3
 ·subst h3
  have HE:Hid (∀ _:Unit,KT.permitsK l 3=decide ((n:Int)≤9)):=fun _=>by
   unfold KT.permitsK;rw [if_neg (by decide),if_neg (by decide),if_neg (by decide),if_pos rfl,HLN.out,Bool.eq_iff_iff]
   simp
   omega
  go_wp2;go_ret;rw [HE.out ()];exact ⟨rfl,HB2.out⟩
 ·have e3:(sym == 3)=false:=by simpa using h3
  have HE:Hid (∀ _:Unit,KT.permitsK l sym=false):=fun _=>by
   unfold KT.permitsK;rw [if_neg h0,if_neg h1,if_neg h2,if_neg h3]
  go_wp2;go_ret;rw [HE.out ()];exact ⟨rfl,HB2.out⟩
theorem right_head {t:KT.Tab} (h:KT.headK t=false):KT.rightK t=false:=by unfold KT.rightK;rw [h];rfl
theorem right_var {t:KT.Tab} {i:Nat} (hi:i < t.vars.length) (h:KT.varOk t (t.vars.getD i [])=false):KT.rightK t=false:=by
 unfold KT.rightK
 have:t.vars.all (KT.varOk t)=false:=by
  rw [List.all_eq_false];rw [List.getD_eq_getElem?_getD,List.getElem?_eq_getElem hi] at h;exact ⟨_,List.getElem_mem hi,by simpa using h⟩
 rw [this];simp
theorem right_row {t:KT.Tab} {i:Nat} (hi:i < t.rows.length) (h:KT.rowOk t (t.rows.getD i default)=false):KT.rightK t=false:=by
 unfold KT.rightK
 have:t.rows.all (KT.rowOk t)=false:=by
  rw [List.all_eq_false];rw [List.getD_eq_getElem?_getD,List.getElem?_eq_getElem hi] at h;exact ⟨_,List.getElem_mem hi,by simpa using h⟩
 rw [this];simp
theorem rowOk_len {t:KT.Tab} {ri:List Int} {ro:Int} (h:ri.length≠t.hood.length):KT.rowOk t ⟨ri,ro⟩=false:=by
 unfold KT.rowOk;simp [h]
theorem rowOk_out {t:KT.Tab} {ri:List Int} {ro:Int} (h:KT.elemOk t ro=false):KT.rowOk t ⟨ri,ro⟩=false:=by
 unfold KT.rowOk;simp [h]
theorem rowOk_has {t:KT.Tab} {ri:List Int} {ro:Int} (h0:ro < 0) (h:ri.contains ro=false):KT.rowOk t ⟨ri,ro⟩=false:=by
 unfold KT.rowOk;show (_ && (_ && ((decide (0≤ro) || ri.contains ro) && _)))=false;rw [h,decide_eq_false (show ¬ 0≤ro by omega)];simp
theorem rowOk_el {t:KT.Tab} {ri:List Int} {ro:Int} {m:Nat} (hm:m < ri.length) (h:KT.elemOk t (ri.getD m 0)=false):KT.rowOk t ⟨ri,ro⟩=false:=by
 unfold KT.rowOk;show (_ && (_ && (_ && ri.all (KT.elemOk t))))=false;rw [all_false_at _ _ m hm h];simp
theorem rowOk_all {t:KT.Tab} {ri:List Int} {ro:Int} (h1:ri.length=t.hood.length) (h2:KT.elemOk t ro=true) (h3:0≤ro∨ri.contains ro=true) (h4:∀ m,m < ri.length→KT.elemOk t (ri.getD m 0)=true):KT.rowOk t ⟨ri,ro⟩=true:=by
 unfold KT.rowOk;show (decide (ri.length=t.hood.length) && (KT.elemOk t ro && ((decide (0≤ro) || ri.contains ro) && ri.all (KT.elemOk t))))=true;rw [all_true_at _ _ h4,decide_eq_true h1,h2];rcases h3 with h3 | h3
 ·rw [decide_eq_true h3];rfl
 ·rw [h3];simp
theorem right_all {t:KT.Tab} (h1:KT.headK t=true) (h2:∀ j,j < t.vars.length→KT.varOk t (t.vars.getD j [])=true) (h3:∀ j,j < t.rows.length→KT.rowOk t (t.rows.getD j default)=true):KT.rightK t=true:=by
 have a:t.vars.all (KT.varOk t)=true:=by
  rw [List.all_eq_true];intro x hx;obtain ⟨j,hj,rfl⟩:=List.mem_iff_getElem.1 hx;have:=h2 j hj
  rwa [List.getD_eq_getElem?_getD,List.getElem?_eq_getElem hj,Option.getD_some] at this
 have b:t.rows.all (KT.rowOk t)=true:=by
  rw [List.all_eq_true];intro x hx;obtain ⟨j,hj,rfl⟩:=List.mem_iff_getElem.1 hx;have:=h3 j hj
  rwa [List.getD_eq_getElem?_getD,List.getElem?_eq_getElem hj,Option.getD_some] at this
 unfold KT.rightK;rw [h1,a,b];rfl
set_option maxHeartbeats 400000 in
theorem elem_any (t:KT.Tab) (P:TP) (x:Int) (tb:Nat) (w:World) (hr:Row w tb 60 [.int .i64 t.states,.int .i64 t.sym,.slice P.HA P.hn P.hc,.slice P.VA P.vn P.vc,.slice P.RA P.rn P.rc]) (hv:t.vars.length=P.vn) (hm:P.vn≤maxLen):
 Calls Tryz.prog 120 #[.int .i64 x,.pointer (some ⟨tb,0,none⟩)] w fun e w'=>e=.returned (.bool (KT.elemOk t x))∧w'=w:=by
 have R:=hiD hr;have HV:=hiD hv;unfold maxLen at hm;clear hr hv;obtain ⟨k0,k1,k2,k3,k4,kl⟩:=R.out.cells5;have hw:IntKind.i64.wrap (-(P.vn:Int))=-(P.vn:Int):=IntWalk.i64_in _ (by omega);by_cases h1:x < t.states
 ·have hd:decide (x < t.states)=true:=decide_eq_true h1
  have HE:Hid (∀ _:Unit,KT.elemOk t x=decide (-(P.vn:Int)≤x)):=fun _=>by
   unfold KT.elemOk;rw [HV.out,Bool.eq_iff_iff];simp [h1]
  go_enter Tryz.func120,Tryz.ntmps120;go_wp2;go_ret;rw [HE.out ()];exact ⟨rfl,rfl⟩
 ·have hd:decide (x < t.states)=false:=decide_eq_false h1
  have HE:Hid (∀ _:Unit,KT.elemOk t x=false):=fun _=>by
   unfold KT.elemOk;rw [decide_eq_false_iff_not];exact fun h=>h1 h.1
  go_enter Tryz.func120,Tryz.ntmps120;go_wp2;go_ret;rw [HE.out ()];exact ⟨rfl,rfl⟩
set_option maxRecDepth 100000 in
set_option maxHeartbeats 4000000 in
theorem right_any (t:KT.Tab) (P:TP) (w:World) (h:TabAt w t P) (hmat:MatAt w):
 Calls Tryz.prog 68 #[.agg #[.int .i64 t.states,.int .i64 t.sym,.slice P.HA P.hn P.hc,.slice P.VA P.vn P.vc,.slice P.RA P.rn P.rc]] w fun e w'=>e=.returned (.bool (KT.rightK t))∧Below w.heap.size w w':=by
 obtain ⟨HA,hn,hc,VA,vn,vc,RA,rn,rc,vs,rs⟩:=P;dsimp only;have H:=hiD h;have HM:=hiD hmat;have HHL:=hiD (show t.hood.length=hn from h.hl);have HVL:=hiD (show t.vars.length=vn from h.vl);have HRL:=hiD (show t.rows.length=rn from h.rl);have hh63:hn≤maxLen:=h.h63;have hv63:vn≤maxLen:=h.v63;have hr63:rn≤maxLen:=h.r63;have hv63':=hv63;have hr63':=hr63;unfold maxLen at hv63' hr63';have hmf:∀ (fn:Fn) (first cap:Array Value) (w:World),(Instr.makeFunc fn first cap).run Tryz.prog w=.ok (.func fn first cap) w:=fun _ _ _ _=>rfl
 clear h hmat;go_enter Tryz.func68,Tryz.ntmps68;go_upto_region 1 with fail
 have HB1:Hid (Below w.heap.size w ((World.alloc w (.cells #[.int .i64 t.states,.int .i64 t.sym,.slice HA hn hc,.slice VA vn vc,.slice RA rn rc] 60)))):=(show Below _ _ _ by go_grown)
 have RF1:Hid (Row ((World.alloc w (.cells #[.int .i64 t.states,.int .i64 t.sym,.slice HA hn hc,.slice VA vn vc,.slice RA rn rc] 60))) w.heap.size 60 [.int .i64 t.states,.int .i64 t.sym,.slice HA hn hc,.slice VA vn vc,.slice RA rn rc]):=Row.new w _ [.int .i64 t.states,.int .i64 t.sym,.slice HA hn hc,.slice VA vn vc,.slice RA rn rc];revert HB1 RF1;generalize (World.alloc w (.cells #[.int .i64 t.states,.int .i64 t.sym,.slice HA hn hc,.slice VA vn vc,.slice RA rn rc] 60))=w1;intro HB1 RF1;obtain ⟨k0,k1,k2,k3,k4,kl⟩:=RF1.out.cells5;by_cases h1:t.states < 2
 ·have hd1:decide (t.states < 2)=true:=decide_eq_true h1;have HF:Hid (∀ _:Unit,KT.rightK t=false):=fun _=>right_head (by unfold KT.headK;rw [decide_eq_false (by omega)];rfl)
  go_wp2;go_ret;rw [HF.out ()];exact ⟨rfl,HB1.out⟩
 have hd1:decide (t.states < 2)=false:=decide_eq_false h1;by_cases h2:8 < t.states
 ·have hd2:decide (8 < t.states)=true:=decide_eq_true h2;have HF:Hid (∀ _:Unit,KT.rightK t=false):=fun _=>right_head (by unfold KT.headK;rw [decide_eq_false (by omega)];rfl)
  go_wp2;go_ret;rw [HF.out ()];exact ⟨rfl,HB1.out⟩
 have hd2:decide (8 < t.states)=false:=decide_eq_false h2;have HC:=hoodRight_any t.hood HA hn hc w1 (H.out.up HB1.out).hood hh63
 cases hho:hoodOk t.hood with
 | false=>
  rw [hho] at HC;have HF0:Hid (∀ _:Unit,KT.rightK t=false):=fun _=>right_head (by unfold KT.headK;rw [hho];simp)
  clear hho;go_wp2_with fail;refine HC.mono ?_;clear HC;rintro e w2 ⟨rfl,hb2⟩;have HB2:Hid (Below w.heap.size w w2):=HB1.out.trans (hb2.mono HB1.out.size);have HF:Hid (∀ _:Unit,KT.rightK t=false):=fun _=>HF0.out ()
  go_wp2;go_ret;rw [HF.out ()];exact ⟨rfl,HB2.out⟩
 | true=>
 rw [hho] at HC;have HHO:=hiD hho;clear hho;go_wp2_with fail;refine HC.mono ?_;clear HC;rintro e w2 ⟨rfl,hb2⟩;have HB2:Hid (Below w.heap.size w w2):=HB1.out.trans (hb2.mono HB1.out.size);have RF2:=hiD (rowCells RF1.out hb2);clear hb2 k0 k1 k2 k3 k4 kl;obtain ⟨k0,k1,k2,k3,k4,kl⟩:=RF2.out.cells5;have HC:=permits_any t.hood t.sym HA hn hc w2 (H.out.up HB2.out).hood hh63 (HM.out.up HB2.out)
 cases hpe:KT.permitsK t.hood t.sym with
 | false=>
  rw [hpe] at HC;have HF0:Hid (∀ _:Unit,KT.rightK t=false):=fun _=>right_head (by unfold KT.headK;rw [hpe];simp)
  clear hpe;go_wp2_with fail;refine HC.mono ?_;clear HC;rintro e w3 ⟨rfl,hb3⟩;have HB3:Hid (Below w.heap.size w w3):=HB2.out.trans (hb3.mono HB2.out.size);have HF:Hid (∀ _:Unit,KT.rightK t=false):=fun _=>HF0.out ()
  go_wp2;go_ret;rw [HF.out ()];exact ⟨rfl,HB3.out⟩
 | true=>
 rw [hpe] at HC;have HPE:=hiD hpe;clear hpe;go_wp2_with fail;refine HC.mono ?_;clear HC;rintro e w3 ⟨rfl,hb3⟩;have HB3:Hid (Below w.heap.size w w3):=HB2.out.trans (hb3.mono HB2.out.size);have RF3:=hiD (rowCells RF2.out hb3);clear hb3 k0 k1 k2 k3 k4 kl;obtain ⟨k0,k1,k2,k3,k4,kl⟩:=RF3.out.cells5;by_cases h3:40 < vn
 ·have h3z:(40:Int) < (vn:Int):=by omega
  have hd3:decide ((40:Int) < (vn:Int))=true:=decide_eq_true h3z;have HF:Hid (∀ _:Unit,KT.rightK t=false):=fun _=>right_head (by unfold KT.headK;rw [decide_eq_false (p:=t.vars.length≤40∧t.rows.length≤400) (by have:=HVL.out;omega)];simp)
  go_wp2;go_ret;rw [HF.out ()];exact ⟨rfl,HB3.out⟩
 have h3z:¬ (40:Int) < (vn:Int):=by omega
 have hd3:decide ((40:Int) < (vn:Int))=false:=decide_eq_false h3z;by_cases h4:400 < rn
 ·have h4z:(400:Int) < (rn:Int):=by omega
  have hd4:decide ((400:Int) < (rn:Int))=true:=decide_eq_true h4z;have HF:Hid (∀ _:Unit,KT.rightK t=false):=fun _=>right_head (by unfold KT.headK;rw [decide_eq_false (p:=t.vars.length≤40∧t.rows.length≤400) (by have:=HRL.out;omega)];simp)
  go_wp2;go_ret;rw [HF.out ()];exact ⟨rfl,HB3.out⟩
 have h4z:¬ (400:Int) < (rn:Int):=by omega
 have hd4:decide ((400:Int) < (rn:Int))=false:=decide_eq_false h4z
 have HHD:Hid (KT.headK t=true):=by
  show _=_;unfold KT.headK;rw [HHO.out,HPE.out,decide_eq_true (p:=t.vars.length≤40∧t.rows.length≤400) (by have:=HVL.out;have:=HRL.out;omega),decide_eq_true (p:=2≤t.states∧t.states≤8) (by omega)];rfl
 go_wp2_with fail;clear k0 k1 k2 k3 k4 kl hd1 hd2 hd3 hd4 h3z h4z
 go_loopg [4,5,6,49] vn (fun gg _ _ _ s49 wr=>∃ i:Nat,i≤vn∧vn - i≤gg∧s49=.int .i64 (i:Int)∧Aside (Below w3.heap.size w3 wr)∧Aside (∀ j,j < i→KT.varOk t (t.vars.getD j [])=true))
 case atStart=>exact ⟨0,Nat.zero_le _,by omega,rfl,Below.refl _ _,fun j hj=>absurd hj (Nat.not_lt_zero _)⟩
 case round=>
  obtain ⟨i,hi,hgg,rfl,BW,AA⟩:=hrel;have HBr:=hiD (below_on2 HB3.out BW.out);have RFr:=hiD (rowCells RF3.out BW.out);obtain ⟨k0,k1,k2,k3,k4,kl⟩:=RFr.out.cells5;by_cases hlt:i < vn
  ·have hltz:(i:Int) < (vn:Int):=by omega
   obtain ⟨ad,hva,hb,g0,hrd,hql,hll⟩:=(H.out.up HBr.out).varAt hlt;dsimp only at hva g0 hrd hql hll;subst hva;have hfalse:Hid (KT.varOk t (t.vars.getD i [])=false→KT.rightK t=false):=fun he=>right_var (by rw [HVL.out];exact hlt) he
   revert g0 hrd hql hll hfalse;generalize hL:t.vars.getD i []=L;generalize vs.getD i default=q;obtain ⟨qa,ql,qc⟩:=q;intro g0 hrd hql hll hfalse;dsimp only at g0 hrd hql hll;have HRD:=hiD hrd;have HLL:=hiD hll;have HL:=hiD hL;unfold maxLen at hql;clear hrd hll hL;by_cases hq0:ql=0
   ·subst hq0;have HF:Hid (∀ _:Unit,KT.rightK t=false):=fun _=>hfalse.out (decide_eq_false (fun h=>h.1 HLL.out))
    go_wp2;go_ret;rw [HF.out ()];exact ⟨rfl,HBr.out⟩
   have hq0z:((ql:Int) == 0)=false:=by simp;omega
   go_wp2;clear hq0z g0 k0 k1 k2 k3 k4 kl
   obtain ⟨wo,rfl⟩:∃ wo:World,wo=wr:=⟨_,rfl⟩
   go_loopg [5,6,58] ql (fun gg _ _ s58 wr=>∃ m:Nat,m≤ql∧ql - m≤gg∧s58=.int .i64 (m:Int)∧Aside (Below wo.heap.size wo wr)∧Aside (∀ j,j < m→(0≤L.getD j 0∧L.getD j 0 < t.states)∧(j=0∨L.getD (j - 1) 0 < L.getD j 0)))
   case atStart=>exact ⟨0,Nat.zero_le _,by omega,rfl,Below.refl _ _,fun j hj=>absurd hj (Nat.not_lt_zero _)⟩
   case round=>
    obtain ⟨m,hm,hg2,rfl,BI,AI⟩:=hrel;have HBi:=hiD (below_on2 HBr.out BI.out);have RFi:=hiD (rowCells RFr.out BI.out);obtain ⟨k0,k1,k2,k3,k4,kl⟩:=RFi.out.cells5;by_cases hlt2:m < ql
    ·have hltz2:(m:Int) < (ql:Int):=by omega
     obtain ⟨adn,rfl,hbn,hz⟩:=(HRD.out.up BI.out).int hlt2;have HKO:Hid (∀ _:¬ ((0≤L.getD m 0∧L.getD m 0 < t.states)∧(m=0∨L.getD (m - 1) 0 < L.getD m 0)),KT.rightK t=false):=fun hh=>hfalse.out (decide_eq_false (fun h=>hh (h.2 m (by rw [HLL.out];exact hlt2))))
     have HGO:Hid (∀ _:(0≤L.getD m 0∧L.getD m 0 < t.states)∧(m=0∨L.getD (m - 1) 0 < L.getD m 0),∀ j,j < m+1→(0≤L.getD j 0∧L.getD j 0 < t.states)∧(j=0∨L.getD (j - 1) 0 < L.getD j 0)):=fun hh j hj=>by
      by_cases e:j=m
      ·subst e;exact hh
      ·exact AI.out j (by omega)
     revert HKO HGO hz;generalize hz0:L.getD m 0=z;intro hz HKO HGO;clear hz0;by_cases a1:z < 0
     ·have d1:decide (z < 0)=true:=decide_eq_true a1;have HF:Hid (∀ _:Unit,KT.rightK t=false):=fun _=>HKO.out (fun h=>by omega)
      go_wp2;go_ret;rw [HF.out ()];exact ⟨rfl,HBi.out⟩
     have d1:decide (z < 0)=false:=decide_eq_false a1;by_cases a2:t.states≤z
     ·have d2:decide (t.states≤z)=true:=decide_eq_true a2;have HF:Hid (∀ _:Unit,KT.rightK t=false):=fun _=>HKO.out (fun h=>by omega)
      go_wp2;go_ret;rw [HF.out ()];exact ⟨rfl,HBi.out⟩
     have d2:decide (t.states≤z)=false:=decide_eq_false a2;by_cases a3:m=0
     ·have d3:decide ((0:Int) < (m:Int))=false:=decide_eq_false (by omega);have d3n:decide (0 < m)=false:=decide_eq_false (by omega);have A3:=hiD a3;clear a3;go_wp2;go_roundg (ql - (m+1))
      case measure=>omega
      case rel=>exact ⟨m+1,by omega,by omega,by go_num,BI.out,HGO.out ⟨by omega,.inl A3.out⟩⟩
     ·obtain ⟨p,hmp⟩:∃ p:Nat,m=p+1:=⟨m - 1,by omega⟩
      obtain ⟨adn2,e2,_,hy⟩:=(HRD.out.up BI.out).int (k:=p) (by omega)
      cases e2
      have HMP:=hiD hmp;have d3:decide ((0:Int) < (m:Int))=true:=decide_eq_true (by omega);have d3n:decide (0 < m)=true:=decide_eq_true (by omega);have hw:IntKind.i64.wrap ((m:Int) - 1)=(p:Int):=by rw [IntWalk.i64_in _ (by omega)];omega
      have hp1:(p:Int) < (ql:Int):=by omega
      have hp2:(0:Int)≤(p:Int):=by omega
      clear hmp;revert hy;generalize hy0:L.getD p 0=y;intro hy;have HY:Hid (L.getD (m - 1) 0=y):=by show _=_;rw [HMP.out];exact hy0
      clear hy0;by_cases a4:z≤y
      ·have d4:decide (z≤y)=true:=decide_eq_true a4;have HF:Hid (∀ _:Unit,KT.rightK t=false):=fun _=>HKO.out (fun h=>by rw [HY.out] at h;omega)
       go_wp2;go_ret;rw [HF.out ()];exact ⟨rfl,HBi.out⟩
      ·have d4:decide (z≤y)=false:=decide_eq_false a4;go_wp2;go_roundg (ql - (m+1))
       case measure=>omega
       case rel=>exact ⟨m+1,by omega,by omega,by go_num,BI.out,HGO.out ⟨by omega,.inr (by rw [HY.out];omega)⟩⟩
    ·have hltz2:¬ (m:Int) < (ql:Int):=by omega
     have HK:Hid (KT.varOk t L=true):=decide_eq_true ⟨by rw [HLL.out];exact hq0,fun j hj=>AI.out j (by rw [HLL.out] at hj;omega)⟩;go_wp2;go_roundg (vn - (i+1))
     case measure=>omega
     case rel=>
      refine ⟨i+1,by omega,by omega,by go_num,(show Below _ _ _ from below_on2 BW.out BI.out),(show Aside _ from fun j hj=>?_)⟩;by_cases e:j=i
      ·subst e;rw [HL.out];exact HK.out
      ·exact AA.out j (by omega)
  ·have hltz:¬ (i:Int) < (vn:Int):=by omega
   go_wp2;clear k0 k1 k2 k3 k4 kl hltz;have HVO:Hid (∀ j,j < t.vars.length→KT.varOk t (t.vars.getD j [])=true):=fun j hj=>AA.out j (by have:=HVL.out;omega)
   clear AA BW hgg hlt
   obtain ⟨w4,rfl⟩:∃ w4:World,w4=wr:=⟨_,rfl⟩
   go_loopg [9,11,90] rn (fun gg _ _ s90 wr=>∃ j:Nat,j≤rn∧rn - j≤gg∧s90=.int .i64 (j:Int)∧Aside (Below w4.heap.size w4 wr)∧Aside (∀ k,k < j→KT.rowOk t (t.rows.getD k default)=true))
   case atStart=>exact ⟨0,Nat.zero_le _,by omega,rfl,Below.refl _ _,fun j hj=>absurd hj (Nat.not_lt_zero _)⟩
   case round=>
    obtain ⟨j,hj,hgg,rfl,BX,AX⟩:=hrel;have HBx:=hiD (below_on2 HBr.out BX.out);have RFx:=hiD (rowCells RFr.out BX.out);obtain ⟨k0,k1,k2,k3,k4,kl⟩:=RFx.out.cells5;by_cases hlt:j < rn
    ·have hltz:(j:Int) < (rn:Int):=by omega
     obtain ⟨ad,hra,hb,g0,g1,hrd,hql,hll⟩:=(H.out.up HBx.out).rowAt hlt;dsimp only at hra g0 g1 hrd hql hll;subst hra;have hfalse:Hid (KT.rowOk t (t.rows.getD j default)=false→KT.rightK t=false):=fun he=>right_row (by rw [HRL.out];exact hlt) he
     revert g0 g1 hrd hql hll hfalse;generalize hL:t.rows.getD j default=R;generalize rs.getD j default=q;obtain ⟨qa,ql,qc⟩:=q;obtain ⟨ri,ro⟩:=R;intro g0 g1 hrd hql hll hfalse;dsimp only at g0 g1 hrd hql hll;have HLL:=hiD hll;have HL:=hiD hL;have HQL:=hiD hql;unfold maxLen at hql;clear hll hL;have RB5:Hid (Row (World.alloc wr (.cells #[.slice qa ql qc,.int .i64 ro] 179)) wr.heap.size 179 [.slice qa ql qc,.int .i64 ro]):=Row.new wr _ [.slice qa ql qc,.int .i64 ro];have HB5:Hid (Below w.heap.size w (World.alloc wr (.cells #[.slice qa ql qc,.int .i64 ro] 179))):=HBx.out.alloc HBx.out.size _;have RF5:Hid (Row (World.alloc wr (.cells #[.slice qa ql qc,.int .i64 ro] 179)) w.heap.size 60 [.int .i64 t.states,.int .i64 t.sym,.slice HA hn hc,.slice VA vn vc,.slice (some ad) rn rc]):=RFx.out.alloc _;have HX5:Hid (Below w4.heap.size w4 (World.alloc wr (.cells #[.slice qa ql qc,.int .i64 ro] 179))):=BX.out.alloc BX.out.size _;have HR5:Hid (Rd (World.alloc wr (.cells #[.slice qa ql qc,.int .i64 ro] 179)) (World.alloc wr (.cells #[.slice qa ql qc,.int .i64 ro] 179)).heap.size 1 qa ql (ints ri)):=hrd.up ((Below.refl _ _).alloc (Nat.le_refl _) _);clear hrd;go_upto_region 19 with fail;clear g0 g1 k0 k1 k2 k3 k4 kl;revert RB5 HB5 RF5 HX5 HR5;generalize (World.alloc wr (.cells #[.slice qa ql qc,.int .i64 ro] 179))=w5;generalize wr.heap.size=rb;intro RB5 HB5 RF5 HX5 HR5;obtain ⟨j0,j1,jl⟩:=RB5.out.cells2;obtain ⟨k0,k1,k2,k3,k4,kl⟩:=RF5.out.cells5
     cases c1:((ql:Int) != (hn:Int)) with
     | true=>
      have HF:Hid (∀ _:Unit,KT.rightK t=false):=fun _=>hfalse.out (rowOk_len (by rw [HLL.out,HHL.out];have:=bne_iff_ne.1 c1;omega))
      go_wp2;go_ret;rw [HF.out ()];exact ⟨rfl,HB5.out⟩
     | false=>
     have HC1:Hid (ri.length=t.hood.length):=by
      show _=_;have:(ql:Int)=hn:=by simpa using c1
      rw [HLL.out,HHL.out];omega
     have HC:=elem_any t ⟨HA,hn,hc,VA,vn,vc,some ad,rn,rc,vs,rs⟩ ro w.heap.size w5 RF5.out HVL.out hv63
     cases he:KT.elemOk t ro with
     | false=>
      rw [he] at HC;have HE:=hiD he;clear he;go_wp2_with fail;refine HC.mono ?_;clear HC;rintro e w6 ⟨rfl,hw6⟩;subst w6;have HF:Hid (∀ _:Unit,KT.rightK t=false):=fun _=>hfalse.out (rowOk_out HE.out)
      go_wp2;go_ret;rw [HF.out ()];exact ⟨rfl,HB5.out⟩
     | true=>
     rw [he] at HC;have HE:=hiD he;have HC:=hiD HC;clear he;have HHAS:Hid (ro < 0∨0≤ro):=by show _∨_;omega
     rcases HHAS.out with h0 | h0
     ·have d0:decide (ro < 0)=true:=decide_eq_true h0;have HD:=contains_ints qa ql qc ri ro w5 HR5.out (by omega)
      cases hcn:ri.contains ro with
      | false=>
       rw [hcn] at HD;have HN:=hiD hcn;have HD:=hiD HD;clear hcn;go_wp2_with fail;refine HC.out.mono ?_;rintro e w6 ⟨rfl,hw6⟩;subst w6;go_wp2_with fail;refine HD.out.mono ?_;rintro e w7 ⟨rfl,hw7⟩;subst w7;have HF:Hid (∀ _:Unit,KT.rightK t=false):=fun _=>hfalse.out (rowOk_has h0 HN.out)
       go_wp2;go_ret;rw [HF.out ()];exact ⟨rfl,HB5.out⟩
      | true=>
       rw [hcn] at HD;have HD:=hiD HD;have HO:Hid (0≤ro∨ri.contains ro=true):=Or.inr hcn;clear hcn;go_wp2_with fail;refine HC.out.mono ?_;rintro e w6 ⟨rfl,hw6⟩;subst w6;go_wp2_with fail;refine HD.out.mono ?_;rintro e w7 ⟨rfl,hw7⟩;subst w7;clear HD;go_wp2;clear d0 c1 j0 j1 jl k0 k1 k2 k3 k4 kl
       go_loopg [11,124] ql (fun gg _ s124 wr=>∃ m:Nat,m≤ql∧ql - m≤gg∧s124=.int .i64 (m:Int)∧Aside (Below w5.heap.size w5 wr)∧Aside (∀ k,k < m→KT.elemOk t (ri.getD k 0)=true))
       case atStart=>exact ⟨0,Nat.zero_le _,by omega,rfl,Below.refl _ _,fun j hj=>absurd hj (Nat.not_lt_zero _)⟩
       case round=>
        obtain ⟨m,hm,hg2,rfl,BI,AI⟩:=hrel;have HBi:=hiD (below_on2 HB5.out BI.out);have RFi:=hiD (rowCells RF5.out BI.out);by_cases hlt2:m < ql
        ·have hltz2:(m:Int) < (ql:Int):=by omega
         obtain ⟨adn,rfl,hbn,hz⟩:=(HR5.out.up BI.out).int hlt2;have HC:=elem_any t ⟨HA,hn,hc,VA,vn,vc,some ad,rn,rc,vs,rs⟩ (ri.getD m 0) w.heap.size wr RFi.out HVL.out hv63
         cases he:KT.elemOk t (ri.getD m 0) with
         | false=>
          rw [he] at HC;have HKO:Hid (KT.rightK t=false):=hfalse.out (rowOk_el (by rw [HLL.out];exact hlt2) he);clear he;revert hz HC;generalize ri.getD m 0=z;intro hz HC;have HC:=hiD HC;go_wp2_with fail;refine HC.out.mono ?_;rintro e w6 ⟨rfl,hw6⟩;subst w6;have HF:Hid (∀ _:Unit,KT.rightK t=false):=fun _=>HKO.out
          go_wp2;go_ret;rw [HF.out ()];exact ⟨rfl,HBi.out⟩
         | true=>
          rw [he] at HC;have HKO:=hiD he;clear he;revert hz HC HKO;generalize hzz:ri.getD m 0=z;intro hz HC HKO;have HZ:=hiD hzz;have HC:=hiD HC;clear hzz;go_wp2_with fail;refine HC.out.mono ?_;rintro e w6 ⟨rfl,hw6⟩;subst w6;go_wp2;go_roundg (ql - (m+1))
          case measure=>omega
          case rel=>
           refine ⟨m+1,by omega,by omega,by go_num,BI.out,(show Aside _ from fun k hk=>?_)⟩;by_cases e:k=m
           ·subst e;rw [HZ.out];exact HKO.out
           ·exact AI.out k (by omega)
        ·have hltz2:¬ (m:Int) < (ql:Int):=by omega
         have HK:Hid (KT.rowOk t ⟨ri,ro⟩=true):=rowOk_all HC1.out HE.out HO.out (fun k hk=>AI.out k (by rw [HLL.out] at hk;omega));go_wp2;go_roundg (rn - (j+1))
         case measure=>omega
         case rel=>
          refine ⟨j+1,by omega,by omega,by go_num,(show Below _ _ _ from below_on2 HX5.out BI.out),(show Aside _ from fun k hk=>?_)⟩;by_cases e:k=j
          ·subst e;rw [HL.out];exact HK.out
          ·exact AX.out k (by omega)
     ·have d0:decide (ro < 0)=false:=decide_eq_false (by omega);have HO:Hid (0≤ro∨ri.contains ro=true):=Or.inl h0;go_wp2_with fail;refine HC.out.mono ?_;rintro e w6 ⟨rfl,hw6⟩;subst w6;go_wp2;clear d0 c1 j0 j1 jl k0 k1 k2 k3 k4 kl
      go_loopg [11,124] ql (fun gg _ s124 wr=>∃ m:Nat,m≤ql∧ql - m≤gg∧s124=.int .i64 (m:Int)∧Aside (Below w5.heap.size w5 wr)∧Aside (∀ k,k < m→KT.elemOk t (ri.getD k 0)=true))
      case atStart=>exact ⟨0,Nat.zero_le _,by omega,rfl,Below.refl _ _,fun j hj=>absurd hj (Nat.not_lt_zero _)⟩
      case round=>
       obtain ⟨m,hm,hg2,rfl,BI,AI⟩:=hrel;have HBi:=hiD (below_on2 HB5.out BI.out);have RFi:=hiD (rowCells RF5.out BI.out);by_cases hlt2:m < ql
       ·have hltz2:(m:Int) < (ql:Int):=by omega
        obtain ⟨adn,rfl,hbn,hz⟩:=(HR5.out.up BI.out).int hlt2;have HC:=elem_any t ⟨HA,hn,hc,VA,vn,vc,some ad,rn,rc,vs,rs⟩ (ri.getD m 0) w.heap.size wr RFi.out HVL.out hv63
        cases he:KT.elemOk t (ri.getD m 0) with
        | false=>
         rw [he] at HC;have HKO:Hid (KT.rightK t=false):=hfalse.out (rowOk_el (by rw [HLL.out];exact hlt2) he);clear he;revert hz HC;generalize ri.getD m 0=z;intro hz HC;have HC:=hiD HC;go_wp2_with fail;refine HC.out.mono ?_;rintro e w6 ⟨rfl,hw6⟩;subst w6;have HF:Hid (∀ _:Unit,KT.rightK t=false):=fun _=>HKO.out
         go_wp2;go_ret;rw [HF.out ()];exact ⟨rfl,HBi.out⟩
        | true=>
         rw [he] at HC;have HKO:=hiD he;clear he;revert hz HC HKO;generalize hzz:ri.getD m 0=z;intro hz HC HKO;have HZ:=hiD hzz;have HC:=hiD HC;clear hzz;go_wp2_with fail;refine HC.out.mono ?_;rintro e w6 ⟨rfl,hw6⟩;subst w6;go_wp2;go_roundg (ql - (m+1))
         case measure=>omega
         case rel=>
          refine ⟨m+1,by omega,by omega,by go_num,BI.out,(show Aside _ from fun k hk=>?_)⟩;by_cases e:k=m
          ·subst e;rw [HZ.out];exact HKO.out
          ·exact AI.out k (by omega)
       ·have hltz2:¬ (m:Int) < (ql:Int):=by omega
        have HK:Hid (KT.rowOk t ⟨ri,ro⟩=true):=rowOk_all HC1.out HE.out HO.out (fun k hk=>AI.out k (by rw [HLL.out] at hk;omega));go_wp2;go_roundg (rn - (j+1))
        case measure=>omega
        case rel=>
         refine ⟨j+1,by omega,by omega,by go_num,(show Below _ _ _ from below_on2 HX5.out BI.out),(show Aside _ from fun k hk=>?_)⟩;by_cases e:k=j
         ·subst e;rw [HL.out];exact HK.out
         ·exact AX.out k (by omega)
    ·have hltz:¬ (j:Int) < (rn:Int):=by omega
     have HF:Hid (∀ _:Unit,KT.rightK t=true):=fun _=>right_all HHD.out HVO.out (fun k hk=>AX.out k (by have:=HRL.out;omega))
     go_wp2;go_ret;rw [HF.out ()];exact ⟨rfl,HBx.out⟩
end Go.Proofs.YtbijfnbelkbofaaGreatDoor
