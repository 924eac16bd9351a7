/-
  Lemmas for the law TopCircuits.
-/
import Derived.Test.YtbijfnbelkbofaaGreatDoorJZ1
import Derived.Test.YtbijfnbelkbofaaGreatDoorProg
import Derived.Deep.QuietTactic
import Derived.BigQuiet
import Derived.Deep.Light
import Derived.Test.YtbijfnbelkbofaaGreatDoorJZ10
import Derived.Test.YtbijfnbelkbofaaGreatDoorJZ13
import Derived.Test.YtbijfnbelkbofaaGreatDoorJZ11
import Derived.Test.YtbijfnbelkbofaaGreatDoorJZ2
import Derived.ProofKit
import Derived.Deep.Slices
import Derived.Deep.Strs
import Derived.Lib.SmallJoins
import Derived.Test.YtbijfnbelkbofaaGreatDoorRows
import Derived.Test.YtbijfnbelkbofaaGreatDoorJZ7
set_option linter.unusedSimpArgs false
set_option linter.unusedVariables false
namespace Go.Proofs.YtbijfnbelkbofaaGreatDoor
open Go.RowKit
theorem list_eq_of_getD {α:Type} [Inhabited α] {xs ys:List α} (hl:xs.length=ys.length) (d:α) (h:∀ k,k < xs.length→xs.getD k d=ys.getD k d):xs=ys:=by
 apply List.ext_getElem hl
 intro k h1 h2;have:=h k h1
 simpa [List.getD_eq_getElem?_getD,List.getElem?_eq_getElem h1,List.getElem?_eq_getElem h2] using this
end Go.Proofs.YtbijfnbelkbofaaGreatDoor
namespace Go.Proofs.YtbijfnbelkbofaaGreatDoor
open Go.RowKit
theorem gate_neq (x y:Gt) (W:World):(binOp .neq 135 (.agg #[.int .i64 x.op,.int .i64 x.a,.int .i64 x.b]) (.agg #[.int .i64 y.op,.int .i64 y.a,.int .i64 y.b])).run Tryz.prog W=.ok (.bool (!gtEq x y)) W:=by
 unfold gtEq
 cases h1:(x.op == y.op) <;> cases h2:(x.a == y.a) <;> cases h3:(x.b == y.b) <;> (simp only [beq_eq_false_iff_ne,beq_iff_eq] at h1 h2 h3;go_simp)
end Go.Proofs.YtbijfnbelkbofaaGreatDoor
namespace Go.Proofs.YtbijfnbelkbofaaGreatDoor
open Go.RowKit
set_option maxHeartbeats 400000 in
theorem equal_ints (A A':Option Addr) (n m c c':Nat) (xs ys:List Int) (w:World)
 (hx:Rd w w.heap.size 1 A n (ints xs)) (hy:Rd w w.heap.size 1 A' m (ints ys)) (hn:n≤maxLen) (hm:m≤maxLen):
 Calls Tryz.prog 89 #[.slice A n c,.slice A' m c'] w fun e w'=>e=.returned (.bool (decide (xs=ys)))∧Below w.heap.size w w':=by
 unfold maxLen at hn hm;have HX:=hiD hx;have HY:=hiD hy;have LX:Hid (xs.length=n):=by have:=hx.1;simp at this;show _=_;omega
 have LY:Hid (ys.length=m):=by have:=hy.1;simp at this;show _=_;omega
 clear hx hy;by_cases hnm:n=m
 ·subst hnm;go_enter Tryz.func89,Tryz.ntmps89;go_wp2
  go_loopg [5,13] n (fun gg _ s13 wr=>∃ kk:Nat,kk≤n∧n - kk≤gg∧s13=.int .i64 kk∧Aside (Below w.heap.size w wr)∧Aside (∀ j,j < kk→xs.getD j 0=ys.getD j 0))
  case atStart=>exact ⟨0,Nat.zero_le _,by omega,rfl,Below.refl _ _,fun j hj=>absurd hj (Nat.not_lt_zero _)⟩
  case round=>
   obtain ⟨kk,hkk,hg,rfl,BW,AA⟩:=hrel;by_cases hlt:kk < n
   ·have hltz:(kk:Int) < (n:Int):=by omega
    obtain ⟨ad,rfl,hb,hcell⟩:=(HX.out.below BW.out (Nat.le_refl _)).int hlt;obtain ⟨ad',rfl,hb',hcell'⟩:=(HY.out.below BW.out (Nat.le_refl _)).int hlt;generalize h1:xs.getD kk 0=x at hcell;generalize h2:ys.getD kk 0=y at hcell'
    have HE:Aside (xs.getD kk 0=x∧ys.getD kk 0=y):=⟨h1,h2⟩
    clear h1 h2
    cases hxy:(x != y)
    ·go_wp2_with fail;go_quiet (fail);go_wp2;go_roundg (n - (kk+1))
     case measure=>omega
     case rel=>
      refine ⟨kk+1,by omega,by omega,by go_num,(show Below _ _ _ from below_drewN BW.out _),(show Aside _ from fun j hj=>?_)⟩;by_cases e:j=kk
      ·subst e;rw [HE.out.1,HE.out.2]
       simpa using hxy
      ·exact AA.out j (by omega)
    ·go_wp2_with fail;go_quiet (fail);go_wp2;go_ret;refine ⟨ret_bool ?_,below_drewN BW.out _⟩
     symm
     rw [decide_eq_false_iff_not];rintro rfl;have:=HE.out.1.symm.trans HE.out.2
     simp [this] at hxy
   ·have hltz:¬ (kk:Int) < (n:Int):=by omega
    obtain rfl:kk=n:=by omega
    go_wp2;go_ret;refine ⟨ret_bool ?_,BW.out⟩
    symm
    rw [decide_eq_true_iff];exact list_eq_of_getD (LX.out.trans LY.out.symm) 0 (fun k hk=>AA.out k (by rw [LX.out] at hk;exact hk))
 ·have hnm':((n:Int) != (m:Int))=true:=by rw [bne_iff_ne];omega
  go_enter Tryz.func89,Tryz.ntmps89;go_wp2;go_ret;refine ⟨ret_bool ?_,Below.refl _ _⟩
  symm
  rw [decide_eq_false_iff_not];rintro rfl;exact hnm (LX.out.symm.trans LY.out)
end Go.Proofs.YtbijfnbelkbofaaGreatDoor
namespace Go.Proofs.YtbijfnbelkbofaaGreatDoor
open Go.RowKit
set_option maxHeartbeats 400000 in
theorem equal_gates (A A':Option Addr) (n m c c':Nat) (xs ys:List Gt) (w:World)
 (hx:Rd w w.heap.size 3 A n (gatesCells xs)) (hy:Rd w w.heap.size 3 A' m (gatesCells ys)) (hn:n≤maxLen) (hm:m≤maxLen):
 Calls Tryz.prog 88 #[.slice A n c,.slice A' m c'] w fun e w'=>e=.returned (.bool (decide (xs=ys)))∧Below w.heap.size w w':=by
 unfold maxLen at hn hm;have HX:=hiD hx;have HY:=hiD hy;have LX:Hid (xs.length=n):=by have:=hx.1;rw [gatesCells_length] at this;show _=_;omega
 have LY:Hid (ys.length=m):=by have:=hy.1;rw [gatesCells_length] at this;show _=_;omega
 clear hx hy;by_cases hnm:n=m
 ·subst hnm;go_enter Tryz.func88,Tryz.ntmps88;go_wp2
  go_loopg [5,13] n (fun gg _ s13 wr=>∃ kk:Nat,kk≤n∧n - kk≤gg∧s13=.int .i64 kk∧Aside (Below w.heap.size w wr)∧Aside (∀ j,j < kk→xs.getD j default=ys.getD j default))
  case atStart=>exact ⟨0,Nat.zero_le _,by omega,rfl,Below.refl _ _,fun j hj=>absurd hj (Nat.not_lt_zero _)⟩
  case round=>
   obtain ⟨kk,hkk,hg,rfl,BW,AA⟩:=hrel;by_cases hlt:kk < n
   ·have hltz:(kk:Int) < (n:Int):=by omega
    obtain ⟨ad,rfl,hb,h0,h1,h2⟩:=(HX.out.below BW.out (Nat.le_refl _)).gate hlt;obtain ⟨ad',rfl,hb',g0,g1,g2⟩:=(HY.out.below BW.out (Nat.le_refl _)).gate hlt;generalize hz1:xs.getD kk default=x at h0 h1 h2;generalize hz2:ys.getD kk default=y at g0 g1 g2
    have HE:Aside (xs.getD kk default=x∧ys.getD kk default=y):=⟨hz1,hz2⟩
    clear hz1 hz2;have hq:=gate_neq x y
    cases hxy:!gtEq x y
    all_goals rw [hxy] at hq
    ·go_wp2_with fail;go_quiet (fail);go_wp2;go_roundg (n - (kk+1))
     case measure=>omega
     case rel=>
      refine ⟨kk+1,by omega,by omega,by go_num,(show Below _ _ _ from below_drewN BW.out _),(show Aside _ from fun j hj=>?_)⟩;by_cases e:j=kk
      ·subst e;rw [HE.out.1,HE.out.2];exact (gtEq_iff x y).1 (by simpa using hxy)
      ·exact AA.out j (by omega)
    ·go_wp2_with fail;go_quiet (fail);go_wp2;go_ret;refine ⟨ret_bool ?_,below_drewN BW.out _⟩
     symm
     rw [decide_eq_false_iff_not];rintro rfl;have:=HE.out.1.symm.trans HE.out.2;rw [(gtEq_iff x y).2 this] at hxy
     cases hxy
   ·have hltz:¬ (kk:Int) < (n:Int):=by omega
    obtain rfl:kk=n:=by omega
    go_wp2;go_ret;refine ⟨ret_bool ?_,BW.out⟩
    symm
    rw [decide_eq_true_iff];exact list_eq_of_getD (LX.out.trans LY.out.symm) default (fun k hk=>AA.out k (by rw [LX.out] at hk;exact hk))
 ·have hnm':((n:Int) != (m:Int))=true:=by rw [bne_iff_ne];omega
  go_enter Tryz.func88,Tryz.ntmps88;go_wp2;go_ret;refine ⟨ret_bool ?_,Below.refl _ _⟩
  symm
  rw [decide_eq_false_iff_not];rintro rfl;exact hnm (LX.out.symm.trans LY.out)
end Go.Proofs.YtbijfnbelkbofaaGreatDoor
namespace Go.Proofs.YtbijfnbelkbofaaGreatDoor
end Go.Proofs.YtbijfnbelkbofaaGreatDoor
namespace Go.Proofs.YtbijfnbelkbofaaGreatDoor
open Go.RowKit
set_option maxHeartbeats 400000 in
theorem same_any (i j:Int) (GA OA GB OB:Option Addr) (gn gc on oc hn hc pn pc:Nat) (gs hs:List Gt) (os ps:List Int) (w:World)
 (hG:Rd w w.heap.size 3 GA gn (gatesCells gs)) (hO:Rd w w.heap.size 1 OA on (ints os)) (hm1:gn≤maxLen) (hm2:on≤maxLen)
 (hH:Rd w w.heap.size 3 GB hn (gatesCells hs)) (hP:Rd w w.heap.size 1 OB pn (ints ps)) (hm3:hn≤maxLen) (hm4:pn≤maxLen):
 Calls Tryz.prog 36 #[.agg #[.int .i64 i,.slice GA gn gc,.slice OA on oc],.agg #[.int .i64 j,.slice GB hn hc,.slice OB pn pc]] w fun e w'=>
  e=.returned (.bool (sameC ⟨i,gs,os⟩ ⟨j,hs,ps⟩))∧Below w.heap.size w w':=by
 have HG:=hiD hG;have HO:=hiD hO;have HH:=hiD hH;have HP:=hiD hP;clear hG hO hH hP
 cases hij:(i == j)
 ·have HK:Aside (sameC ⟨i,gs,os⟩ ⟨j,hs,ps⟩=false):=by show _=_;simp [sameC,hij]
  go_enter Tryz.func36,Tryz.ntmps36;go_wp2;go_ret;rw [HK.out];exact ⟨rfl,by go_grown⟩
 ·have HK:Aside (sameC ⟨i,gs,os⟩ ⟨j,hs,ps⟩=(decide (gs=hs) && decide (os=ps))):=by show _=_;simp [sameC,hij]
  go_enter Tryz.func36,Tryz.ntmps36;go_wp2_with fail;refine (equal_gates GA GB gn hn gc hc gs hs _ (HG.out.up (by go_grown)) (HH.out.up (by go_grown)) hm1 hm3).mono ?_;rintro e w1 ⟨rfl,hb⟩;have B1:Below w.heap.size w w1:=(show Below w.heap.size w _ by go_grown).trans (hb.mono (by simp;omega))
  cases hgs:decide (gs=hs)
  ·rw [hgs] at HK;go_wp2;go_ret;rw [HK.out];exact ⟨rfl,B1⟩
  ·rw [hgs] at HK;have c2:w1.cell? ⟨w.heap.size,2,none⟩=some (.slice OA on oc):=(hb.cell (p:=⟨w.heap.size,2,none⟩) (by simp;omega)).trans (by go_cell);have c3:w1.cell? ⟨w.heap.size+1,2,none⟩=some (.slice OB pn pc):=(hb.cell (p:=⟨w.heap.size+1,2,none⟩) (by simp)).trans (by go_cell);go_wp2_with fail;refine (equal_ints OA OB on pn oc pc os ps _ (HO.out.up B1) (HP.out.up B1) hm2 hm4).mono ?_;rintro e w2 ⟨rfl,hb2⟩;go_wp2;go_ret;rw [HK.out];exact ⟨rfl,B1.trans (hb2.mono B1.size)⟩
end Go.Proofs.YtbijfnbelkbofaaGreatDoor
namespace Go.Proofs.YtbijfnbelkbofaaGreatDoor
open Go.RowKit
def NotIn (A:Option Addr) (n b:Nat):Prop:=∀ ad,A=some ad→0 < n→ad.block≠b
theorem same_at (c d:Circ) (GA OA GB OB:Option Addr) (gn gc on oc hn hc pn pc:Nat) (w:World) (h:CAt w c GA OA gn on) (k:CAt w d GB OB hn pn):
 Calls Tryz.prog 36 #[.agg #[.int .i64 c.inputs,.slice GA gn gc,.slice OA on oc],.agg #[.int .i64 d.inputs,.slice GB hn hc,.slice OB pn pc]] w fun e w'=>e=.returned (.bool (sameC c d))∧Below w.heap.size w w':=
 same_any c.inputs d.inputs GA OA GB OB gn gc on oc hn hc pn pc c.gates d.gates c.outs d.outs w h.gates h.outs h.g63 h.o63 k.gates k.outs k.g63 k.o63
def OldNew (A:Option Addr) (n:Nat) (GA:Option Addr) (gn lo:Nat):Prop:=∀ ad,A=some ad→0 < n→(∃ ad',GA=some ad'∧0 < gn∧ad'.block=ad.block)∨lo+2≤ad.block
theorem OldNew.self (A:Option Addr) (n lo:Nat):OldNew A n A n lo:=fun ad e hn=>.inl ⟨ad,e,hn,rfl⟩
theorem OldNew.notIn {A GA:Option Addr} {n gn lo b:Nat} (h:OldNew A n GA gn lo) (hg:NotIn GA gn b) (hb:b < lo+2):NotIn A n b:=fun ad e hn=>by
 rcases h ad e hn with ⟨ad',e',hn',e2⟩ | h2
 ·rw [← e2];exact hg ad' e' hn'
 ·omega
set_option maxRecDepth 100000 in
set_option maxHeartbeats 8000000 in
theorem allF_any (c:Circ) (GA OA:Option Addr) (gn gc on oc:Nat) (w:World) (hc:CAt w c GA OA gn on):
 Calls Tryz.prog 11 #[.agg #[.int .i64 c.inputs,.slice GA gn gc,.slice OA on oc]] w fun e w'=>∃ A B n k m j,e=.returned (.agg #[.int .i64 (allC c).inputs,.slice A n k,.slice B m j])∧CAt w' (allC c) A B n m∧OldNew A n GA gn w.heap.size∧OldNew B m OA on w.heap.size∧Below w.heap.size w w':=by
 have HC0:=hiD hc;clear hc;go_enter Tryz.func11,Tryz.ntmps11;go_wp2_with fail;obtain ⟨wa,hW9,RC,RR,hgr9⟩:=laid2 w [.int .i64 c.inputs,.slice GA gn gc,.slice OA on oc] 36 [.int .i64 0,.slice none 0 0,.slice none 0 0] 36;rewrite [hW9];clear hW9;have B_w:=hiD hgr9;clear hgr9;have hwa:w.heap.size+1 < wa.heap.size:=RR.out.lt
 obtain ⟨q,hq⟩:∃ q,rightC c=q:=⟨_,rfl⟩
 have HQ:=hiU hq;have HC:=cright_at c GA OA gn gc on oc wa (HC0.out.up B_w.out);rw [hq] at HC;clear hq;refine HC.mono ?_;clear HC;rintro e w1 ⟨rfl,hb⟩;have B_w:=hiD (below_on2 B_w.out hb);have B_wa:=hiD hb;clear hb;have RR1:=hiD (rowCells RR.out B_wa.out);have RC1:=hiD (rowCells RC.out B_wa.out);have BW1:=hiD B_w;clear B_w B_wa RC RR
 cases q
 ·skip
  obtain ⟨z0,z1,z2,zl⟩:=RR1.out.cells3;obtain ⟨zf0,zf1,zf2⟩:=RR1.out.froz3;go_wp2;have Z9:=RR1.out.set3 (.int .i64 0) (.slice none 0 0) (.slice none 0 0);have B9:=bSet3 BW1.out (w.heap.size+1) (by show _≤(w.heap.size+1);omega) (.int .i64 0) (.slice none 0 0) (.slice none 0 0);obtain ⟨d0,d1,d2,-⟩:=Z9.cells3;clear Z9;refine bodyPost_ret (v:=.agg #[.int .i64 0,.slice none 0 0,.slice none 0 0]) (by simp [results,Tryz.results11,go_sem,d0,d1,d2]) rfl ?_;have HV:allC c=noCirc:=by unfold allC;rw [if_neg (by rw [HQ.out ()];decide)]
  rw [HV];exact ⟨none,none,0,0,0,0,rfl,noCirc_at _,fun ad e=>(by cases e),fun ad e=>(by cases e),B9⟩
 ·have HR:Hid (rightC c=true):=HQ.out ();have HV:Hid (∀ _:Unit,allC c=iterC (measC c) c):=fun _=>by rw [allC,if_pos HR.out]
  clear HQ;go_wp2_with fail
  go_loopg [3] (measC c) (fun gg _ wr=>∃ (m:Nat) (d:Circ) (DA EA:Option Addr) (dn dc en ec:Nat),m≤gg∧w.heap.size+1 < wr.heap.size∧Aside (rightC d=true∧measC d≤m)∧Aside (∀ _:Unit,allC c=iterC m d)∧Aside (CAt wr d DA EA dn en)∧Aside (OldNew DA dn GA gn w.heap.size)∧Aside (OldNew EA en OA on w.heap.size)∧Aside (Below w.heap.size w wr)∧Aside (Row wr w.heap.size 36 [.int .i64 d.inputs,.slice DA dn dc,.slice EA en ec])∧Aside (Row wr (w.heap.size+1) 36 [.int .i64 0,.slice none 0 0,.slice none 0 0]))
  case atStart=>
   exact ⟨measC c,c,GA,OA,gn,gc,on,oc,Nat.le_refl _,RR1.out.lt,⟨HR.out,Nat.le_refl _⟩,HV.out,HC0.out.up BW1.out,OldNew.self _ _ _,OldNew.self _ _ _,BW1.out,RC1.out,RR1.out⟩
  case round=>
   clear RC1 RR1 BW1;obtain ⟨m,d,DA,EA,dn,dc,en,ec,hgg,hsz,HD,HIT,HCD,HN1,HN2,BW,RC,RR⟩:=hrel;obtain ⟨k0,k1,k2,kl⟩:=RC.out.cells3;go_wp2_with fail;clear k0 k1 k2 kl;refine (fold_any d DA EA dn dc en ec wr HCD.out).mono ?_;rintro e w2 ⟨FA,FB,FAn,FAc,FBn,FBc,he,hca,hf1,hf2,hb⟩;have he2:e=.returned (.agg #[.int .i64 (foldC d).inputs,.slice FA FAn FAc,.slice FB FBn FBc]):=he;subst he2;clear he;have HFA:=hiD hca;have FFA:=hiD hf1;have FFB:=hiD hf2;have hsz_w2:wr.heap.size≤w2.heap.size:=hb.size;clear hca hf1 hf2;have B_wr:=hiD hb;clear hb;go_wp2_with fail;refine (share_any (foldC d) FA FB FAn FAc FBn FBc w2 HFA.out).mono ?_;rintro e w3 ⟨SA,SB,SAn,SAc,SBn,SBc,he,hca,hf1,hf2,hb⟩;have he2:e=.returned (.agg #[.int .i64 (shareC (foldC d)).inputs,.slice SA SAn SAc,.slice SB SBn SBc]):=he;subst he2;clear he;have HSA:=hiD hca;have FSA:=hiD hf1;have FSB:=hiD hf2;have hsz_w3:w2.heap.size≤w3.heap.size:=hb.size;clear hca hf1 hf2;have B_wr:=hiD (below_on2 B_wr.out hb);have B_w2:=hiD hb;clear hb;go_wp2_with fail;refine (ztrim_any (shareC (foldC d)) SA SB SAn SAc SBn SBc w3 HSA.out).mono ?_;rintro e w4 ⟨TA,TB,TAn,TAc,TBn,TBc,he,hca,hf1,hf2,hb⟩;have he2:e=.returned (.agg #[.int .i64 (trimC (shareC (foldC d))).inputs,.slice TA TAn TAc,.slice TB TBn TBc]):=he;subst he2;clear he;have HTA:=hiD hca;have FTA:=hiD hf1;have FTB:=hiD hf2;have hsz_w4:w3.heap.size≤w4.heap.size:=hb.size;clear hca hf1 hf2;have B_wr:=hiD (below_on2 B_wr.out hb);have B_w3:=hiD hb;clear hb;have HTA:=hiD HTA;have HIN:Hid (∀ _:Unit,(trimC (shareC (foldC d))).inputs=(oneC d).inputs):=fun _=>rfl
   rw [HIN.out ()];have BW4:=hiD (below_on2 BW.out B_wr.out);have RC4:=hiD (rowCells RC.out B_wr.out);have RR4:=hiD (rowCells RR.out B_wr.out);have HCD4:Hid (CAt w4 d DA EA dn en):=HCD.out.up B_wr.out;have hs4:w.heap.size+1 < w4.heap.size:=RR4.out.lt;have hwr3:wr.heap.size≤w3.heap.size:=by omega
   clear B_wr B_w2 B_w3 RC RR BW HCD HFA FFA FFB HSA FSA FSB HIN;obtain ⟨q,HQ⟩:=naM (sameC (oneC d) d);have HI2:Hid (∀ _:Unit,(oneC d).inputs=(oneC d).inputs):=fun _=>rfl
   go_upto_region 4 with fail;have RT5:Hid (Row (World.alloc w4 (.cells #[.int .i64 (oneC d).inputs,.slice TA TAn TAc,.slice TB TBn TBc] 36)) w4.heap.size 36 [.int .i64 (oneC d).inputs,.slice TA TAn TAc,.slice TB TBn TBc]):=Row.new w4 36 [.int .i64 (oneC d).inputs,.slice TA TAn TAc,.slice TB TBn TBc];have HCD5:Hid (CAt (World.alloc w4 (.cells #[.int .i64 (oneC d).inputs,.slice TA TAn TAc,.slice TB TBn TBc] 36)) d DA EA dn en):=HCD4.out.up ((Below.refl _ _).alloc (Nat.le_refl _) _);have HT5:Hid (CAt (World.alloc w4 (.cells #[.int .i64 (oneC d).inputs,.slice TA TAn TAc,.slice TB TBn TBc] 36)) (oneC d) TA TB TAn TBn):=HTA.out.up ((Below.refl _ _).alloc (Nat.le_refl _) _);have RC5:Hid (Row (World.alloc w4 (.cells #[.int .i64 (oneC d).inputs,.slice TA TAn TAc,.slice TB TBn TBc] 36)) w.heap.size 36 [.int .i64 d.inputs,.slice DA dn dc,.slice EA en ec]):=RC4.out.alloc _;have RR5:Hid (Row (World.alloc w4 (.cells #[.int .i64 (oneC d).inputs,.slice TA TAn TAc,.slice TB TBn TBc] 36)) (w.heap.size+1) 36 [.int .i64 0,.slice none 0 0,.slice none 0 0]):=RR4.out.alloc _;have BW5:Hid (Below w.heap.size w (World.alloc w4 (.cells #[.int .i64 (oneC d).inputs,.slice TA TAn TAc,.slice TB TBn TBc] 36))):=BW4.out.alloc BW4.out.size _;clear RC4 RR4 BW4 HCD4 HTA;revert RT5 HCD5 HT5 RC5 RR5 BW5;generalize (World.alloc w4 (.cells #[.int .i64 (oneC d).inputs,.slice TA TAn TAc,.slice TB TBn TBc] 36))=w5;intro RT5 HCD5 HT5 RC5 RR5 BW5;obtain ⟨t0,t1,t2,tl⟩:=RT5.out.cells3;obtain ⟨k0,k1,k2,kl⟩:=RC5.out.cells3;go_wp2_with fail;clear t0 t1 t2 tl k0 k1 k2 kl;have HC:=same_at (oneC d) d TA TB DA EA TAn TAc TBn TBc dn dc en ec w5 HT5.out HCD5.out;rw [HQ.out ()] at HC;refine HC.mono ?_;clear HC;rintro e w6 ⟨rfl,hb⟩;have RT6:=hiD (rowCells RT5.out hb);have HCD6:Hid (CAt w6 d DA EA dn en):=HCD5.out.up hb;have HT6:Hid (CAt w6 (oneC d) TA TB TAn TBn):=HT5.out.up hb;have RC6:=hiD (rowCells RC5.out hb);have RR6:=hiD (rowCells RR5.out hb);have BW6:=hiD (below_on2 BW5.out hb);have hs6:w.heap.size+1 < w6.heap.size:=RR6.out.lt;clear hb RT5 HCD5 HT5 RC5 RR5 BW5
   cases q
   ·obtain ⟨hrd,hmd⟩:=HD.out;obtain ⟨m',hm1,hm2,hm3⟩:=iter_go hrd hmd (HQ.out ());have HIT2:Hid (∀ _:Unit,allC c=iterC m' (oneC d)):=fun _=>by rw [HIT.out (),hm3]
    have HD2:Hid (rightC (oneC d)=true∧measC (oneC d)≤m'):=⟨one_right hrd,hm2⟩
    clear hrd hmd hm2 hm3;obtain ⟨t0,t1,t2,tl⟩:=RT6.out.cells3;obtain ⟨k0,k1,k2,kl⟩:=RC6.out.cells3;obtain ⟨kf0,kf1,kf2⟩:=RC6.out.froz3;go_wp2_with fail;go_roundg m'
    case measure=>omega
    case rel=>exact ⟨m',oneC d,TA,TB,TAn,TAc,TBn,TBc,Nat.le_refl _,by simp only [World.size_setCell];exact hs6,HD2.out,HIT2.out,(CAt.farSet (CAt.farSet (CAt.farSet HT6.out (p:=⟨w.heap.size,0,none⟩) (FTA.out.ne (by show w.heap.size < _;omega)) (FTB.out.ne (by show w.heap.size < _;omega)) (.int .i64 (oneC d).inputs)) (p:=⟨w.heap.size,1,none⟩) (FTA.out.ne (by show w.heap.size < _;omega)) (FTB.out.ne (by show w.heap.size < _;omega)) (.slice TA TAn TAc)) (p:=⟨w.heap.size,2,none⟩) (FTA.out.ne (by show w.heap.size < _;omega)) (FTB.out.ne (by show w.heap.size < _;omega)) (.slice TB TBn TBc)),fun ad e hn=>.inr (Nat.le_trans (by omega) (FTA.out ad e hn)),fun ad e hn=>.inr (Nat.le_trans (by omega) (FTB.out ad e hn)),(Below.setCell (Below.setCell (Below.setCell BW6.out (p:=⟨w.heap.size,0,none⟩) (Nat.le_refl _) (.int .i64 (oneC d).inputs)) (p:=⟨w.heap.size,1,none⟩) (Nat.le_refl _) (.slice TA TAn TAc)) (p:=⟨w.heap.size,2,none⟩) (Nat.le_refl _) (.slice TB TBn TBc)),(Row.set (Row.set (Row.set RC6.out 0 (.int .i64 (oneC d).inputs)) 1 (.slice TA TAn TAc)) 2 (.slice TB TBn TBc)),(Row.far (Row.far (Row.far RR6.out (p:=⟨w.heap.size,0,none⟩) (by show (w.heap.size+1)≠w.heap.size;omega) (.int .i64 (oneC d).inputs)) (p:=⟨w.heap.size,1,none⟩) (by show (w.heap.size+1)≠w.heap.size;omega) (.slice TA TAn TAc)) (p:=⟨w.heap.size,2,none⟩) (by show (w.heap.size+1)≠w.heap.size;omega) (.slice TB TBn TBc))⟩
   ·have HV2:Hid (∀ _:Unit,allC c=d):=fun _=>by rw [HIT.out (),iter_stop (HQ.out ())]
    clear HIT HD HV;obtain ⟨k0,k1,k2,kl⟩:=RC6.out.cells3;obtain ⟨z0,z1,z2,zl⟩:=RR6.out.cells3;obtain ⟨zf0,zf1,zf2⟩:=RR6.out.froz3;go_wp2;have Z9:=RR6.out.set3 (.int .i64 d.inputs) (.slice DA dn dc) (.slice EA en ec);have B9:=bSet3 BW6.out (w.heap.size+1) (by show _≤(w.heap.size+1);omega) (.int .i64 d.inputs) (.slice DA dn dc) (.slice EA en ec);obtain ⟨d0,d1,d2,-⟩:=Z9.cells3;clear Z9;refine bodyPost_ret (v:=.agg #[.int .i64 d.inputs,.slice DA dn dc,.slice EA en ec]) (by simp [results,Tryz.results11,go_sem,d0,d1,d2]) rfl ?_;have HE:allC c=d:=HV2.out ();rw [HE];exact ⟨DA,EA,dn,dc,en,ec,rfl,(CAt.farSet (CAt.farSet (CAt.farSet HCD6.out (p:=⟨(w.heap.size+1),0,none⟩) (HN1.out.notIn (HC0.out.gates.low (Nat.le_succ _)) (Nat.lt_succ_self (w.heap.size+1))) (HN2.out.notIn (HC0.out.outs.low (Nat.le_succ _)) (Nat.lt_succ_self (w.heap.size+1))) (.int .i64 d.inputs)) (p:=⟨(w.heap.size+1),1,none⟩) (HN1.out.notIn (HC0.out.gates.low (Nat.le_succ _)) (Nat.lt_succ_self (w.heap.size+1))) (HN2.out.notIn (HC0.out.outs.low (Nat.le_succ _)) (Nat.lt_succ_self (w.heap.size+1))) (.slice DA dn dc)) (p:=⟨(w.heap.size+1),2,none⟩) (HN1.out.notIn (HC0.out.gates.low (Nat.le_succ _)) (Nat.lt_succ_self (w.heap.size+1))) (HN2.out.notIn (HC0.out.outs.low (Nat.le_succ _)) (Nat.lt_succ_self (w.heap.size+1))) (.slice EA en ec)),HN1.out,HN2.out,B9⟩
theorem all_any (c:Circ) (GA OA:Option Addr) (gn gc on oc:Nat) (w:World) (hc:CAt w c GA OA gn on):
 Calls Tryz.prog 11 #[.agg #[.int .i64 c.inputs,.slice GA gn gc,.slice OA on oc]] w (CiPost (allC c) 0 w):=
 (allF_any c GA OA gn gc on oc w hc).mono fun e w' ⟨A,B,n,k,m,j,he,h1,h2,h3,h4⟩=>⟨A,B,n,k,m,j,he,h1,fun _ _ _=>Nat.zero_le _,fun _ _ _=>Nat.zero_le _,h4⟩
end Go.Proofs.YtbijfnbelkbofaaGreatDoor
namespace Go.Proofs.YtbijfnbelkbofaaGreatDoor
open Go.RowKit
theorem rank_imp {c d:Circ} (k:Nat) (h:∀ i,i < k→ndg d i=true→ndg c i=true):rank d k≤rank c k:=by
 induction k with
 | zero=>exact Nat.le_refl _
 | succ k ih=>
  have:=ih (fun i hi=>h i (by omega));rw [rank_succ,rank_succ];split
  ·rename_i hn
   rw [if_pos (h k (by omega) hn)];omega
  ·split <;> omega
theorem fold_need {c:Circ} (h:rightC c=true) {w:Nat} (hw:Ned (foldC c) (w:Int)):Ned c (w:Int):=by
 obtain ⟨⟨h0,h1,_⟩,_,ho⟩:=rightC_parts h;have hcl:=need_closed h;have hch:=foldChain c
 have key:∀ k,k≤c.gates.length→(∀ w,w < c.inputs.toNat+k→Ned c (w:Int)→Ned c ((foldTo c k).tq.getD w 0))∧(∀ i,i < k→Ned c (c.inputs+(i:Int))→(2≤(gateAt (foldC c) i).op→Ned c (gateAt (foldC c) i).a)∧(3≤(gateAt (foldC c) i).op→Ned c (gateAt (foldC c) i).b)):=fun k=>by
  induction k with
  | zero=>
   intro _;refine ⟨fun w hw hn=>?_,fun i hi=>by omega⟩;rw [hch.to_in 0 (by omega)];exact hn
  | succ k ih=>
   intro hk;obtain ⟨i1,i2⟩:=ih (by omega);have hs:=foldTo_ok h k (by omega);obtain ⟨l1,l2⟩:=foldTo_len c k;have hg:=gateAt_ok h (show k < c.gates.length by omega);have hm:=moveG_ok hs hg (by omega) (fun _=>trivial) (fun _=>trivial);obtain ⟨ho,ha,hb,_,_⟩:=gateOk_parts hg
   have hstep:Ned c (c.inputs+(k:Int))→(2≤(foldG c.inputs (foldTo c k).gates (moveG (foldTo c k).tq (gateAt c k))).1.op→Ned c (foldG c.inputs (foldTo c k).gates (moveG (foldTo c k).tq (gateAt c k))).1.a)∧(3≤(foldG c.inputs (foldTo c k).gates (moveG (foldTo c k).tq (gateAt c k))).1.op→Ned c (foldG c.inputs (foldTo c k).gates (moveG (foldTo c k).tq (gateAt c k))).1.b)∧(0≤(foldG c.inputs (foldTo c k).gates (moveG (foldTo c k).tq (gateAt c k))).2→Ned c (foldG c.inputs (foldTo c k).gates (moveG (foldTo c k).tq (gateAt c k))).2):=fun hn=>by
    refine foldG_P (P:=Ned c) hm (fun h2=>?_) (fun h3=>?_) (fun x hx hw hlt=>?_)
    ·have h2:2≤(gateAt c k).op:=h2;have:=ha h2;rw [moveG_a ho h2];exact i1 _ (by omega) (by rw [Int.toNat_of_nonneg this.1];exact hcl.fst k (by omega) hn h2)
    ·have h3:3≤(gateAt c k).op:=h3;have:=hb h3;rw [moveG_b ho h3];exact i1 _ (by omega) (by rw [Int.toNat_of_nonneg this.1];exact hcl.snd k (by omega) hn h3)
    ·obtain ⟨j,rfl,hj,hjo,hja⟩:=isW_gate hw hlt
     have e:gateAt (foldC c) j=(foldTo c k).gates.getD j default:=by
      rw [foldC_eq h];exact hch.g_keep (show k≤c.gates.length by omega) (by omega)
     rw [hja,← e];exact (i2 j (by omega) hx).1 (by rw [e,hjo];omega)
   refine ⟨fun w hw hn=>?_,fun i hi hn=>?_⟩
   ·rcases Nat.lt_or_ge w (c.inputs.toNat+k) with h2 | h2
    ·rw [hch.to_keep (Nat.le_succ k) h2];exact i1 w h2 hn
    ·obtain rfl:w=c.inputs.toNat+k:=by omega
     have e:((c.inputs.toNat+k:Nat):Int)=c.inputs+(k:Int):=by omega
     rw [e] at hn;rw [hch.to_at (Nat.lt_succ_self k)];split
     ·exact hn
     ·rename_i hz
      exact (hstep hn).2.2 (Int.not_lt.1 hz)
   ·rcases Nat.lt_or_ge i k with h2 | h2
    ·exact i2 i h2 hn
    ·obtain rfl:i=k:=by omega
     rw [fold_gate h (show i < c.gates.length by omega)];exact ⟨(hstep hn).1,(hstep hn).2.1⟩
 obtain ⟨k1,k2⟩:=key _ (Nat.le_refl _);have hF:=fold_right h;have lF:=foldC_gl h;have inF:(foldC c).inputs=c.inputs:=by rw [foldC_eq h];rfl
 have hP:Closed (foldC c) (Ned c):=by
  refine ⟨fun k hk=>?_,fun k hk hp h2=>?_,fun k hk hp h3=>?_⟩
  ·have e:(foldC c).outs=c.outs.map (toAt (foldTo c c.gates.length).tq):=by rw [foldC_eq h];rfl
   rw [e,List.length_map] at hk;have hb:=outOk_at ho hk
   have e2:((foldC c).outs).getD k 0=(foldTo c c.gates.length).tq.getD (c.outs.getD k 0).toNat 0:=by
    rw [e,List.getD_eq_getElem?_getD,List.getElem?_map,List.getElem?_eq_getElem hk,List.getD_eq_getElem?_getD (l:=c.outs),List.getElem?_eq_getElem hk];rfl
   rw [e2];exact k1 _ (by omega) (by rw [Int.toNat_of_nonneg hb.1];exact hcl.outs k hk)
  ·rw [lF] at hk;rw [inF] at hp;exact (k2 k hk hp).1 h2
  ·rw [lF] at hk;rw [inF] at hp;exact (k2 k hk hp).2 h3
 unfold Ned needAt at hw;rw [Int.toNat_natCast] at hw;exact need_min hF hP w hw
theorem nodup_le {l m:List Nat} (hl:l.Nodup) (h:∀ x ∈ l,x ∈ m):l.length≤m.length:=by
 induction l generalizing m with
 | nil=>exact Nat.zero_le _
 | cons a l ih=>
  rw [List.nodup_cons] at hl;have ha:a ∈ m:=h a (by simp)
  have:=ih (m:=m.erase a) hl.2 (fun x hx=>by
   have hxa:x≠a:=fun e=>hl.1 (e ▸ hx)
   exact (List.mem_erase_of_ne hxa).2 (h x (by simp [hx])))
  rw [List.length_erase_of_mem ha] at this;have hp:0 < m.length:=List.length_pos_of_mem ha;rw [List.length_cons];omega
theorem share_rank {c:Circ} (h:rightC c=true):rank (shareC c) c.gates.length≤rank c c.gates.length:=by
 obtain ⟨⟨h0,h1,_⟩,_,ho⟩:=rightC_parts h;have hcl:=need_closed h;have hch:=shareChain c;have hS:=share_right h;have lS:=shareC_gl h;have inS:(shareC c).inputs=c.inputs:=by rw [shareC_eq h];rfl
 have hQ:Closed (shareC c) (fun x=>∃ w:Nat,w < c.inputs.toNat+c.gates.length∧Ned c (w:Int)∧x=(shareTo c c.gates.length).tq.getD w 0):=by
  have hgate:∀ k,k < c.gates.length→(∃ w:Nat,w < c.inputs.toNat+c.gates.length∧Ned c (w:Int)∧c.inputs+(k:Int)=(shareTo c c.gates.length).tq.getD w 0)→∃ i,i < c.gates.length∧Ned c (c.inputs+(i:Int))∧gateAt (shareC c) k=swapG (moveG (shareTo c i).tq (gateAt c i)):=fun k hk ⟨w,hw,hn,e⟩=>by
   rcases Nat.lt_or_ge w c.inputs.toNat with h2 | h2
   ·rw [hch.to_in _ h2] at e;omega
   ·obtain ⟨i,rfl⟩:∃ i,w=c.inputs.toNat+i:=⟨w - c.inputs.toNat,by omega⟩
    have hi:i < c.gates.length:=by omega
    have e2:((c.inputs.toNat+i:Nat):Int)=c.inputs+(i:Int):=by omega
    rw [e2] at hn;refine ⟨i,hi,hn,?_⟩;rw [share_to_at c hi] at e;split at e
    ·obtain rfl:k=i:=by omega
     exact share_gate h hk
    ·rename_i hz
     obtain ⟨j,hj,hjl,hje,_⟩:=knownW_some h0 (Int.not_lt.1 hz);rw [hj] at e;rw [(hch.len i).1] at hjl;clear hj hz;obtain rfl:k=j:=by omega
     rw [← hje,shareC_eq h];exact hch.g_keep (Nat.le_of_lt hi) hjl
  have hops:∀ i,i < c.gates.length→Ned c (c.inputs+(i:Int))→(2≤(swapG (moveG (shareTo c i).tq (gateAt c i))).op→∃ w:Nat,w < c.inputs.toNat+c.gates.length∧Ned c (w:Int)∧(swapG (moveG (shareTo c i).tq (gateAt c i))).a=(shareTo c c.gates.length).tq.getD w 0)∧(3≤(swapG (moveG (shareTo c i).tq (gateAt c i))).op→∃ w:Nat,w < c.inputs.toNat+c.gates.length∧Ned c (w:Int)∧(swapG (moveG (shareTo c i).tq (gateAt c i))).b=(shareTo c c.gates.length).tq.getD w 0):=fun i hi hn=>by
   have hg:=gateAt_ok h hi;obtain ⟨ho,ha,hb,_,_⟩:=gateOk_parts hg;refine swapG_P (P:=fun x=>∃ w:Nat,w < c.inputs.toNat+c.gates.length∧Ned c (w:Int)∧x=(shareTo c c.gates.length).tq.getD w 0) (fun h2=>?_) (fun h3=>?_) ho
   ·have h2:2≤(gateAt c i).op:=h2;have:=ha h2;rw [moveG_a ho h2];exact ⟨(gateAt c i).a.toNat,by omega,by rw [Int.toNat_of_nonneg this.1];exact hcl.fst i hi hn h2,(hch.to_keep (Nat.le_of_lt hi) (by omega)).symm⟩
   ·have h3:3≤(gateAt c i).op:=h3;have:=hb h3;rw [moveG_b ho h3];exact ⟨(gateAt c i).b.toNat,by omega,by rw [Int.toNat_of_nonneg this.1];exact hcl.snd i hi hn h3,(hch.to_keep (Nat.le_of_lt hi) (by omega)).symm⟩
  refine ⟨fun k hk=>?_,fun k hk hp h2=>?_,fun k hk hp h3=>?_⟩
  ·have e:(shareC c).outs=c.outs.map (toAt (shareTo c c.gates.length).tq):=by rw [shareC_eq h];rfl
   rw [e,List.length_map] at hk;have hb:=outOk_at ho hk;refine ⟨(c.outs.getD k 0).toNat,by omega,by rw [Int.toNat_of_nonneg hb.1];exact hcl.outs k hk,?_⟩;rw [e,List.getD_eq_getElem?_getD,List.getElem?_map,List.getElem?_eq_getElem hk,List.getD_eq_getElem?_getD (l:=c.outs),List.getElem?_eq_getElem hk];rfl
  ·rw [lS] at hk;rw [inS] at hp;obtain ⟨i,hi,hn,e⟩:=hgate k hk hp;rw [e] at h2 ⊢;exact (hops i hi hn).1 h2
  ·rw [lS] at hk;rw [inS] at hp;obtain ⟨i,hi,hn,e⟩:=hgate k hk hp;rw [e] at h3 ⊢;exact (hops i hi hn).2 h3
 have hsub:∀ x ∈ (List.range c.gates.length).filter (ndg (shareC c)),x ∈ ((List.range c.gates.length).filter (ndg c)).map (fun i=>((shareTo c c.gates.length).tq.getD (c.inputs.toNat+i) 0 - c.inputs).toNat):=fun x hx=>by
  rw [List.mem_filter,List.mem_range] at hx;obtain ⟨hx1,hx2⟩:=hx;unfold ndg needAt at hx2;rw [inS] at hx2;obtain ⟨w,hw,hn,e⟩:=need_min hS hQ _ hx2;rcases Nat.lt_or_ge w c.inputs.toNat with h2 | h2
  ·rw [hch.to_in _ h2] at e;omega
  ·obtain ⟨i,rfl⟩:∃ i,w=c.inputs.toNat+i:=⟨w - c.inputs.toNat,by omega⟩
   have e2:((c.inputs.toNat+i:Nat):Int)=c.inputs+(i:Int):=by omega
   rw [e2] at hn;rw [List.mem_map];refine ⟨i,?_,?_⟩
   ·rw [List.mem_filter,List.mem_range];exact ⟨by omega,hn⟩
   ·rw [← e];omega
 have:=nodup_le (List.Nodup.sublist List.filter_sublist List.nodup_range) hsub;rw [List.length_map] at this;exact this
theorem one_gates {c:Circ} (h:rightC c=true):(oneC c).gates.length≤(trimC c).gates.length:=by
 obtain ⟨⟨h0,h1,_⟩,_⟩:=rightC_parts h;have hF:=fold_right h;have hS:=share_right hF;have lF:=foldC_gl h;have lS:(shareC (foldC c)).gates.length=c.gates.length:=(shareC_gl hF).trans lF;have inF:(foldC c).inputs=c.inputs:=by rw [foldC_eq h];rfl
 unfold oneC;rw [trimC_gl hS,trimC_gl h,lS];have a:=share_rank hF;rw [lF] at a
 have b:rank (foldC c) c.gates.length≤rank c c.gates.length:=rank_imp _ (fun i hi hn=>by
  have e:((c.inputs.toNat+i:Nat):Int)=c.inputs+(i:Int):=by omega
  have:=fold_need h (w:=c.inputs.toNat+i) (by rw [e,← inF];exact hn);rw [e] at this
  exact this)
 omega
theorem trim_le {c:Circ} (h:rightC c=true):(trimC c).gates.length≤c.gates.length:=by rw [trimC_gl h];exact rank_le _ _
theorem all_gates {c:Circ} (h:rightC c=true):(allC c).gates.length≤(trimC c).gates.length:=by
 cases hs:sameC (oneC c) c with
 | true=>
  have hf:=FixC.of_same h hs;rw [hf.all h,hf.trim_eq];exact Nat.le_refl _
 | false=>
  obtain ⟨m',_,h2,h3⟩:=iter_go h (Nat.le_refl _) hs;rw [allC,if_pos h,h3];exact (iter_ind (P:=fun d=>d.gates.length≤(trimC c).gates.length) (fun d hd hP=>Nat.le_trans (Nat.le_trans (one_gates hd) (trim_le hd)) hP) m' (one_right h) h2 (one_gates h)).2.2
end Go.Proofs.YtbijfnbelkbofaaGreatDoor
namespace Go.Proofs.YtbijfnbelkbofaaGreatDoor
open Go.RowKit Go.ChangeShapes Go.WideShapes Go.Deep Go.Joins
section
variable {H:Type} {enc:TypeId × Value→H} {P:Program} {w:World} {base:Nat} {spare:Nat→Bool} {held:Bool}
theorem rd_of_cells {sz n:Nat} {ad:Addr} {xs:List Value} (hl:xs.length=n * sz) (h:∀ j u,xs[j]?=some u→w.cell? (ad.add j)=some u) (h0:0 < sz):Rd w w.heap.size sz (some ad) n xs:=
 ⟨hl,fun hn=>⟨ad,rfl,by
  have hp:0 < xs.length:=by rw [hl];exact Nat.mul_pos hn h0
  have:=World.block_lt_of_cell? w _ (h 0 xs[0] (List.getElem?_eq_getElem hp))
  rwa [add_block] at this,h⟩⟩
theorem read_ints {t e:TypeId} {fuel:Nat} {v:Value} {x:DataW H × List MemPlace} (ht:P.underlying t=some (.slice e)) (he:P.underlying e=some (.int .i64)) (hc:P.cellsOf e=1)
 (h:DataW.trod enc P w base spare held fuel t [v]=some x):∃ A n c zs,v=.slice A n c∧Rd w w.heap.size 1 A n (ints zs)∧n≤maxLen∧(∀ z ∈ zs,-9223372036854775808≤z∧z≤9223372036854775807):=by
 rcases open_ints ht he hc h with ⟨hcs,_⟩ | ⟨a,len,cap,zs,hcs,_,hl,hm,hz,_,hcell,hwf⟩
 ·injection hcs with hcs;exact ⟨none,0,0,[],hcs,Rd.empty none,by unfold maxLen;omega,by simp⟩
 ·injection hcs with hcs;have hln:len≤zs.length:=by rw [hz];split <;> omega
  refine ⟨some a,len,cap,zs.take len,hcs,rd_of_cells (by simp;omega) (fun j u hu=>?_) (by omega),by omega,fun z hz=>?_⟩
  ·have hj:j < len:=by
    have:=(List.getElem?_eq_some_iff.1 hu).1
    simp at this;omega
   rw [ints_get _ j (by simp;omega)] at hu;injection hu with hu;rw [hcell j (by omega),← hu]
   simp [List.getD_eq_getElem?_getD,List.getElem?_take,hj]
  ·have:=hwf z (List.mem_of_mem_take hz)
   simpa [Lit.wf,IntKind.min,IntKind.max,IntKind.signed,IntKind.bits] using this
end
theorem law_post {H:Type} {enc:TypeId × Value→H} {P:Program} {f:Func} {s:ChangeSpec} {apart fresh handsOn:Bool} {W W':World} {args:Array Value} {v:Value} {ds gs:List (DataW H)} {before pa pv:List MemPlace}
 (hW:DataW.Whole enc P f.params.toList s.vars apart W args.toList ds gs before)
 (hres:∀ (b:Nat) (sp:Nat→Bool) (hd:Bool),DataW.TrodAll enc P W' b sp hd f.resultTypes.toList (v.resultList f.resultTypes.size) (s.fn H (ds ++ gs)).results [])
 (hargs:DataW.TrodAll enc P W' 0 (fun b=>decide (b < W.heap.size)) true f.params.toList args.toList (s.fn H (ds ++ gs)).args pa)
 (hvars:DataW.TrodVars enc P W' (fun b=>decide (b < W.heap.size)) s.vars (s.fn H (ds ++ gs)).vars pv) (hb:Below W.heap.size W W'):
 s.post enc P f apart fresh handsOn false W args v W':=
 ⟨ds,gs,before,[],pa,pv,hW,hres _ _ _,hargs,hvars,hb.frame _,fun h=>by cases h⟩
end Go.Proofs.YtbijfnbelkbofaaGreatDoor
namespace Go.Proofs.YtbijfnbelkbofaaGreatDoor
open Go.RowKit Go.ChangeShapes Go.WideShapes Go.Deep Go.Joins
theorem Tryz.own':ownKnob Tryz.prog.godebug=none:=by kernel_rfl
theorem Tryz.laidOut':laidOutB Tryz.prog=true:=by kernel_rfl
section
variable {H:Type} {enc:TypeId × Value→H} {P:Program} {w:World} {base:Nat} {spare:Nat→Bool} {held:Bool}
end
section
variable {H:Type} {enc:TypeId × Value→H} {w:World} {base b0:Nat} {spare:Nat→Bool} {held:Bool} {r:Reach} {v:Value} {d:DataW H} {p:List MemPlace}
set_option maxRecDepth 100000 in
theorem open_ints_arg (hv:Value.okWide Tryz.prog w r b0 22 v) (h:DataW.Trod enc Tryz.prog w base spare held 22 v d p):
 ∃ A n c xs,v=.slice A n c∧Rd w w.heap.size 1 A n (ints xs)∧n≤maxLen:=by
 obtain ⟨A,n,c,rfl⟩:=okWide_slice Tryz.underlying22 hv;obtain ⟨fuel,hf⟩:=h;obtain ⟨A',n',c',xs,e,hR,hm,_⟩:=read_ints Tryz.underlying22 Tryz.underlying3 (by kernel_rfl) (v:=.slice A n c) (by simpa [Value.cells] using hf)
 cases e
 exact ⟨_,_,_,xs,rfl,hR,hm⟩
end
end Go.Proofs.YtbijfnbelkbofaaGreatDoor
