/-
  Lemmas for the law TopCircuits.
-/
import Derived.Test.YtbijfnbelkbofaaGreatDoorJZ28
import Derived.Test.YtbijfnbelkbofaaGreatDoorJZ16
import Derived.Test.YtbijfnbelkbofaaGreatDoorJZ6
import Derived.Test.YtbijfnbelkbofaaGreatDoorJZ17
import Derived.Deep.RegionHeld3
import Derived.Test.YtbijfnbelkbofaaGreatDoorJZ21
set_option linter.unusedSimpArgs false
set_option linter.unusedVariables false
namespace Go.Proofs.YtbijfnbelkbofaaGreatDoor
open Go.RowKit
set_option maxRecDepth 100000 in
set_option maxHeartbeats 2000000 in
theorem value_any (t:Tre) (HA NA IA:Option Addr) (hn hc nn nc n ic:Nat) (sl:List Sl) (ins:List Int) (w:World) (h:TAt w t HA NA hn nn sl) (hI:Rd w w.heap.size 1 IA n (ints ins))
 (hr:rightT t=true) (hl:ins.length=t.hood.length) (hs:ins.all (stateIn t)=true):
 Calls Tryz.prog 26 #[.agg #[.int .i64 t.states,.slice HA hn hc,.slice NA nn nc],.slice IA n ic] w fun e w'=>e=.returned (.int .i64 (valueT t ins))∧Below w.heap.size w w':=by
 have H:=hiD h;have HL:Hid (t.nodes.length=nn):=h.nl;have HI:=hiD hI;have HIL:Hid (ins.length=n):=by have:=hI.1;simp at this;show _=_;omega
 have hm2:=h.n63;have HLI:=hiD hl;have HS:=hiD hs;obtain ⟨hh,⟨_,k1,k2,_⟩,_⟩:=rightT_parts hr
 have hn25:n≤25:=by
  simp only [hoodOk,Bool.and_eq_true,decide_eq_true_eq] at hh;rw [← HIL.out,hl];omega
 have HR:=hiD hr;rw [HL.out] at k1 k2;have hk0:IntKind.i64.wrap ((nn:Int) - 1)=(nn:Int) - 1:=IntWalk.i64_in _ (by omega);clear h hI hr hl hs hh hm2;go_enter Tryz.func26,Tryz.ntmps26;go_wp2
 go_loopg [5,7,14] n (fun gg s5 s7 s14 wr=>∃ (kk:Nat) (z:Int),kk≤n∧n - kk≤gg∧s14=.int .i64 kk∧s5=.int .i64 z∧Aside (z=walkT t ((t.nodes.length:Int) - 1) (ins.take kk))∧Aside (Below w.heap.size (w.alloc (.cells #[.int .i64 t.states,.slice HA hn hc,.slice NA nn nc] 27)) wr)∧Aside (Row wr w.heap.size 27 [.int .i64 t.states,.slice HA hn hc,.slice NA nn nc]))
 case atStart=>exact ⟨0,_,Nat.zero_le _,by omega,rfl,rfl,(show _=_ by rw [HL.out];rfl),Below.refl _ _,Row.new w _ _⟩
 case round=>
  obtain ⟨kk,z,hkk,hgg,rfl,rfl,HZ,BW,RW⟩:=hrel;have HBr:Hid (Below w.heap.size w wr):=(show Below w.heap.size w (w.alloc (.cells #[.int .i64 t.states,.slice HA hn hc,.slice NA nn nc] 27)) by go_grown).trans BW.out;by_cases hlt:kk < n
  ·have hltz:(kk:Int) < (n:Int):=by omega
   obtain ⟨kn,sn,e1,e2,h1,h2,e3⟩:=walk_step HR.out ins HLI.out HS.out kk (by rw [HIL.out];exact hlt);rw [HZ.out.symm] at e1;subst e1;rw [HL.out] at h1;obtain ⟨ad,rfl,hb',g0,g1⟩:=(H.out.up HBr.out).node h1;have HNX:=(H.out.up HBr.out).next kn (by rw [HL.out];exact h1);have hql2:(t.nodes.getD kn default).next.length=(sl.getD kn default).len:=by have:=HNX.1.1;rw [ints_length,Nat.mul_one] at this;exact this
   rw [hql2] at h2;generalize hq:sl.getD kn default=q at g1 HNX h2;obtain ⟨qa,ql,qc⟩:=q;dsimp only at HNX g1 h2;obtain ⟨ad2,rfl,hb2,g2⟩:=HNX.1.int h2;obtain ⟨ad3,rfl,hb3,g3⟩:=(HI.out.up HBr.out).int hlt;rw [e2] at g3;rw [← e3] at g2;generalize hv:walkT t ((t.nodes.length:Int) - 1) (ins.take (kk+1))=v at g2;have HV:Hid (v=walkT t ((t.nodes.length:Int) - 1) (ins.take (kk+1))):=hv.symm;have hi1:(kn:Int) < (nn:Int):=by omega
   have hi2:(0:Int)≤(kn:Int):=by omega
   have hi3:(sn:Int) < (ql:Int):=by omega
   have hi4:(0:Int)≤(sn:Int):=by omega
   clear hv hq hql2 HNX e2 e3 g0 HZ;obtain ⟨k0,k1,k2,kl⟩:=RW.out.cells3;go_wp2_with fail
   try go_quiet (fail)
   go_wp2;go_roundg (n - (kk+1))
   case measure=>omega
   case rel=>exact ⟨kk+1,v,by omega,by omega,by go_num,rfl,HV.out,(by first | exact below_drewN BW.out _ | exact BW.out),(by first | exact RW.out | exact RW.out.drewN _)⟩
  ·have hltz:¬ (kk:Int) < (n:Int):=by omega
   obtain rfl:kk=n:=by omega
   go_wp2;go_ret;refine ⟨ret_i64 ?_,HBr.out⟩;rw [HZ.out,valueT,List.take_of_length_le (by rw [HIL.out];exact Nat.le_refl _)]
theorem evalPred_any (t:Tre) (x:Int) (b:Nat) (HA NA:Option Addr) (hn hc nn nc:Nat) (w:World) (hc0:w.cell? ⟨b,0,none⟩=some (.int .i64 t.states)):
 Calls Tryz.prog 25 #[.int .i64 x,.pointer (some ⟨b,0,none⟩)] w fun e w'=>e=.returned (.bool (!stateIn t x))∧w=w':=by
 by_cases h0:x < 0
 ·have d0:decide (x < 0)=true:=by simpa using h0
  have HK:Hid ((!stateIn t x)=true):=by show _=_;simp [stateIn];omega
  go_enter Tryz.func25,Tryz.ntmps25;go_wp2;go_ret;exact ⟨ret_bool HK.out.symm,rfl⟩
 ·have d0:decide (x < 0)=false:=by simpa using h0
  go_enter Tryz.func25,Tryz.ntmps25;go_wp2;go_ret;refine ⟨ret_bool ?_,rfl⟩;rw [Bool.eq_iff_iff];simp [stateIn];omega
set_option maxRecDepth 100000 in
set_option maxHeartbeats 2000000 in
theorem tEval_any (t:Tre) (HA NA IA:Option Addr) (hn hc nn nc n ic:Nat) (sl:List Sl) (ins:List Int) (w:World) (h:TAt w t HA NA hn nn sl) (hI:Rd w w.heap.size 1 IA n (ints ins)) (hm:n≤maxLen):
 Calls Tryz.prog 7 #[.agg #[.int .i64 t.states,.slice HA hn hc,.slice NA nn nc],.slice IA n ic] w (TEvalPost t ins w):=by
 have H:=hiD h;have HLH:Hid (t.hood.length=hn):=h.hl;have HI:=hiD hI;have HIL:Hid (ins.length=n):=by have:=hI.1;simp at this;show _=_;omega
 have hm1:=h.h63;clear h hI;unfold maxLen at hm hm1;go_enter Tryz.func7,Tryz.ntmps7;go_wp2_with fail;refine (treeRight_any t HA NA hn hc nn nc sl _ (H.out.up (by go_grown))).mono ?_;rintro e w1 ⟨rfl,hb⟩;have HB:Hid (Below w.heap.size w w1):=below_next hb (by go_grown);have RA:Hid (Row w1 w.heap.size 27 [.int .i64 t.states,.slice HA hn hc,.slice NA nn nc]):=rowCells (Row.new w 27 [.int .i64 t.states,.slice HA hn hc,.slice NA nn nc]) hb;clear hb;obtain ⟨k0,k1,k2,kl⟩:=RA.out.cells3
 cases hr:rightT t
 ·have HE:Hid (evalErr t ins=11):=evalErr_11 hr;clear hr;go_wp2;go_ret2;exact tevalPost_err HE.out (by decide) HB.out
 have HR:=hiD hr;clear hr
 cases hne:((n:Int) != (hn:Int))
 case true=>
  have HE:Hid (evalErr t ins=2):=evalErr_2 HR.out (by rw [HIL.out,HLH.out];intro e;rw [e] at hne;simp at hne);go_wp2;go_ret2;exact tevalPost_err HE.out (by decide) HB.out
 have hqq:(n:Int)=(hn:Int):=by simpa using hne
 obtain rfl:n=hn:=by omega
 clear hne hqq;have HLI:Hid (ins.length=t.hood.length):=HIL.out.trans HLH.out.symm;have hnn:((n:Int) != (n:Int))=false:=by simp
 go_wp2_with fail;refine (containsFunc_ints IA n ic ins _ _ (fun x=>!stateIn t x) _ (enters Tryz.func25 (by kernel_rfl) rfl) (HI.out.up HB.out) (by omega) ?_).mono ?_
 ·intro W x hx hb;refine (evalPred_any t x w.heap.size HA NA n hc nn nc W ((rowCells RA.out hb).cell 0)).mono ?_;rintro e w' ⟨rfl,rfl⟩;exact ⟨rfl,hb⟩
 rintro e w2 ⟨rfl,hb⟩;have HB2:=hiD (below_on2 HB.out hb)
 have RA:=(show Hid (Row w2 _ _ _) from rowCells RA.out hb)
 have hall:ins.any (fun x=>!stateIn t x)=!ins.all (stateIn t):=by simp [List.all_eq_not_any_not]
 rw [hall];clear hb hall k0 k1 k2 kl;obtain ⟨k0,k1,k2,kl⟩:=RA.out.cells3
 cases hs:ins.all (stateIn t)
 ·have HE:Hid (evalErr t ins=10):=evalErr_10 HR.out HLI.out hs;clear hs;go_wp2;go_ret2;exact tevalPost_err HE.out (by decide) HB2.out
 have HS:=hiD hs;clear hs;go_wp2_with fail;refine (value_any t HA NA IA n hc nn nc n ic sl ins _ (H.out.up HB2.out) (HI.out.up HB2.out) HR.out HLI.out HS.out).mono ?_;rintro e w3 ⟨rfl,hb⟩;have HB3:=hiD (below_on2 HB2.out hb);have HE:Hid (evalErr t ins=0):=evalErr_0 HR.out HLI.out HS.out;clear hb;go_wp2;go_ret2;refine ⟨?_,HB3.out⟩;rw [evalV,if_pos HE.out,HE.out];rfl
end Go.Proofs.YtbijfnbelkbofaaGreatDoor
namespace Go.Proofs.YtbijfnbelkbofaaGreatDoor
open Go.RowKit
def optV (o:Option Int):Value:=.tuple #[.int .i64 (o.getD 0),.bool o.isSome]
theorem elem_vix {t:KT.Tab} {e:Int} (hv40:t.vars.length≤40) (he:KT.elemOk t e=true):(e < 0→KT.vix e < t.vars.length)∧(e < 0→KT.vix e < 40)∧-9223372036854775808≤e:=by
 have h:=of_decide_eq_true he;exact ⟨fun h0=>KT.elem_lt he h0,fun h0=>Nat.lt_of_lt_of_le (KT.elem_lt he h0) hv40,by omega⟩
theorem plainGo_at {t:KT.Tab} {ins l:List Int} {i:Nat} (b:List Int) (h:i < l.length):
 KT.plainGo t ins (l.drop i) i b=if (KT.acceptK t b (l.getD i 0) (ins.getD i 0)).2.1=true then KT.plainGo t ins (l.drop (i+1)) (i+1) (KT.acceptK t b (l.getD i 0) (ins.getD i 0)).1 else none:=by
 have hd:l.getD i 0=l[i]:=by rw [List.getD_eq_getElem?_getD,List.getElem?_eq_getElem h];rfl
 rw [hd,List.drop_eq_getElem_cons h,KT.plainGo]
theorem accept_len (t:KT.Tab) (b:List Int) (e s:Int):(KT.acceptK t b e s).1.length=b.length:=by
 unfold KT.acceptK;split
 ·rfl
 ·split
  ·rfl
  ·split <;> simp
structure PlainI (t:KT.Tab) (r:KT.Rw) (ins:List Int) (g i:Nat) (b:List Int) (w wr:World):Prop where
 bel:Below w.heap.size w wr
 bat:BAt wr g b
 len:b.length=40
 res:KT.plainK t r ins=(KT.plainGo t ins (r.ins.drop i) i b).map (fun b=>KT.outK b r)
set_option maxRecDepth 100000 in
set_option maxHeartbeats 2000000 in
theorem plain_any (t:KT.Tab) (P:TP) (r:KT.Rw) (ins:List Int) (qa IA:Option Addr) (ql qc n ic:Nat) (w:World) (h:TabAt w t P) (hq:Rd w w.heap.size 1 qa ql (ints r.ins)) (hqm:ql≤maxLen) (hi:Rd w w.heap.size 1 IA n (ints ins)) (hm:n≤maxLen)
 (hl:ins.length=r.ins.length) (hv40:t.vars.length≤40) (he:∀ e ∈ r.ins,KT.elemOk t e=true) (ho:KT.elemOk t r.out=true):
 Calls Tryz.prog 152 #[.agg #[.int .i64 t.states,.int .i64 t.sym,.slice P.HA P.hn P.hc,.slice P.VA P.vn P.vc,.slice P.RA P.rn P.rc],.agg #[.slice qa ql qc,.int .i64 r.out],.slice IA n ic] w fun e w'=>e=.returned (optV (KT.plainK t r ins))∧Below w.heap.size w w':=by
 obtain ⟨HA,hn,hc,VA,vn,vc,RA,rn,rc,vs,rs⟩:=P;dsimp only;have H:=hiD h;have HQ:=hiD hq;have HI:=hiD hi;have HEL:=hiD he;have HO:=hiD (elem_vix hv40 ho);have HLQ:Hid (r.ins.length=ql):=by have:=hq.1;show _=_;simpa using this
 have HLI:Hid (ins.length=n):=by have:=hi.1;show _=_;simpa using this
 have hnq:n=ql:=by rw [← HLI.out,← HLQ.out];exact hl
 subst hnq;clear h hq hi he ho hl hqm;unfold maxLen at hm;go_enter Tryz.func152,Tryz.ntmps152;go_upto_region 1 with fail
 have RT1:Hid (Row (World.alloc (World.alloc w (.cells #[.int .i64 t.states,.int .i64 t.sym,.slice HA hn hc,.slice VA vn vc,.slice RA rn rc] 60)) (.cells #[.slice qa n qc,.int .i64 r.out] 179)) (w.heap.size) 60 [.int .i64 t.states,.int .i64 t.sym,.slice HA hn hc,.slice VA vn vc,.slice RA rn rc]):=by
  have h0:=Row.new w 60 [.int .i64 t.states,.int .i64 t.sym,.slice HA hn hc,.slice VA vn vc,.slice RA rn rc]
  try simp only [World.size_alloc] at h0
  exact (h0.alloc _)
 have RR1:Hid (Row (World.alloc (World.alloc w (.cells #[.int .i64 t.states,.int .i64 t.sym,.slice HA hn hc,.slice VA vn vc,.slice RA rn rc] 60)) (.cells #[.slice qa n qc,.int .i64 r.out] 179)) (w.heap.size+1) 179 [.slice qa n qc,.int .i64 r.out]):=by
  have h0:=Row.new (World.alloc w (.cells #[.int .i64 t.states,.int .i64 t.sym,.slice HA hn hc,.slice VA vn vc,.slice RA rn rc] 60)) 179 [.slice qa n qc,.int .i64 r.out]
  try simp only [World.size_alloc] at h0
  exact h0
 have HW9:Hid (Below w.heap.size w (World.alloc (World.alloc w (.cells #[.int .i64 t.states,.int .i64 t.sym,.slice HA hn hc,.slice VA vn vc,.slice RA rn rc] 60)) (.cells #[.slice qa n qc,.int .i64 r.out] 179))):=by show Below _ _ _;go_grown
 revert RT1 RR1 HW9;generalize (World.alloc (World.alloc w (.cells #[.int .i64 t.states,.int .i64 t.sym,.slice HA hn hc,.slice VA vn vc,.slice RA rn rc] 60)) (.cells #[.slice qa n qc,.int .i64 r.out] 179))=w1;intro RT1 RR1 HW9;go_wp2_with fail;refine (none_any w1).mono ?_;rintro e w2 ⟨rfl,hba,hb2⟩;have hg:w.heap.size+1 < w1.heap.size:=RR1.out.lt;have BA2:=hiD hba;have HB2:Hid (Below w.heap.size w w2):=HW9.out.trans (hb2.mono HW9.out.size)
 have RT1:=(show Hid (Row _ _ _ _) from rowCells RT1.out hb2)
 have RR1:=(show Hid (Row _ _ _ _) from rowCells RR1.out hb2)
 revert hg BA2;generalize w1.heap.size=g;intro hg BA2;clear hba hb2 HW9;obtain ⟨j0,j1,jl⟩:=RR1.out.cells2;go_wp2;clear j0 j1 jl
 go_loopg [9,10,11,12,17] n (fun gg _ _ _ _ s17 wr=>∃ (i:Nat) (b:List Int),i≤n∧n - i≤gg∧s17=.int .i64 (i:Int)∧Aside (PlainI t r ins g i b w wr∧Row wr w.heap.size 60 [.int .i64 t.states,.int .i64 t.sym,.slice HA hn hc,.slice VA vn vc,.slice RA rn rc]∧Row wr (w.heap.size+1) 179 [.slice qa n qc,.int .i64 r.out]))
 case atStart=>exact ⟨0,KT.noneB,by omega,by omega,rfl,⟨HB2.out,BA2.out,by simp [KT.noneB],rfl⟩,RT1.out,RR1.out⟩
 case round=>
  obtain ⟨i,b,hi,hgg,rfl,hv⟩:=hrel;have HP:=hiD hv.out.1;have RT3:=hiD hv.out.2.1;have RR3:=hiD hv.out.2.2;clear hv RT1 RR1 HB2 BA2;by_cases hlt:i < n
  ·have hltz:(i:Int) < (n:Int):=by omega
   obtain ⟨adq,rfl,hbq,hz⟩:=(HQ.out.up HP.out.bel).int hlt;obtain ⟨adi,rfl,hbi,hy0⟩:=HI.out.int hlt;have hy:=(HP.out.bel.cell (p:=adi.add i) (by rw [add_block];exact hbi)).trans hy0;clear hy0;have HPG:Hid (KT.plainGo t ins (r.ins.drop i) i b=if (KT.acceptK t b (r.ins.getD i 0) (ins.getD i 0)).2.1=true then KT.plainGo t ins (r.ins.drop (i+1)) (i+1) (KT.acceptK t b (r.ins.getD i 0) (ins.getD i 0)).1 else none):=plainGo_at b (by rw [HLQ.out];exact hlt);have HEI:=hiD (elem_vix hv40 (HEL.out (r.ins.getD i 0) (by rw [List.getD_eq_getElem?_getD,List.getElem?_eq_getElem (by rw [HLQ.out];exact hlt)];exact List.getElem_mem _)));have HLA:=accept_len t b (r.ins.getD i 0) (ins.getD i 0);revert hz hy HPG HEI HLA;generalize r.ins.getD i 0=z;generalize ins.getD i 0=y;intro hz hy HPG HEI HLA;have HC:=accept_any t ⟨HA,hn,hc,VA,vn,vc,RA,rn,rc,vs,rs⟩ g b z y;have HLA:=hiD HLA;revert HPG HC HLA;generalize KT.acceptK t b z y=q;obtain ⟨b',ok,fr⟩:=q;intro HPG HC HLA;dsimp only at HPG HC HLA;have HC:=hiD HC;go_upto_region 5 with fail;obtain ⟨k0,k1,k2,k3,k4,kl⟩:=RT3.out.cells5
   have HS:∀ w',Kept (·=g) wr w'→w'.cell? ⟨w.heap.size,0,none⟩=some (.int .i64 t.states)∧w'.cell? ⟨w.heap.size,1,none⟩=some (.int .i64 t.sym)∧w'.cell? ⟨w.heap.size,2,none⟩=some (.slice HA hn hc)∧w'.cell? ⟨w.heap.size,3,none⟩=some (.slice VA vn vc)∧w'.cell? ⟨w.heap.size,4,none⟩=some (.slice RA rn rc)∧w'.cell? (adi.add i)=some (.int .i64 y):=fun w' hk=>by
    have c5:=fun (j:Nat)=>hk.cell (p:=⟨w.heap.size,j,none⟩) kl (show ¬ w.heap.size=g by omega)
    exact ⟨(c5 0).trans k0,(c5 1).trans k1,(c5 2).trans k2,(c5 3).trans k3,(c5 4).trans k4,(hk.cell (p:=adi.add i) (by rw [add_block];have:=HP.out.bel.size;omega) (by rw [add_block];show ¬ adi.block=g;omega)).trans hy⟩
   clear k0 k1 k2 k3 k4 hy hz
   go_region_held3 (fun w'=>w'.cell? ⟨w.heap.size,0,none⟩=some (.int .i64 t.states)∧w'.cell? ⟨w.heap.size,1,none⟩=some (.int .i64 t.sym)∧w'.cell? ⟨w.heap.size,2,none⟩=some (.slice HA hn hc)∧w'.cell? ⟨w.heap.size,3,none⟩=some (.slice VA vn vc)∧w'.cell? ⟨w.heap.size,4,none⟩=some (.slice RA rn rc)∧w'.cell? (adi.add i)=some (.int .i64 y)) (exact HS _ (by first | exact HKP.out | exact Kept.ofBelow (by go_grown))) ((
    go_at_call 178
    refine (HC.out _ (by exact H.out.up HP.out.bel.drew) (by exact HP.out.bat) HP.out.len hv40 HEI.out.1 HEI.out.2.2).mono ?_;rintro e w7 ⟨rfl,hbat,hkp⟩
    have HKP:=(show Hid (Kept (·=g) wr w7) from Kept.trans (Kept.ofBelow (by go_grown)) hkp (fun _ _ h=>h))
    have HBA:=(show Hid (BAt w7 g b') from hbat)
    clear hbat hkp))
   have RT4:=(show Hid (Row _ _ _ _) from HKP.out.row RT3.out (show ¬ w.heap.size=g by omega))
   have RR4:=(show Hid (Row _ _ _ _) from HKP.out.row RR3.out (show ¬ w.heap.size+1=g by omega))
   have HB7:Hid (Below w.heap.size w w7):=HP.out.bel.trans (HKP.out.below (B:=w.heap.size) (fun k e=>by omega) HP.out.bel.size);have HPR:=hiD HP.out.res;have HL0:=hiD HP.out.len;clear HP RT3 RR3 HS HKP
   cases ok with
   | false=>
    have HE:Hid (∀ _:Unit,KT.plainK t r ins=none):=fun _=>by rw [HPR.out,HPG.out];rfl
    go_wp2;go_ret2;rw [HE.out ()];exact ⟨rfl,HB7.out⟩
   | true=>
    have HE:Hid (KT.plainK t r ins=(KT.plainGo t ins (r.ins.drop (i+1)) (i+1) b').map (fun b=>KT.outK b r)):=by show _=_;rw [HPR.out,HPG.out];rfl
    go_wp2;go_roundg (n - (i+1))
    case measure=>omega
    case rel=>exact ⟨i+1,b',by omega,by omega,by go_num,⟨HB7.out,HBA.out,by rw [HLA.out];exact HL0.out,HE.out⟩,RT4.out,RR4.out⟩
  ·have hltz:¬ (i:Int) < (n:Int):=by omega
   obtain rfl:i=n:=by omega
   have HE:Hid (∀ _:Unit,KT.plainK t r ins=some (KT.outK b r)):=fun _=>by rw [HP.out.res,List.drop_of_length_le (by rw [HLQ.out];exact Nat.le_refl _)];rfl
   obtain ⟨j0,j1,jl⟩:=RR3.out.cells2;go_wp2_with fail;refine (out_any r g b qa i qc wr HP.out.bat HP.out.len HO.out.2.1 HO.out.2.2).mono ?_;rintro e w7 ⟨rfl,hb7⟩;have HB7:=hiD (below_on2 HP.out.bel hb7);go_wp2;go_ret2;rw [HE.out ()];exact ⟨rfl,HB7.out⟩
end Go.Proofs.YtbijfnbelkbofaaGreatDoor
namespace Go.Proofs.YtbijfnbelkbofaaGreatDoor
open Go.RowKit
structure PEnv where
 tt:Nat
 tr:Nat
 ti:Nat
 te:Nat
 tf:Nat
 tc:Nat
 g:Nat
 tb:Nat
 u:Nat
 tu:Nat
 tp:Nat
structure PCtx where
 t:KT.Tab
 P:TP
 r:KT.Rw
 qa:Option Addr
 qc:Nat
 ins:List Int
 n:Nat
 IA:Option Addr
 ic:Nat
 c:Int
structure PEnv.Ok (E:PEnv) (B:Nat):Prop where
 h0:B≤E.tt
 h1:E.tt < E.tr
 h2:E.tr < E.ti
 h3:E.ti < E.te
 h4:E.te < E.tf
 h5:E.tf < E.tc
 h6:E.tc < E.g
 h7:E.g < E.tb
 h8:E.tb < E.u
 h9:E.u < E.tu
 h10:E.tu < E.tp
def TP.cellsK (P:TP) (t:KT.Tab):List Value:=[.int .i64 t.states,.int .i64 t.sym,.slice P.HA P.hn P.hc,.slice P.VA P.vn P.vc,.slice P.RA P.rn P.rc]
structure PSt (w0:World) (X:PCtx) (E:PEnv) (b:List Int) (used:List Bool) (acc:Option Int) (w:World):Prop where
 bel:Below w0.heap.size w0 w
 rt:Row w E.tt 60 (X.P.cellsK X.t)
 rr:Row w E.tr 179 [.slice X.qa X.n X.qc,.int .i64 X.r.out]
 ri:Row w E.ti 22 [.slice X.IA X.n X.ic]
 re:Row w E.te 3 [.int .i64 (acc.getD 0)]
 rf:Row w E.tf 4 [.bool acc.isSome]
 rc:Row w E.tc 3 [.int .i64 X.c]
 bat:BAt w E.g b
 rb:Row w E.tb 228 [.pointer (some ⟨E.g,0,none⟩)]
 us:Row w E.u 4 (bools used)
 ru:Row w E.tu 39 [.slice (some ⟨E.u,0,none⟩) X.n X.n]
 rp:Row w E.tp 147 [.func (.func 179) #[] #[.pointer (some ⟨E.ti,0,none⟩),.pointer (some ⟨E.tb,0,none⟩),.pointer (some ⟨E.tr,0,none⟩),.pointer (some ⟨E.tf,0,none⟩),.pointer (some ⟨E.te,0,none⟩),.pointer (some ⟨E.tc,0,none⟩),.pointer (some ⟨E.tp,0,none⟩),.pointer (some ⟨E.tu,0,none⟩),.pointer (some ⟨E.tt,0,none⟩)]]
def PEnv.S (E:PEnv) (k:Nat):Prop:=k=E.g∨k=E.u∨k=E.te∨k=E.tf
section
variable {w0 w w':World} {X:PCtx} {E:PEnv} {b b':List Int} {used used':List Bool} {acc acc':Option Int}
theorem PSt.move (h:PSt w0 X E b used acc w) (ok:E.Ok w0.heap.size) (hk:Kept E.S w w') (hb:BAt w' E.g b') (hu:Row w' E.u 4 (bools used')) (he:Row w' E.te 3 [.int .i64 (acc'.getD 0)]) (hf:Row w' E.tf 4 [.bool acc'.isSome]):
 PSt w0 X E b' used' acc' w':=by
 obtain ⟨h0,h1,h2,h3,h4,h5,h6,h7,h8,h9,h10⟩:=ok;exact ⟨h.bel.trans (hk.below (fun k hs=>by unfold PEnv.S at hs;omega) h.bel.size),hk.row h.rt (by unfold PEnv.S;omega),hk.row h.rr (by unfold PEnv.S;omega),hk.row h.ri (by unfold PEnv.S;omega),he,hf,hk.row h.rc (by unfold PEnv.S;omega),hb,hk.row h.rb (by unfold PEnv.S;omega),hu,hk.row h.ru (by unfold PEnv.S;omega),hk.row h.rp (by unfold PEnv.S;omega)⟩
theorem PSt.below (h:PSt w0 X E b used acc w) (ok:E.Ok w0.heap.size) (hb:Below w.heap.size w w'):PSt w0 X E b used acc w':=
 h.move ok (Kept.ofBelow hb) (rowCells h.bat hb) (rowCells h.us hb) (rowCells h.re hb) (rowCells h.rf hb)
theorem PSt.taken (h:PSt w0 X E b used acc w) (ok:E.Ok w0.heap.size) (hk:Kept (·=E.g) w w') (hb:BAt w' E.g b'):PSt w0 X E b' used acc w':=by
 have o:=ok;obtain ⟨h0,h1,h2,h3,h4,h5,h6,h7,h8,h9,h10⟩:=ok;exact h.move o (hk.wide fun k e=>.inl e) hb (hk.row h.us (by show ¬ _=_;omega)) (hk.row h.re (by show ¬ _=_;omega)) (hk.row h.rf (by show ¬ _=_;omega))
theorem PSt.bset (h:PSt w0 X E b used acc w) (ok:E.Ok w0.heap.size) (v:Nat) (z:Int):PSt w0 X E (b.set v z) used acc (w.setCell ⟨E.g,v,none⟩ (.int .i64 z)):=
 h.taken ok (Kept.set (S:=(·=E.g)) (Kept.refl _ w) (p:=⟨E.g,v,none⟩) (.inl rfl) _) (h.bat.set v z)
theorem bools_set (l:List Bool) (k:Nat) (v:Bool):bools (l.set k v)=(bools l).set k (.bool v):=by unfold bools;rw [List.map_set]
theorem PSt.uset (h:PSt w0 X E b used acc w) (ok:E.Ok w0.heap.size) (k:Nat) (v:Bool):PSt w0 X E b (used.set k v) acc (w.setCell ⟨E.u,k,none⟩ (.bool v)):=by
 have o:=ok;obtain ⟨h0,h1,h2,h3,h4,h5,h6,h7,h8,h9,h10⟩:=ok;exact h.move o (Kept.set (S:=E.S) (Kept.refl _ w) (p:=⟨E.u,k,none⟩) (.inl (.inr (.inl rfl))) _) (Row.far h.bat (by show E.g≠E.u;omega) _) (by rw [bools_set];exact h.us.set k _) (h.re.far (by show E.te≠E.u;omega) _) (h.rf.far (by show E.tf≠E.u;omega) _)
theorem PSt.best (h:PSt w0 X E b used acc w) (ok:E.Ok w0.heap.size) (m:Int):PSt w0 X E b used (some m) ((w.setCell ⟨E.te,0,none⟩ (.int .i64 m)).setCell ⟨E.tf,0,none⟩ (.bool true)):=by
 have o:=ok;obtain ⟨h0,h1,h2,h3,h4,h5,h6,h7,h8,h9,h10⟩:=ok;refine h.move o (Kept.set (S:=E.S) (Kept.set (S:=E.S) (Kept.refl _ w) (p:=⟨E.te,0,none⟩) (.inl (.inr (.inr (.inl rfl)))) _) (p:=⟨E.tf,0,none⟩) (.inl (.inr (.inr (.inr rfl)))) _) (Row.far (Row.far h.bat (by show E.g≠E.te;omega) _) (by show E.g≠E.tf;omega) _) ((h.us.far (by show E.u≠E.te;omega) _).far (by show E.u≠E.tf;omega) _) ((h.re.set 0 _).far (by show E.te≠E.tf;omega) _) ?_;exact (h.rf.far (by show E.tf≠E.te;omega) (.int .i64 m)).set 0 (.bool true)
end
def placeStep (t:KT.Tab) (r:KT.Rw) (ins:List Int) (c:Int) (f i:Nat) (b:List Int) (used:List Bool) (q:Int × Option Int) (k:Nat):Int × Option Int:=
 if (k:Int)=c∨used.getD k false=true∨KT.hasBit q.1 (ins.getD k 0)=true then q
 else (KT.putBit q.1 (ins.getD k 0),if (KT.acceptK t b (r.ins.getD i 0) (ins.getD k 0)).2.1=true then KT.placeK t r ins c f (i+1) (KT.acceptK t b (r.ins.getD i 0) (ins.getD k 0)).1 (used.set k true) q.2 else q.2)
def placeQ (t:KT.Tab) (r:KT.Rw) (ins:List Int) (c:Int) (f i:Nat) (b:List Int) (used:List Bool) (acc:Option Int) (k:Nat):Int × Option Int:=(List.range k).foldl (placeStep t r ins c f i b used) (0,acc)
theorem placeQ_succ (t:KT.Tab) (r:KT.Rw) (ins:List Int) (c:Int) (f i:Nat) (b:List Int) (used:List Bool) (acc:Option Int) (k:Nat):placeQ t r ins c f i b used acc (k+1)=placeStep t r ins c f i b used (placeQ t r ins c f i b used acc k) k:=by
 unfold placeQ;rw [List.range_succ,List.foldl_append];rfl
theorem placeK_loop {t:KT.Tab} {r:KT.Rw} {ins:List Int} {c:Int} {f i:Nat} {b:List Int} {used:List Bool} {acc:Option Int} (h1:¬ i=ins.length) (h2:¬ (i:Int)=c):KT.placeK t r ins c (f+1) i b used acc=(placeQ t r ins c f i b used acc ins.length).2:=by
 rw [KT.placeK,if_neg h1,if_neg h2];rfl
theorem placeK_end {t:KT.Tab} {r:KT.Rw} {ins:List Int} {c:Int} {f i:Nat} {b:List Int} {used:List Bool} {acc:Option Int} (h1:i=ins.length):KT.placeK t r ins c (f+1) i b used acc=KT.least acc (KT.outK b r):=by
 rw [KT.placeK,if_pos h1]
theorem placeK_skip {t:KT.Tab} {r:KT.Rw} {ins:List Int} {c:Int} {f i:Nat} {b:List Int} {used:List Bool} {acc:Option Int} (h1:¬ i=ins.length) (h2:(i:Int)=c):KT.placeK t r ins c (f+1) i b used acc=KT.placeK t r ins c f (i+1) b used acc:=by
 rw [KT.placeK,if_neg h1,if_pos h2]
theorem mask_or:∀ m:Nat,m < 256→∀ s:Nat,s < 8→(m / 2 ^ s % 2=1∨((m+2 ^ s < 256)∧bits .or .i64 (m:Int) (((2 ^ s:Nat):Nat):Int)=((m+2 ^ s:Nat):Int))):=by decide +kernel
theorem i64_and1 (n:Int):bits .and .i64 n 1=n % 2:=by
 have h1:(BitVec.ofInt 64 1).toNat=2 ^ 1 - 1:=by decide
 have key:(BitVec.ofInt 64 n &&& BitVec.ofInt 64 1).toNat=(n % ((2 ^ 64:Nat):Int)).toNat % 2 ^ 1:=by
  rw [BitVec.toNat_and,BitVec.toNat_ofInt,h1,Nat.and_two_pow_sub_one_eq_mod]
 show IntKind.i64.wrap ((BitVec.ofInt 64 n &&& BitVec.ofInt 64 1).toNat:Nat)=n % 2;rw [key,IntKind.wrap_i64];omega
theorem mask_put {m s:Nat} (hm:m < 256) (hs:s < 8) (h:¬ (m:Int) / 2 ^ s % 2=1):∃ m':Nat,m' < 256∧bits .or .i64 (m:Int) (wrap64 (2 ^ s))=(m':Int)∧KT.putBit (m:Int) (s:Int)=(m':Int):=by
 have hc:((2:Int) ^ s)=((2 ^ s:Nat):Int):=by simp
 have h2:¬ m / 2 ^ s % 2=1:=fun e=>h (by rw [hc,← Int.natCast_ediv];omega)
 have hp:2 ^ s≤2 ^ 7:=Nat.pow_le_pow_right (by decide) (show s≤7 by omega)
 have hw:wrap64 (2 ^ s)=((2 ^ s:Nat):Int):=by
  rw [hc];generalize 2 ^ s=p at hp ⊢;exact IntWalk.wrap64_in _ (by omega)
 rcases mask_or m hm s hs with h3 | ⟨h3,h4⟩
 ·exact absurd h3 h2
 ·refine ⟨m+2 ^ s,h3,by rw [hw,h4],?_⟩;unfold KT.putBit KT.hasBit;rw [Int.toNat_natCast,decide_eq_false h,if_neg (by simp),hc];omega
theorem used_back {l:List Bool} {k:Nat} (h:l.getD k false=false) (hk:k < l.length):(l.set k true).set k false=l:=by
 rw [List.set_set];have:l[k]=false:=by rwa [List.getD_eq_getElem?_getD,List.getElem?_eq_getElem hk] at h
 rw [← this,List.set_getElem_self]
theorem bind_back {l:List Int} {k:Nat} {z:Int} (h:l.getD k 0=-1) (hk:k < l.length):(l.set k z).set k (-1)=l:=by
 rw [List.set_set];have:l[k]=-1:=by rwa [List.getD_eq_getElem?_getD,List.getElem?_eq_getElem hk] at h
 rw [← this,List.set_getElem_self]
end Go.Proofs.YtbijfnbelkbofaaGreatDoor
