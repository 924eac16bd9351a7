/-
  Lemmas for the law TopCircuits.
-/
import Derived.Test.YtbijfnbelkbofaaGreatDoorJZ46
import Derived.Test.YtbijfnbelkbofaaGreatDoorJZ32
import Derived.BigQuiet
import Derived.Lib.SliceRun
import Derived.Test.YtbijfnbelkbofaaGreatDoorJZ38
set_option linter.unusedSimpArgs false
set_option linter.unusedVariables false
namespace Go.Proofs.YtbijfnbelkbofaaGreatDoor
open Go.RowKit Go.Maps
theorem index_str (b n c:Nat) (zs:List ByteArray) (x:ByteArray) (w:World) (hz:n≤zs.length) (hbig:n≤9223372036854775807) (hc:∀ j,j < zs.length→w.cell? ⟨b,j,none⟩=some (.string (zs.getD j ByteArray.empty))):
 Calls Tryz.prog 116 #[.slice (some ⟨b,0,none⟩) n c,.string x] w fun e w'=>e=.returned (.int .i64 (Lib.idxOfS (zs.take n) x))∧w'=w:=
 slices_Index_string b 0 n c zs x w hz hbig (fun j hj=>by rw [Nat.zero_add];exact hc j hj)
set_option maxRecDepth 100000 in
set_option maxHeartbeats 4000000 in
theorem pline_any (wB:World) (G:GEnv wB) (pb mb:Nat) (t:KT.Tab) (P:TP) (F:Value→Option Value) (hd:Int) (a n:Nat) (ws:List ByteArray) (w:World) (hbel:Below wB.heap.size wB w) (hp:PrS wB.heap.size pb mb t P F hd w) (hw:Wd w a ws) (hn:ws.length=n) (hpos:0 < n):
 Calls Tryz.prog 67 #[.pointer (some ⟨pb,0,none⟩),.slice (some ⟨a,0,none⟩) n n] w (PrPost wB.heap.size pb mb P w):=by
 have HN:=hiD hn;have HP:=hiD hp;have HG:=hiD G;have hn1:n≤100001:=hn ▸ hw.len
 have h9:=hp.h9
 obtain ⟨h,hwh⟩:∃ h,IntKind.i64.wrap (hd+1)=h:=⟨_,rfl⟩
 obtain ⟨hp1,hm1⟩:=HP.out.setC (st':=t.states) (sy':=t.sym) (hood':=t.hood) (HA':=P.HA) (hn':=P.hn) (hc':=P.hc) (hd':=h) 6 (.int .i64 h) rfl HP.out.hood h9;have HP1:Hid (PrS wB.heap.size pb mb t P F h (w.setCell ⟨pb,6,none⟩ (.int .i64 h))):=hiD hp1;have HM1:Hid (PrMv pb mb P w P (w.setCell ⟨pb,6,none⟩ (.int .i64 h))):=hiD hm1
 have HW1:=hiD (hw.same (w':=w.setCell ⟨pb,6,none⟩ (.int .i64 h)) (Below.heap_setCell w ⟨pb,6,none⟩ _ a (fun e=>by
  obtain ⟨cur,fz,h1⟩:=hw.ty;subst e
  exact nt_row HP.out.row (by decide) _ rfl cur fz h1)))
 have HB1:=hiD (hbel.setCell (p:=⟨pb,6,none⟩) HP.out.pB (.int .i64 h));clear hp1 hm1 hw hp hn G hbel;obtain ⟨HA,hn,hc,VA,vn,vc,RA,rn,rc,vs,rs⟩:=P;dsimp only at h9;have pR:=HP.out.row;dsimp only [prCells] at pR;obtain ⟨p0,p1,p2,p3,p4,p5,p6,pl⟩:=pR.cells7;have pf6:=pR.frozen 6;clear pR;go_enter Tryz.func67,Tryz.ntmps67;go_upto_region 3 with fail;clear p0 p1 p2 p3 p4 p5 p6 pf6 pl;clear HP;revert HW1 HB1 HP1 HM1;generalize w.setCell ⟨pb,6,none⟩ (.int .i64 h)=w1;intro HW1 HB1 HP1 HM1;clear hwh;have hal:=HW1.out.lt;by_cases hd1:h=1
 ·subst hd1;have pR:=HP1.out.row;dsimp only [prCells] at pR;obtain ⟨p0,p1,p2,p3,p4,p5,p6,pl⟩:=pR.cells7;have pf0:=pR.frozen 0;clear pR;by_cases h2:n=2
  rotate_left 1
  ·have e1:((n:Int) == 2)=false:=by simp;omega
   have e2:((n:Int) != 2)=true:=by simp;omega
   clear h2;go_wp2;go_ret;exact ⟨15,rfl,prRes_trans HM1.out (prRes_below HP1.out (Below.refl _ _))⟩
  have e1:((n:Int) == 2)=true:=by simp;omega
  have e2:((n:Int) != 2)=false:=by simp;omega
  have h1n:(1:Int) < (n:Int):=by omega
  have h1m:1 < n:=by omega
  clear h2;obtain ⟨x0,c0,hx0⟩:=HW1.out.word (k:=0) (by rw [HN.out];omega);obtain ⟨x1,c1,hx1⟩:=HW1.out.word (k:=1) (by rw [HN.out];omega)
  cases dv:(x0.toList == [115,116,97,116,101,115]) with
  | false=>
   go_wp2;go_ret;exact ⟨15,rfl,prRes_trans HM1.out (prRes_below HP1.out (Below.refl _ _))⟩
  | true=>
  go_wp2_with fail;refine (rNumber_any x1 hx1 w1).mono ?_;rintro e w2 ⟨z,ok,rfl,hz,rfl⟩
  cases ok with
  | false=>
   go_wp2;go_ret;exact ⟨15,rfl,prRes_trans HM1.out (prRes_below HP1.out (Below.refl _ _))⟩
  | true=>
  by_cases hz2:z < 2
  ·have d1:decide (z < 2)=true:=decide_eq_true hz2;go_wp2;go_ret;exact ⟨5,rfl,prRes_trans HM1.out (prRes_below HP1.out (Below.refl _ _))⟩
  have d1:decide (z < 2)=false:=decide_eq_false hz2;by_cases hz8:8 < z
  ·have d2:decide (8 < z)=true:=decide_eq_true hz8;go_wp2;go_ret;exact ⟨5,rfl,prRes_trans HM1.out (prRes_below HP1.out (Below.refl _ _))⟩
  have d2:decide (8 < z)=false:=decide_eq_false hz8;obtain ⟨hp9,hm9⟩:=HP1.out.setC (st':=z) (sy':=t.sym) (hood':=t.hood) (HA':=HA) (hn':=hn) (hc':=hc) (hd':=1) 0 (.int .i64 z) rfl HP1.out.hood h9;have HP9:=hiD hp9;have HM9:=hiD (HM1.out.trans hm9);clear hp9 hm9;go_wp2;go_ret;exact ⟨0,rfl,⟨_,_,_,_,HP9.out,HM9.out⟩⟩
 have d1:(h == 1)=false:=by simp [hd1]
 by_cases hd2:h=2
 ·subst hd2;have pR:=HP1.out.row;dsimp only [prCells] at pR;obtain ⟨p0,p1,p2,p3,p4,p5,p6,pl⟩:=pR.cells7;have pf2:=pR.frozen 2;clear pR;by_cases h2:n=2
  rotate_left 1
  ·have e1:((n:Int) == 2)=false:=by simp;omega
   have e2:((n:Int) != 2)=true:=by simp;omega
   clear h2;go_wp2;go_ret;exact ⟨15,rfl,prRes_trans HM1.out (prRes_below HP1.out (Below.refl _ _))⟩
  have e1:((n:Int) == 2)=true:=by simp;omega
  have e2:((n:Int) != 2)=false:=by simp;omega
  have h1n:(1:Int) < (n:Int):=by omega
  have h1m:1 < n:=by omega
  clear h2;obtain ⟨x0,c0,hx0⟩:=HW1.out.word (k:=0) (by rw [HN.out];omega);obtain ⟨x1,c1,hx1⟩:=HW1.out.word (k:=1) (by rw [HN.out];omega)
  cases dv:(x0.toList == [104,111,111,100]) with
  | false=>
   go_wp2;go_ret;exact ⟨15,rfl,prRes_trans HM1.out (prRes_below HP1.out (Below.refl _ _))⟩
  | true=>
  go_wp2_with fail;refine (named_any x1 w1).mono ?_;rintro e w2 ⟨l,A,c,rfl,ho,hl,hb⟩;have HP2:=hiD (HP1.out.below hb);have HM2:=hiD (HM1.out.trans (PrMv.ofBelow hb));have how:=TyRd.mono (TyRd.own ho) (Nat.le_trans HP1.out.pB (Nat.le_of_lt HP1.out.row.lt));clear p0 p1 p2 p3 p4 p5 p6 pf2 pl;obtain ⟨hp9,hm9⟩:=HP2.out.setC (st':=t.states) (sy':=t.sym) (hood':=l) (HA':=A) (hn':=l.length) (hc':=c) (hd':=2) 2 (.slice A l.length c) rfl how hl;have HP9:=hiD hp9;have HM9:=hiD (HM2.out.trans hm9);clear hp9 hm9;have pR:=HP2.out.row;dsimp only [prCells] at pR;obtain ⟨p0,p1,p2,p3,p4,p5,p6,pl⟩:=pR.cells7;have pf2:=pR.frozen 2;clear pR;have q2:=HP9.out.row.cell 2;dsimp only [prCells] at q2;simp only [List.getElem?_cons_zero,List.getElem?_cons_succ] at q2;clear hb ho how;have hnil:=fun (W:World) (A:Option Addr) (n c:Nat)=>Lib.run_eql_slice_nil (P:=Tryz.prog) W 24 114 A n c 0 0 Tryz.underlying24
  cases A with
  | none=>
   go_wp2;go_ret;exact ⟨_,rfl,⟨_,_,_,_,HP9.out,HM9.out⟩⟩
  | some ad=>
   go_wp2;go_ret;exact ⟨_,rfl,⟨_,_,_,_,HP9.out,HM9.out⟩⟩
 have d2:(h == 2)=false:=by simp [hd2]
 by_cases hd3:h=3
 ·subst hd3;have pR:=HP1.out.row;dsimp only [prCells] at pR;obtain ⟨p0,p1,p2,p3,p4,p5,p6,pl⟩:=pR.cells7;have pf1:=pR.frozen 1;clear pR;by_cases h2:n=2
  rotate_left 1
  ·have e1:((n:Int) == 2)=false:=by simp;omega
   have e2:((n:Int) != 2)=true:=by simp;omega
   clear h2;go_wp2;go_ret;exact ⟨15,rfl,prRes_trans HM1.out (prRes_below HP1.out (Below.refl _ _))⟩
  have e1:((n:Int) == 2)=true:=by simp;omega
  have e2:((n:Int) != 2)=false:=by simp;omega
  have h1n:(1:Int) < (n:Int):=by omega
  have h1m:1 < n:=by omega
  clear h2;obtain ⟨x0,c0,hx0⟩:=HW1.out.word (k:=0) (by rw [HN.out];omega);obtain ⟨x1,c1,hx1⟩:=HW1.out.word (k:=1) (by rw [HN.out];omega)
  cases dv:(x0.toList == [115,121,109,109,101,116,114,121]) with
  | false=>
   go_wp2;go_ret;exact ⟨15,rfl,prRes_trans HM1.out (prRes_below HP1.out (Below.refl _ _))⟩
  | true=>
  obtain ⟨k,hk⟩:∃ k,Lib.idxOfS (symL.take 4) x1=k:=⟨_,rfl⟩
  have HX:=hiD (fun (nq:Nat)=>((index_str 0 4 4 symL x1 (w1.drewN nq) (by decide) (by decide) (fun j hj=>(HG.out.up HB1.out).sym j hj)).mono (R':=fun e w'=>e=.returned (.int .i64 k)∧w1.drewN nq=w') fun e w' q=>⟨by rw [q.1,hk],q.2.symm⟩));clear hk;go_upto_region 21 with fail;go_quiet ((go_at_call 116;exact quiet_same (HX.out _)));have HD:=hiD (below_drewN (Below.refl w1.heap.size w1) nq);have HP2:=hiD (HP1.out.below HD.out);have HM2:=hiD (HM1.out.trans (PrMv.ofBelow HD.out));have HB2:=hiD (HB1.out.trans (HD.out.mono HB1.out.size));clear p0 p1 p2 p3 p4 p5 p6 pf1 pl;clear HD HX c0 c1 HW1 hal e1 e2 dv d1 d2 h1n h1m hd1 hd2;revert HP2 HM2 HB2;generalize w1.drewN nq=w2;intro HP2 HM2 HB2;by_cases hk0:k < 0
  ·have d1:decide (k < 0)=true:=decide_eq_true hk0;go_wp2;go_ret;exact ⟨7,rfl,⟨_,_,_,_,HP2.out,HM2.out⟩⟩
  have d1:decide (k < 0)=false:=decide_eq_false hk0;have pR:=HP2.out.row;dsimp only [prCells] at pR;obtain ⟨p0,p1,p2,p3,p4,p5,p6,pl⟩:=pR.cells7;have pf1:=pR.frozen 1;clear pR;have HC:=permits_any t.hood k HA hn hc w2 HP2.out.hood.rd (by unfold maxLen;omega) (HG.out.up HB2.out).mat
  obtain ⟨b,hbq⟩:∃ b,KT.permitsK t.hood k=b:=⟨_,rfl⟩
  rw [hbq] at HC;clear hbq;have HCC:=hiD HC;clear HC;go_wp2_with fail;refine HCC.out.mono ?_;clear HCC;rintro e w3 ⟨rfl,hb⟩;have HP3:=hiD (HP2.out.below hb);have HM3:=hiD (HM2.out.trans (PrMv.ofBelow hb));clear hb;clear p0 p1 p2 p3 p4 p5 p6 pf1 pl
  cases b with
  | false=>
   go_wp2;go_ret;exact ⟨2,rfl,⟨_,_,_,_,HP3.out,HM3.out⟩⟩
  | true=>
  have pR:=HP3.out.row;dsimp only [prCells] at pR;obtain ⟨p0,p1,p2,p3,p4,p5,p6,pl⟩:=pR.cells7;have pf1:=pR.frozen 1;clear pR;obtain ⟨hp9,hm9⟩:=HP3.out.setC (st':=t.states) (sy':=k) (hood':=t.hood) (HA':=HA) (hn':=hn) (hc':=hc) (hd':=3) 1 (.int .i64 k) rfl HP3.out.hood h9;have HP9:=hiD hp9;have HM9:=hiD (HM3.out.trans hm9);clear hp9 hm9;go_wp2;go_ret;exact ⟨0,rfl,⟨_,_,_,_,HP9.out,HM9.out⟩⟩
 have d3:(h == 3)=false:=by simp [hd3]
 clear hd1 hd2 hd3;have pR:=HP1.out.row;dsimp only [prCells] at pR;obtain ⟨p0,p1,p2,p3,p4,p5,p6,pl⟩:=pR.cells7;clear pR;obtain ⟨x0,c0,hx0⟩:=HW1.out.word (k:=0) (by rw [HN.out];omega)
 cases dv:(x0.toList == [118,97,114]) with
 | true=>
  go_wp2_with fail;refine (variable_any wB.heap.size pb mb t _ F h a n ws w1 HP1.out HW1.out HN.out).mono ?_;rintro e w2 ⟨k,rfl,hr⟩;have HR:=hiD hr;clear hr;go_wp2;go_ret;exact ⟨k,rfl,prRes_trans HM1.out HR.out⟩
 | false=>
  go_wp2_with fail;refine (prow_any wB.heap.size pb mb t _ F h a n ws w1 HP1.out HW1.out HN.out).mono ?_;rintro e w2 ⟨k,rfl,hr⟩;have HR:=hiD hr;clear hr;go_wp2;go_ret;exact ⟨k,rfl,prRes_trans HM1.out HR.out⟩
end Go.Proofs.YtbijfnbelkbofaaGreatDoor
namespace Go.Proofs.YtbijfnbelkbofaaGreatDoor
open Go.RowKit Go.Shelf Go.Maps
attribute [local go_sem] Oper.semAt_some
section
variable {B B' pb mb:Nat} {t:KT.Tab} {P P':TP} {F:Value→Option Value} {hd:Int} {w w':World}
theorem nt_step {T:TypeId} {row:Option Nat} (hr:∀ r,row=some r→B'≤r∧∃ o:Obj,w.heap[r]?=some o∧o.isCells=false):NT w T row:=fun k hk cur fz e=>by
 obtain ⟨_,o,h1,h2⟩:=hr k hk;rw [e] at h1;injection h1 with h1;subst h1
 cases h2
theorem PrS.steps (h:PrS B pb mb t P F hd w) (hs:StepPx B' w w') (hm:mb < B'):PrS B pb mb t P F hd w':=by
 obtain ⟨row,hg,hr⟩:=hs;have n1:∀ {T:TypeId},NT w T row:=nt_step hr
 exact ⟨h.pB,h.mB,row_nt h.row hg n1,h.hood.grown hg n1,h.h9,own_nt h.vown hg n1,h.vl,fun j hj=>⟨(h.var j hj).1.grown hg n1,(h.var j hj).2⟩,own_nt h.rown hg n1,h.rl,h.rsl,fun j hj=>⟨(h.rw j hj).1.grown hg n1,(h.rw j hj).2⟩,
  h.mp.kept hg (fun e=>by have:=(hr mb e).1;omega),h.nm,h.v9,h.r9⟩
theorem below_steps {a:World} (h:Below B a w) (hs:StepPx B' w w') (hB:B≤B') (hS:B≤w.heap.size):Below B a w':=by
 obtain ⟨row,hg,hr⟩:=hs;exact h.grown hg hS (fun k hk=>Nat.le_trans hB (hr k hk).1)
theorem row_steps {g:Nat} {T:TypeId} {xs:List Value} (h:Row w g T xs) (hs:StepPx B' w w'):Row w' g T xs:=by
 obtain ⟨row,hg,hr⟩:=hs;exact row_nt h hg (nt_step hr)
theorem PrS.setLow (h:PrS B pb mb t P F hd w) {p:Addr} (hp:p.block < B) (u:Value):PrS B pb mb t P F hd (w.setCell p u):=by
 have hg:=set_grown w p u;have hty:∀ {T:TypeId} {sz n:Nat} {A:Option Addr} {xs:List Value},TyRd T sz B w A n xs→TyRd T sz B (w.setCell p u) A n xs:=fun q=>q.keep (by simp) (fun k hk=>Below.heap_setCell w p u k (by have:=(q.ty k hk).1;omega))
 exact ⟨h.pB,h.mB,h.row.far (by have:=h.pB;omega) u,hty h.hood,h.h9,own_far h.vown (fun e=>by have:=(h.vown.lt _ e).1;omega) u,h.vl,fun j hj=>⟨hty (h.var j hj).1,(h.var j hj).2⟩,own_far h.rown (fun e=>by have:=(h.rown.lt _ e).1;omega) u,h.rl,h.rsl,
  fun j hj=>⟨hty (h.rw j hj).1,(h.rw j hj).2⟩,h.mp.set (by have:=h.mB;omega) u,h.nm,h.v9,h.r9⟩
theorem PrS.low (h:PrS B pb mb t P F hd w) (m:PrMv pb mb P w P' w') {g:Nat} {T:TypeId} {xs:List Value} (hr:Row w g T xs) (hg:g < B):Row w' g T xs:=m.kept.row hr (fun e=>by have:=(h.lt e).1;omega)
theorem PrS.mvRow (h:PrS B pb mb t P F hd w) (m:PrMv pb mb P w P' w') {g:Nat} {T:TypeId} {xs:List Value} (hr:Row w g T xs) (h1:122≠T) (h2:22≠T) (h3:179≠T):Row w' g T xs:=m.kept.row hr (fun e=>by
 rcases e with e | e | e | e
 ·subst e;exact nt_row h.row h1 _ rfl xs.toArray (0,0) hr
 ·subst e;exact nt_map h.mp _ rfl xs.toArray (0,0) hr
 ·exact nt_own h.vown h2 g (by rw [own_blk];exact e) xs.toArray (0,0) hr
 ·exact nt_own h.rown h3 g (by rw [own_blk];exact e) xs.toArray (0,0) hr)
theorem PrS.bel (h:PrS B pb mb t P F hd w) (m:PrMv pb mb P w P' w') (hB:B≤w.heap.size):Below B w w':=m.kept.below (fun k hk=>(h.lt hk).1) hB
theorem PrS.kp (h:PrS B pb mb t P F hd w) (m:PrMv pb mb P w P' w') (hB:B≤w.heap.size):KpW B w w':=⟨h.bel m hB,fun k cs fz hk=>(m.kept.block k (heap_lt hk) (fun e=>h.noS e cs fz hk)).trans hk⟩
theorem PrS.keeps (h:PrS B pb mb t P F hd w) (m:PrMv pb mb P w P' w') (hm:mb < B'):KeepsFrom B' w w':=
 ⟨m.kept.size,fun k o hB hk ho=>(m.kept.block k (heap_lt hk) (fun e=>by
  rcases e with e | e | e | e
  ·subst e;have:=h.row;unfold Row at this;rw [this] at hk;injection hk with hk;subst hk;cases ho
  ·omega
  ·obtain ⟨cur,h1,_⟩:=own_block_type h.vown (k:=k) (by rw [own_blk];exact e);rw [h1] at hk;injection hk with hk;subst hk;cases ho
  ·obtain ⟨cur,h1,_⟩:=own_block_type h.rown (k:=k) (by rw [own_blk];exact e)
   rw [h1] at hk;injection hk with hk;subst hk;cases ho)).trans hk⟩
end
theorem kpW_t {B:Nat} {X Y Z:World} (h:KpW B X Y) (k:KpW B Y Z):KpW B X Z:=⟨h.1.trans k.1,fun j cs fz hj=>k.2 j cs fz (h.2 j cs fz hj)⟩
theorem kpW_b {B S:Nat} (hS:B≤S) (W:World) (l:Nat) (o o':Obj) (hl:S≤l) (h:W.heap[l]?=some o) (ho:o.isCells=false):KpW B W (W.putObj l o'):=
 ⟨(Below.refl B W).grown (grownBy_putObj' W l o') (by have:=heap_lt h;omega) (fun k e=>by cases e;omega),fun k cs fz hk=>(World.putObj_heap_other (fun e=>by subst e;rw [hk] at h;injection h with h;subst h;cases ho)).trans hk⟩
theorem pxW_step {B:Nat} (x:Int × Nat × List ByteArray) (X Y:World) (h:PxW x X) (hs:StepPx B X Y):PxW x Y:=by
 obtain ⟨row,hg,hr⟩:=hs;refine ⟨h.1.same (hg.block _ h.1.lt (fun e=>?_)),h.2⟩;obtain ⟨cur,fz,h1⟩:=h.1.ty;exact nt_step hr _ e.symm cur fz h1
theorem tblB_err {w w':World} (ln k:Int) (hb:Below w.heap.size w w'):TblB w (.returned (.tuple #[.agg #[.int .i64 0,.int .i64 0,.slice none 0 0,.slice none 0 0,.slice none 0 0],.int .i64 ln,.int .i64 k])) w':=
 ⟨⟨0,0,[],[],[]⟩,⟨none,0,0,none,0,0,none,0,0,[],[]⟩,ln,k,rfl,⟨Rd.empty _,Rd.empty _,rfl,fun i hi=>absurd hi (Nat.not_lt_zero _),Rd.empty _,rfl,fun i hi=>absurd hi (Nat.not_lt_zero _),Nat.zero_le _,Nat.zero_le _,Nat.zero_le _⟩,⟨nofun,Nat.zero_le _⟩,hb⟩
theorem box7 {W:World} {rb ib eb:Nat} {x0 x1 x2 x3 x4 y z:Value} (hT:Row W rb 60 [x0,x1,x2,x3,x4]) (hI:Row W ib 3 [y]) (hE:Row W eb 28 [z]) (h1:rb≠ib) (h2:rb≠eb) (h3:ib≠eb) (v0 v1 v2 v3 v4 v5 v6:Value):
 ∃ V,World.setCell (World.setCell (World.setCell (World.setCell (World.setCell (World.setCell (World.setCell W ⟨rb,0,none⟩ v0) ⟨rb,1,none⟩ v1) ⟨rb,2,none⟩ v2) ⟨rb,3,none⟩ v3) ⟨rb,4,none⟩ v4) ⟨ib,0,none⟩ v5) ⟨eb,0,none⟩ v6=V ∧
  Hid (Row V rb 60 [v0,v1,v2,v3,v4])∧Hid (Row V ib 3 [v5])∧Hid (Row V eb 28 [v6])∧Hid (KeepsOthers W V)∧Hid (∀ (B:Nat) (w0:World),Below B w0 W→B≤rb→B≤ib→B≤eb→Below B w0 V) ∧
  Hid (∀ (B pb mb:Nat) (t:KT.Tab) (P:TP) (F:Value→Option Value) (hd:Int),PrS B pb mb t P F hd W→rb < B→ib < B→eb < B→PrS B pb mb t P F hd V):=by
 refine ⟨_,rfl,?_,?_,?_,?_,fun B w0 hb q1 q2 q3=>?_,fun B pb mb t P F hd hp q1 q2 q3=>?_⟩
 ·exact ((((((hT.set 0 v0).set 1 v1).set 2 v2).set 3 v3).set 4 v4).far (p:=⟨ib,0,none⟩) h1 v5).far (p:=⟨eb,0,none⟩) h2 v6
 ·exact (((((((hI.far (p:=⟨rb,0,none⟩) h1.symm v0).far (p:=⟨rb,1,none⟩) h1.symm v1).far (p:=⟨rb,2,none⟩) h1.symm v2).far (p:=⟨rb,3,none⟩) h1.symm v3).far (p:=⟨rb,4,none⟩) h1.symm v4).set 0 v5).far (p:=⟨eb,0,none⟩) h3 v6)
 ·exact (((((((hE.far (p:=⟨rb,0,none⟩) h2.symm v0).far (p:=⟨rb,1,none⟩) h2.symm v1).far (p:=⟨rb,2,none⟩) h2.symm v2).far (p:=⟨rb,3,none⟩) h2.symm v3).far (p:=⟨rb,4,none⟩) h2.symm v4).far (p:=⟨ib,0,none⟩) h3.symm v5).set 0 v6)
 ·exact ((((((KeepsOthers.setCell _ _ _).trans (.setCell _ _ _)).trans (.setCell _ _ _)).trans (.setCell _ _ _)).trans (.setCell _ _ _)).trans (.setCell _ _ _)).trans (.setCell _ _ _)
 ·exact ((((((hb.setCell (p:=⟨rb,0,none⟩) q1 _).setCell (p:=⟨rb,1,none⟩) q1 _).setCell (p:=⟨rb,2,none⟩) q1 _).setCell (p:=⟨rb,3,none⟩) q1 _).setCell (p:=⟨rb,4,none⟩) q1 _).setCell (p:=⟨ib,0,none⟩) q2 _).setCell (p:=⟨eb,0,none⟩) q3 _
 ·exact ((((((hp.setLow (p:=⟨rb,0,none⟩) q1 _).setLow (p:=⟨rb,1,none⟩) q1 _).setLow (p:=⟨rb,2,none⟩) q1 _).setLow (p:=⟨rb,3,none⟩) q1 _).setLow (p:=⟨rb,4,none⟩) q1 _).setLow (p:=⟨ib,0,none⟩) q2 _).setLow (p:=⟨eb,0,none⟩) q3 _
set_option maxRecDepth 100000 in
set_option maxHeartbeats 4000000 in
theorem rParse_in (s:ByteArray) (hs:s.size≤200) (w:World) (G:GEnv w):CallsIn Fence.wide 3 Tryz.prog 21 #[.string s] w (TblB w):=by
 refine callsIn_of_wp_marks Tryz.func21 rfl trivial ?_ rfl;simp only [Tryz.ntmps21,List.size_toArray,List.length_cons,List.length_nil,Nat.reduceAdd,Nat.reduceSub,Array.replicate_succ,Array.replicate_zero,List.push_toArray,List.append_toArray,List.nil_append,List.cons_append];have d1:decide ((65536:Int) < (s.size:Int))=false:=decide_eq_false (by omega);have d2:decide (65536 < s.size)=false:=decide_eq_false (by omega);have hmm:=@run_makeMap Tryz.prog;gi_wp2
 obtain ⟨wB,hwB⟩:∃ wB,((w.alloc (.cells #[.int .i64 0,.int .i64 0,.slice none 0 0,.slice none 0 0,.slice none 0 0] 60)).alloc (.cells #[.int .i64 0] 3)).alloc (.cells #[.int .i64 0] 28)=wB:=⟨_,rfl⟩
 have hsz:w.heap.size+1+1+1=wB.heap.size:=by rw [← hwB];simp
 rw [hwB,hsz];have HRT:Hid (Row wB w.heap.size 60 [.int .i64 0,.int .i64 0,.slice none 0 0,.slice none 0 0,.slice none 0 0]):=hiD (by rw [← hwB];exact ((Row.new w 60 [.int .i64 0,.int .i64 0,.slice none 0 0,.slice none 0 0,.slice none 0 0]).alloc _).alloc _);have HRI:Hid (Row wB (w.heap.size+1) 3 [.int .i64 0]):=hiD (by rw [← hwB];exact (rowNew1 w _ 3 [.int .i64 0]).alloc _);have HRE:Hid (Row wB (w.heap.size+1+1) 28 [.int .i64 0]):=hiD (by rw [← hwB];exact rowNew2 w _ _ 28 [.int .i64 0]);have HB0:Hid (Below w.heap.size w wB):=hiD (by rw [← hwB];go_grown);have HG:=hiD (G.up HB0.out);have hlt:w.heap.size+1+1 < wB.heap.size:=by omega
 clear hwB hsz G hmm d1 d2
 have HPS:Hid (PrS wB.heap.size (wB.heap.size+1) wB.heap.size ⟨0,0,[],[],[]⟩ ⟨none,0,0,none,0,0,none,0,0,[],[]⟩ (fun _=>none) 0 (((wB.alloc (.map #[] 0)).alloc (.cells #[.int .i64 0,.int .i64 0,.slice none 0 0,.slice none 0 0,.slice none 0 0,.map (some wB.heap.size),.int .i64 0] 122)).alloc (.cells #[.pointer (some ⟨(wB.heap.size+1),0,none⟩)] 119))):=hiD
  {pB:=Nat.le_succ _,mB:=Nat.le_refl _,row:=(rowNew1 wB _ 122 [.int .i64 0,.int .i64 0,.slice none 0 0,.slice none 0 0,.slice none 0 0,.map (some wB.heap.size),.int .i64 0]).alloc _,hood:=TyRd.nil _ _ _ _,h9:=Nat.zero_le _,vown:=World.ownsRow_nil _ _ _ _,vl:=rfl,var:=fun i hi=>absurd hi (Nat.not_lt_zero _),
   rown:=World.ownsRow_nil _ _ _ _,rl:=rfl,rsl:=rfl,rw:=fun i hi=>absurd hi (Nat.not_lt_zero _),mp:=((MK.made wB Tryz.prog 9).alloc _).alloc _,nm:=fun v x e=>(by cases e),v9:=Nat.zero_le _,r9:=Nat.zero_le _ }
 have HRQ:Hid (Row (((wB.alloc (.map #[] 0)).alloc (.cells #[.int .i64 0,.int .i64 0,.slice none 0 0,.slice none 0 0,.slice none 0 0,.map (some wB.heap.size),.int .i64 0] 122)).alloc (.cells #[.pointer (some ⟨(wB.heap.size+1),0,none⟩)] 119)) (wB.heap.size+1+1) 119 [.pointer (some ⟨(wB.heap.size+1),0,none⟩)]):=hiD (rowNew2 wB _ _ 119 [.pointer (some ⟨(wB.heap.size+1),0,none⟩)]);have HB6:Hid (Below wB.heap.size wB (((wB.alloc (.map #[] 0)).alloc (.cells #[.int .i64 0,.int .i64 0,.slice none 0 0,.slice none 0 0,.slice none 0 0,.map (some wB.heap.size),.int .i64 0] 122)).alloc (.cells #[.pointer (some ⟨(wB.heap.size+1),0,none⟩)] 119))):=hiD (by go_grown);revert HPS HRQ HB6;generalize ((wB.alloc (.map #[] 0)).alloc (.cells #[.int .i64 0,.int .i64 0,.slice none 0 0,.slice none 0 0,.slice none 0 0,.map (some wB.heap.size),.int .i64 0] 122)).alloc (.cells #[.pointer (some ⟨(wB.heap.size+1),0,none⟩)] 119)=w6;intro HPS HRQ HB6;refine ⟨trivial,(callsIn_wide.2 (lines_any s w6)).mono ?_⟩;rintro e w7 ⟨rfl,hrs,hb⟩;have HP7:=hiD (HPS.out.below hb);have HQ7:=hiD (rowCells HRQ.out hb);have HB7:=hiD (HB6.out.trans (hb.mono HB6.out.size));have HS7:=hiD hrs;have hm7:wB.heap.size < w7.heap.size:=HP7.out.mp.lt;clear HPS HRQ HB6 hb hrs;gi_wp2
 refine wpIn_rangePx (gf:=111) (lb:=#[.pointer (some ⟨w6.heap.size,0,none⟩)]) rfl (enters_of Tryz.func111 (by kernel_rfl) rfl) (encs:=encW) (fun _=>rfl) (Kp:=KpW wB.heap.size) (Px:=PxW)
  (lines_seq wB HG.out s (by omega) w6.heap.size w7 HB7.out HS7.out) kpW_t (kpW_b (Nat.le_of_lt hm7))
  (fun W=>Below wB.heap.size wB W∧Row W (wB.heap.size+1+1) 119 [.pointer (some ⟨(wB.heap.size+1),0,none⟩)]∧∃ t P F hd,PrS wB.heap.size (wB.heap.size+1) wB.heap.size t P F hd W)
  (fun c W=>c=.ret∧Below w.heap.size w W∧Row W w.heap.size 60 [.int .i64 0,.int .i64 0,.slice none 0 0,.slice none 0 0,.slice none 0 0]∧∃ ln k,Row W (w.heap.size+1) 3 [.int .i64 ln]∧Row W (w.heap.size+1+1) 28 [.int .i64 k])
  (fun A B h hs=>⟨below_steps h.1 hs (Nat.le_of_lt hm7) h.1.size,row_steps h.2.1 hs,(let ⟨t,P,F,hd,hp⟩:=h.2.2;⟨t,P,F,hd,hp.steps hs hm7⟩)⟩)
  (fun c A B h hs=>⟨h.1,below_steps h.2.1 hs (by omega) h.2.1.size,row_steps h.2.2.1 hs,(let ⟨ln,k,h1,h2⟩:=h.2.2.2;⟨ln,k,row_steps h1 hs,row_steps h2 hs⟩)⟩)
  ⟨HB7.out,HQ7.out,_,_,_,_,HP7.out⟩ pxW_step
  (fun x=>{ tmps:=#[.string s,undef,.pointer (some ⟨w.heap.size,0,none⟩),.pointer (some ⟨(w.heap.size+1),0,none⟩),.pointer (some ⟨(w.heap.size+1+1),0,none⟩),.pointer (some ⟨(wB.heap.size+1+1),0,none⟩),.int .i64 x.1,.slice (some ⟨x.2.1,0,none⟩) x.2.2.length x.2.2.length,undef,.string s,.int .i64 (s.size:Int),.bool false,undef,.map (some wB.heap.size),.agg #[.int .i64 0,.int .i64 0,.slice none 0 0,.slice none 0 0,.slice none 0 0,.map (some wB.heap.size),.int .i64 0],.pointer (some ⟨(wB.heap.size+1),0,none⟩),.string s,(.func (.func 111) #[] #[.pointer (some ⟨w6.heap.size,0,none⟩)]),.int .i64 x.1,.slice (some ⟨x.2.1,0,none⟩) x.2.2.length x.2.2.length,undef,undef,undef,undef,undef,undef,undef,undef,undef,undef,undef,undef,undef,undef,undef,undef,undef,undef],defers:=[] }) ?assign ?body ?done ?stop
 case assign=>
  rintro l ⟨i,a,ws⟩ W K hK;unfold encW;dsimp only at hK ⊢;gi_wp2;exact hK
 case body=>
  rintro l ⟨i,a,ws⟩ W ⟨hb,hq,t,P,F,hd,hp⟩ ⟨hwd,hpos⟩;have HW:=hiD hwd;have HPW:=hiD hp;have HBW:=hiD hb;have HQW:=hiD hq
  obtain ⟨n,hn⟩:∃ n,ws.length=n:=⟨_,rfl⟩
  have HN:=hiD hn;dsimp only at hpos ⊢;rw [hn] at hpos ⊢;have q0:=hq.cell 0;have ql:=hq.lt;simp only [List.getElem?_cons_zero] at q0;clear hwd hp hb hq hn;gi_wp2;refine ⟨trivial,(CallsIn.inRound l (callsIn_wide.2 (pline_any wB HG.out (wB.heap.size+1) wB.heap.size t P F hd a n ws W HBW.out HPW.out HW.out HN.out hpos))).mono ?_⟩;rintro e W2 ⟨k,rfl,hr⟩;obtain ⟨t',P',F',hd',hp',hm'⟩:=hr.out;have HP2:=hiD hp';have HM2:=hiD hm';clear hr hp' hm' q0 ql;by_cases hk:k=0
  ·subst hk;gi_wp2;exact ⟨HPW.out.keeps HM2.out hm7,HPW.out.kp HM2.out HBW.out.size,HBW.out.trans (HPW.out.bel HM2.out HBW.out.size),HPW.out.mvRow HM2.out HQW.out (by decide) (by decide) (by decide),t',P',F',hd',HP2.out⟩
  ·have e1:(k == 0)=false:=by simp [hk]
   have e2:(k != 0)=true:=by simp [hk]
   have HT:Hid (Row W2 w.heap.size 60 [.int .i64 0,.int .i64 0,.slice none 0 0,.slice none 0 0,.slice none 0 0]):=hiD (HPW.out.low HM2.out (rowCells HRT.out HBW.out) (by omega));have HI:Hid (Row W2 (w.heap.size+1) 3 [.int .i64 0]):=hiD (HPW.out.low HM2.out (rowCells HRI.out HBW.out) (by omega));have HE:Hid (Row W2 (w.heap.size+1+1) 28 [.int .i64 0]):=hiD (HPW.out.low HM2.out (rowCells HRE.out HBW.out) (by omega));have HB2:=hiD (HB0.out.trans ((HBW.out.trans (HPW.out.bel HM2.out HBW.out.size)).mono HB0.out.size));obtain ⟨x0,x1,x2,x3,x4,xl⟩:=HT.out.cells5;obtain ⟨xf0,xf1,xf2,xf3,xf4⟩:=HT.out.froz5;obtain ⟨y0,yl⟩:=HI.out.cells1;have yf0:=HI.out.frozen 0;obtain ⟨z0,zl⟩:=HE.out.cells1;have zf0:=HE.out.frozen 0;gi_wp2;obtain ⟨W9,hW9,HT9,HI9,HE9,HKO,HBB,HPP⟩:=box7 HT.out HI.out HE.out (by omega) (by omega) (by omega) (.int .i64 0) (.int .i64 0) (.slice none 0 0) (.slice none 0 0) (.slice none 0 0) (.int .i64 i) (.int .i64 k);rw [hW9];clear hW9;exact ⟨(HPW.out.keeps HM2.out hm7).trans (HKO.out.from _),rfl,HBB.out _ _ HB2.out (by omega) (by omega) (by omega),HT9.out,i,k,HI9.out,HE9.out⟩
 case done=>
  rintro D W hD ⟨hb,hq,t,P,F,hd,hp⟩ hK;have HPW:=hiD hp;have HBW:=hiD hb;have HKD:=hiD hK;have HT:Hid (Row W w.heap.size 60 [.int .i64 0,.int .i64 0,.slice none 0 0,.slice none 0 0,.slice none 0 0]):=hiD (rowCells HRT.out hb);have HI:Hid (Row W (w.heap.size+1) 3 [.int .i64 0]):=hiD (rowCells HRI.out hb);have HE:Hid (Row W (w.heap.size+1+1) 28 [.int .i64 0]):=hiD (rowCells HRE.out hb);have q0:=hq.cell 0;have ql:=hq.lt;simp only [List.getElem?_cons_zero] at q0;clear hp hb hK hq;obtain ⟨HA,hn,hc,VA,vn,vc,RA,rn,rc,vs,rs⟩:=P;have pR:=HPW.out.row;dsimp only [prCells] at pR;have p0:=pR.cell 0;have p1:=pR.cell 1;have p2:=pR.cell 2;have p3:=pR.cell 3;have p4:=pR.cell 4;have p5:=pR.cell 5;have p6:=pR.cell 6;have pl:=pR.lt;clear pR;simp only [List.getElem?_cons_zero,List.getElem?_cons_succ] at p0 p1 p2 p3 p4 p5 p6;obtain ⟨x0,x1,x2,x3,x4,xl⟩:=HT.out.cells5;obtain ⟨xf0,xf1,xf2,xf3,xf4⟩:=HT.out.froz5;obtain ⟨y0,yl⟩:=HI.out.cells1;have yf0:=HI.out.frozen 0;obtain ⟨z0,zl⟩:=HE.out.cells1;have zf0:=HE.out.frozen 0;have HW0:=hiD (HB0.out.trans (HBW.out.mono HB0.out.size));by_cases h3:hd < 3
  ·have d3:decide (hd < 3)=true:=decide_eq_true h3;gi_wp2;obtain ⟨W9,hW9,HT9,HI9,HE9,HKO,HBB,HPP⟩:=box7 HT.out HI.out HE.out (by omega) (by omega) (by omega) (.int .i64 0) (.int .i64 0) (.slice none 0 0) (.slice none 0 0) (.slice none 0 0) (.int .i64 0) (.int .i64 4);rw [hW9];clear hW9;have HK9:Hid (W9.heap[D]?=some (.deferred (some []))):=hiD (HKO.out.same D _ HKD.out rfl);have HB9:=hiD (HBB.out _ _ HW0.out (by omega) (by omega) (by omega));have KP:StepPx w7.heap.size W9 (W9.putObj D (.deferred none)):=.putObj _ hD HK9.out rfl;have T9:=row_steps HT9.out KP;have I9:=row_steps HI9.out KP;have E9:=row_steps HE9.out KP;have c0:=T9.cell 0;have c1:=T9.cell 1;have c2:=T9.cell 2;have c3:=T9.cell 3;have c4:=T9.cell 4;have c5:=I9.cell 0;have c6:=E9.cell 0;simp only [List.getElem?_cons_zero,List.getElem?_cons_succ] at c0 c1 c2 c3 c4 c5 c6;clear T9 I9 E9;refine ⟨by simp,.inl ⟨_,_,rfl,run_takeDeferred HK9.out,?_⟩⟩;refine ⟨.tuple #[.agg #[.int .i64 0,.int .i64 0,.slice none 0 0,.slice none 0 0,.slice none 0 0],.int .i64 0,.int .i64 4],by simp [results,Tryz.results21,go_sem,c0,c1,c2,c3,c4,c5,c6],?_⟩;exact tblB_err 0 4 (below_steps HB9.out KP (by have:=HB0.out.size;omega) HB9.out.size)
  ·have d3:decide (hd < 3)=false:=decide_eq_false h3;gi_wp2;obtain ⟨W9,hW9,HT9,HI9,HE9,HKO,HBB,HPP⟩:=box7 HT.out HI.out HE.out (by omega) (by omega) (by omega) (.int .i64 t.states) (.int .i64 t.sym) (.slice HA hn hc) (.slice VA vn vc) (.slice RA rn rc) (.int .i64 0) (.int .i64 0);rw [hW9];clear hW9;have HK9:Hid (W9.heap[D]?=some (.deferred (some []))):=hiD (HKO.out.same D _ HKD.out rfl);have HB9:=hiD (HBB.out _ _ HW0.out (by omega) (by omega) (by omega));have HP9:=hiD (HPP.out _ _ _ _ _ _ _ HPW.out (by omega) (by omega) (by omega));have KP:StepPx w7.heap.size W9 (W9.putObj D (.deferred none)):=.putObj _ hD HK9.out rfl;have T9:=row_steps HT9.out KP;have I9:=row_steps HI9.out KP;have E9:=row_steps HE9.out KP;have c0:=T9.cell 0;have c1:=T9.cell 1;have c2:=T9.cell 2;have c3:=T9.cell 3;have c4:=T9.cell 4;have c5:=I9.cell 0;have c6:=E9.cell 0;simp only [List.getElem?_cons_zero,List.getElem?_cons_succ] at c0 c1 c2 c3 c4 c5 c6;clear T9 I9 E9;refine ⟨by simp,.inl ⟨_,_,rfl,run_takeDeferred HK9.out,?_⟩⟩;refine ⟨.tuple #[.agg #[.int .i64 t.states,.int .i64 t.sym,.slice HA hn hc,.slice VA vn vc,.slice RA rn rc],.int .i64 0,.int .i64 0],by simp [results,Tryz.results21,go_sem,c0,c1,c2,c3,c4,c5,c6],?_⟩;have HPf:=HP9.out.steps KP hm7;exact ⟨t,⟨HA,hn,hc,VA,vn,vc,RA,rn,rc,vs,rs⟩,0,0,rfl,HPf.tab,⟨fun b hb=>Nat.le_trans HB0.out.size (HPf.hood.ty b hb).1,Nat.le_trans HPf.h9 (by decide)⟩,(below_steps HB9.out KP (by have:=HB0.out.size;omega) HB9.out.size)⟩
 case stop=>
  rintro D c W hD ⟨rfl,hb,ht,ln,k,hi,he⟩ hK;have HB9:=hiD hb;have HT9:=hiD ht;have HI9:=hiD hi;have HE9:=hiD he;have HK9:=hiD hK;clear hb ht hi he hK;gi_wp2;have KP:StepPx w7.heap.size W (W.putObj D (.deferred none)):=.putObj _ hD HK9.out rfl;have T9:=row_steps HT9.out KP;have I9:=row_steps HI9.out KP;have E9:=row_steps HE9.out KP;have c0:=T9.cell 0;have c1:=T9.cell 1;have c2:=T9.cell 2;have c3:=T9.cell 3;have c4:=T9.cell 4;have c5:=I9.cell 0;have c6:=E9.cell 0;simp only [List.getElem?_cons_zero,List.getElem?_cons_succ] at c0 c1 c2 c3 c4 c5 c6;clear T9 I9 E9;refine ⟨by simp,.inl ⟨_,_,rfl,run_takeDeferred HK9.out,?_⟩⟩;refine ⟨.tuple #[.agg #[.int .i64 0,.int .i64 0,.slice none 0 0,.slice none 0 0,.slice none 0 0],.int .i64 ln,.int .i64 k],by simp [results,Tryz.results21,go_sem,c0,c1,c2,c3,c4,c5,c6],?_⟩;exact tblB_err ln k (below_steps HB9.out KP (by have:=HB0.out.size;omega) HB9.out.size)
theorem rParse_any (s:ByteArray) (hs:s.size≤200) (w:World) (G:GEnv w):Calls Tryz.prog 21 #[.string s] w (TblB w):=(callsIn_wide (n:=3)).1 (rParse_in s hs w G)
end Go.Proofs.YtbijfnbelkbofaaGreatDoor
