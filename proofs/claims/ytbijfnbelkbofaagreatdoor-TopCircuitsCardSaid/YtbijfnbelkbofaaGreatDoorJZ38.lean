/-
  Lemmas for the law TopCircuits.
-/
import Derived.Test.YtbijfnbelkbofaaGreatDoorJZ25
import Derived.Test.YtbijfnbelkbofaaGreatDoorJZ33
import Derived.Test.YtbijfnbelkbofaaGreatDoorJZ34
import Derived.Test.YtbijfnbelkbofaaGreatDoorJZ37
import Derived.Test.YtbijfnbelkbofaaGreatDoorJZ1
import Derived.Test.YtbijfnbelkbofaaGreatDoorProg
import Derived.Laws.CopyOwn
import Derived.StillTailTactics
import Derived.BigQuiet
set_option linter.unusedSimpArgs false
set_option linter.unusedVariables false
namespace Go.Proofs.YtbijfnbelkbofaaGreatDoor
open Go.RowKit
def TblB (w:World) (e:Ending) (w':World):Prop:=∃ (t:KT.Tab) (P:TP) (ln k:Int),e=.returned (.tuple #[.agg #[.int .i64 t.states,.int .i64 t.sym,.slice P.HA P.hn P.hc,.slice P.VA P.vn P.vc,.slice P.RA P.rn P.rc],.int .i64 ln,.int .i64 k])∧TabAt w' t P∧((∀ b,blk P.HA=some b→w.heap.size≤b)∧P.hn≤1000000)∧Below w.heap.size w w'
set_option maxRecDepth 100000 in
set_option maxHeartbeats 4000000 in
theorem parse_any (s:ByteArray) (hs:s.size≤100000) (w:World) (G:GEnv w) (hgp:∀ W,GEnv W→Calls Tryz.prog 17 #[.string s] W (TotB W)) (hrp:∀ W,GEnv W→Calls Tryz.prog 21 #[.string s] W (TblB W)):Calls Tryz.prog 5 #[.string s] w (TrB w):=by
 have HG:=hiD G;have HGP:=hiD hgp;have HRP:=hiD hrp;clear G hgp hrp;go_enter Tryz.func5,Tryz.ntmps5;go_upto_region 1 with fail;obtain ⟨w1,hW9,RZ,hgr9⟩:=laid1 w [.int .i64 0,.slice none 0 0,.slice none 0 0] 27;rewrite [hW9];clear hW9;have B_w:=hiD hgr9;clear hgr9;have HL1:Hid (w.heap.size+1≤w1.heap.size):=(show Row w1 w.heap.size _ _ from RZ.out).lt;go_wp2_with fail;refine (kind_any s hs w1 (HG.out.up B_w.out) HGP.out).mono ?_;rintro e w2 ⟨k,rfl,hk,hb⟩;have B_w:=hiD (below_on2 B_w.out hb);have B_w1:=hiD hb;clear hb;have HL2:Hid (w.heap.size+1≤w2.heap.size):=hiD (Nat.le_trans HL1.out B_w1.out.size);have hk6:k=0∨k=1∨k=2∨k=3∨k=4∨k=5:=by omega
 clear hk;rcases hk6 with rfl | rfl | rfl | rfl | rfl | rfl
 ·skip
  have zR:Row w2 w.heap.size 27 [.int .i64 0,.slice none 0 0,.slice none 0 0]:=(rowCells RZ.out B_w1.out)
  obtain ⟨z0,z1,z2,zl⟩:=zR.cells3;obtain ⟨zf0,zf1,zf2⟩:=zR.froz3;have HRF:Row (((w2.setCell ⟨w.heap.size,0,none⟩ (.int .i64 0)).setCell ⟨w.heap.size,1,none⟩ (.slice none 0 0)).setCell ⟨w.heap.size,2,none⟩ (.slice none 0 0)) w.heap.size 27 [.int .i64 0,.slice none 0 0,.slice none 0 0]:=((zR.set 0 _).set 1 _).set 2 _;obtain ⟨d0,d1,d2,dl⟩:=HRF.cells3;clear dl;have HBF:=hiD ((((B_w.out).setCell (p:=⟨w.heap.size,0,none⟩) (Nat.le_refl _) (.int .i64 0)).setCell (p:=⟨w.heap.size,1,none⟩) (Nat.le_refl _) (.slice none 0 0)).setCell (p:=⟨w.heap.size,2,none⟩) (Nat.le_refl _) (.slice none 0 0));clear zR HRF;go_wp2_with fail;refine bodyPost_ret (v:=.tuple #[.agg #[.int .i64 0,.slice none 0 0,.slice none 0 0],.int .i64 7]) (by simp [results,Tryz.results5,go_sem,d0,d1,d2]) rfl ?_;exact trB_err 7 HBF.out
 ·skip
  go_wp2_with fail;refine (lParse_any s hs w2 (HG.out.up B_w.out)).mono ?_;rintro e w3 ⟨x,XA,BA,SA,xn,xc,bn,bc,sn,sc,k1,rfl,hat,hf,hb⟩;have HT:=hiD hat;clear hat hf;have B_w:=hiD (below_on2 B_w.out hb);have B_w1:=hiD (below_on2 B_w1.out hb);have B_w2:=hiD hb;clear hb;go_upto_region 9 with fail;obtain ⟨w4,hW9,RT,hgr9⟩:=laid1 w3 [.slice XA xn xc,.int .i64 x.states,.slice BA bn bc,.slice SA sn sc] 51;rewrite [hW9];clear hW9;have B_w:=hiD (below_on2 B_w.out hgr9);have B_w1:=hiD (below_on2 B_w1.out hgr9);have B_w2:=hiD (below_on2 B_w2.out hgr9);have B_w3:=hiD hgr9;clear hgr9;have HL4:Hid (w.heap.size+1≤w4.heap.size):=hiD (Nat.le_trans HL2.out B_w2.out.size);by_cases hk1:k1=0
  ·subst hk1;obtain ⟨q0,q1,q2,q3,ql⟩:=RT.out.cells4;go_wp2_with fail;refine (totals_any x XA BA SA xn xc bn bc sn sc w4 (HT.out.up B_w3.out) (tab_up HG.out.tab B_w.out B_w.out.size)).mono ?_;rintro e w5 ⟨t,HA,hn,hc,NA,nc,sl,k2,rfl,htr,hb⟩;have HTr0:=hiD htr;clear htr;have B_w:=hiD (below_on2 B_w.out hb);have B_w1:=hiD (below_on2 B_w1.out hb);clear q0 q1 q2 q3 ql;clear hb;have HTr:Hid (TrAt (w.heap.size+1) w5 t HA hn NA nc sl):=hiD (HTr0.out.mono HL4.out)
   have zR:Row w5 w.heap.size 27 [.int .i64 0,.slice none 0 0,.slice none 0 0]:=(rowCells RZ.out B_w1.out)
   obtain ⟨z0,z1,z2,zl⟩:=zR.cells3;obtain ⟨zf0,zf1,zf2⟩:=zR.froz3;have HRF:Row (((w5.setCell ⟨w.heap.size,0,none⟩ (.int .i64 t.states)).setCell ⟨w.heap.size,1,none⟩ (.slice HA hn hc)).setCell ⟨w.heap.size,2,none⟩ (.slice NA t.nodes.length nc)) w.heap.size 27 [.int .i64 t.states,.slice HA hn hc,.slice NA t.nodes.length nc]:=((zR.set 0 _).set 1 _).set 2 _;obtain ⟨d0,d1,d2,dl⟩:=HRF.cells3;clear dl;have HBF:=hiD ((((B_w.out).setCell (p:=⟨w.heap.size,0,none⟩) (Nat.le_refl _) (.int .i64 t.states)).setCell (p:=⟨w.heap.size,1,none⟩) (Nat.le_refl _) (.slice HA hn hc)).setCell (p:=⟨w.heap.size,2,none⟩) (Nat.le_refl _) (.slice NA t.nodes.length nc));have HTF:=hiD (((HTr.out.set (p:=⟨w.heap.size,0,none⟩) (Nat.lt_succ_self _) (.int .i64 t.states)).set (p:=⟨w.heap.size,1,none⟩) (Nat.lt_succ_self _) (.slice HA hn hc)).set (p:=⟨w.heap.size,2,none⟩) (Nat.lt_succ_self _) (.slice NA t.nodes.length nc));clear zR HRF;go_wp2_with fail;refine bodyPost_ret (v:=.tuple #[.agg #[.int .i64 t.states,.slice HA hn hc,.slice NA t.nodes.length nc],.int .i64 k2]) (by simp [results,Tryz.results5,go_sem,d0,d1,d2]) rfl ?_;exact ⟨t,HA,hn,hc,NA,nc,sl,k2,rfl,HTF.out.mono (Nat.le_succ _),HBF.out⟩
  ·have e1:(k1 == 0)=false:=by simp [hk1]
   have e2:(k1 != 0)=true:=by simp [hk1]
   have zR:Row w4 w.heap.size 27 [.int .i64 0,.slice none 0 0,.slice none 0 0]:=(rowCells RZ.out B_w1.out)
   obtain ⟨z0,z1,z2,zl⟩:=zR.cells3;obtain ⟨zf0,zf1,zf2⟩:=zR.froz3;have HRF:Row (((w4.setCell ⟨w.heap.size,0,none⟩ (.int .i64 0)).setCell ⟨w.heap.size,1,none⟩ (.slice none 0 0)).setCell ⟨w.heap.size,2,none⟩ (.slice none 0 0)) w.heap.size 27 [.int .i64 0,.slice none 0 0,.slice none 0 0]:=((zR.set 0 _).set 1 _).set 2 _;obtain ⟨d0,d1,d2,dl⟩:=HRF.cells3;clear dl;have HBF:=hiD ((((B_w.out).setCell (p:=⟨w.heap.size,0,none⟩) (Nat.le_refl _) (.int .i64 0)).setCell (p:=⟨w.heap.size,1,none⟩) (Nat.le_refl _) (.slice none 0 0)).setCell (p:=⟨w.heap.size,2,none⟩) (Nat.le_refl _) (.slice none 0 0));clear zR HRF;go_wp2_with fail;refine bodyPost_ret (v:=.tuple #[.agg #[.int .i64 0,.slice none 0 0,.slice none 0 0],.int .i64 k1]) (by simp [results,Tryz.results5,go_sem,d0,d1,d2]) rfl ?_;exact trB_err k1 HBF.out
 ·skip
  go_wp2_with fail;refine (HGP.out w2 (HG.out.up B_w.out)).mono ?_;rintro e w3 ⟨x,XA,BA,SA,xn,xc,bn,bc,sn,sc,k1,rfl,hat,hf,hb⟩;have HT:=hiD hat;clear hat hf;have B_w:=hiD (below_on2 B_w.out hb);have B_w1:=hiD (below_on2 B_w1.out hb);have B_w2:=hiD hb;clear hb;go_upto_region 9 with fail;obtain ⟨w4,hW9,RT,hgr9⟩:=laid1 w3 [.slice XA xn xc,.int .i64 x.states,.slice BA bn bc,.slice SA sn sc] 51;rewrite [hW9];clear hW9;have B_w:=hiD (below_on2 B_w.out hgr9);have B_w1:=hiD (below_on2 B_w1.out hgr9);have B_w2:=hiD (below_on2 B_w2.out hgr9);have B_w3:=hiD hgr9;clear hgr9;have HL4:Hid (w.heap.size+1≤w4.heap.size):=hiD (Nat.le_trans HL2.out B_w2.out.size);by_cases hk1:k1=0
  ·subst hk1;obtain ⟨q0,q1,q2,q3,ql⟩:=RT.out.cells4;go_wp2_with fail;refine (totals_any x XA BA SA xn xc bn bc sn sc w4 (HT.out.up B_w3.out) (tab_up HG.out.tab B_w.out B_w.out.size)).mono ?_;rintro e w5 ⟨t,HA,hn,hc,NA,nc,sl,k2,rfl,htr,hb⟩;have HTr0:=hiD htr;clear htr;have B_w:=hiD (below_on2 B_w.out hb);have B_w1:=hiD (below_on2 B_w1.out hb);clear q0 q1 q2 q3 ql;clear hb;have HTr:Hid (TrAt (w.heap.size+1) w5 t HA hn NA nc sl):=hiD (HTr0.out.mono HL4.out)
   have zR:Row w5 w.heap.size 27 [.int .i64 0,.slice none 0 0,.slice none 0 0]:=(rowCells RZ.out B_w1.out)
   obtain ⟨z0,z1,z2,zl⟩:=zR.cells3;obtain ⟨zf0,zf1,zf2⟩:=zR.froz3;have HRF:Row (((w5.setCell ⟨w.heap.size,0,none⟩ (.int .i64 t.states)).setCell ⟨w.heap.size,1,none⟩ (.slice HA hn hc)).setCell ⟨w.heap.size,2,none⟩ (.slice NA t.nodes.length nc)) w.heap.size 27 [.int .i64 t.states,.slice HA hn hc,.slice NA t.nodes.length nc]:=((zR.set 0 _).set 1 _).set 2 _;obtain ⟨d0,d1,d2,dl⟩:=HRF.cells3;clear dl;have HBF:=hiD ((((B_w.out).setCell (p:=⟨w.heap.size,0,none⟩) (Nat.le_refl _) (.int .i64 t.states)).setCell (p:=⟨w.heap.size,1,none⟩) (Nat.le_refl _) (.slice HA hn hc)).setCell (p:=⟨w.heap.size,2,none⟩) (Nat.le_refl _) (.slice NA t.nodes.length nc));have HTF:=hiD (((HTr.out.set (p:=⟨w.heap.size,0,none⟩) (Nat.lt_succ_self _) (.int .i64 t.states)).set (p:=⟨w.heap.size,1,none⟩) (Nat.lt_succ_self _) (.slice HA hn hc)).set (p:=⟨w.heap.size,2,none⟩) (Nat.lt_succ_self _) (.slice NA t.nodes.length nc));clear zR HRF;go_wp2_with fail;refine bodyPost_ret (v:=.tuple #[.agg #[.int .i64 t.states,.slice HA hn hc,.slice NA t.nodes.length nc],.int .i64 k2]) (by simp [results,Tryz.results5,go_sem,d0,d1,d2]) rfl ?_;exact ⟨t,HA,hn,hc,NA,nc,sl,k2,rfl,HTF.out.mono (Nat.le_succ _),HBF.out⟩
  ·have e1:(k1 == 0)=false:=by simp [hk1]
   have e2:(k1 != 0)=true:=by simp [hk1]
   have zR:Row w4 w.heap.size 27 [.int .i64 0,.slice none 0 0,.slice none 0 0]:=(rowCells RZ.out B_w1.out)
   obtain ⟨z0,z1,z2,zl⟩:=zR.cells3;obtain ⟨zf0,zf1,zf2⟩:=zR.froz3;have HRF:Row (((w4.setCell ⟨w.heap.size,0,none⟩ (.int .i64 0)).setCell ⟨w.heap.size,1,none⟩ (.slice none 0 0)).setCell ⟨w.heap.size,2,none⟩ (.slice none 0 0)) w.heap.size 27 [.int .i64 0,.slice none 0 0,.slice none 0 0]:=((zR.set 0 _).set 1 _).set 2 _;obtain ⟨d0,d1,d2,dl⟩:=HRF.cells3;clear dl;have HBF:=hiD ((((B_w.out).setCell (p:=⟨w.heap.size,0,none⟩) (Nat.le_refl _) (.int .i64 0)).setCell (p:=⟨w.heap.size,1,none⟩) (Nat.le_refl _) (.slice none 0 0)).setCell (p:=⟨w.heap.size,2,none⟩) (Nat.le_refl _) (.slice none 0 0));clear zR HRF;go_wp2_with fail;refine bodyPost_ret (v:=.tuple #[.agg #[.int .i64 0,.slice none 0 0,.slice none 0 0],.int .i64 k1]) (by simp [results,Tryz.results5,go_sem,d0,d1,d2]) rfl ?_;exact trB_err k1 HBF.out
 ·skip
  go_wp2_with fail;refine (wParse_any s hs w2 (HG.out.up B_w.out)).mono ?_;rintro e w3 ⟨st,n,sm,k1,rfl,⟨hi1,hi2⟩,hb⟩;have B_w:=hiD (below_on2 B_w.out hb);have B_w1:=hiD (below_on2 B_w1.out hb);have B_w2:=hiD hb;clear hb;have HL3:Hid (w.heap.size+1≤w3.heap.size):=hiD (Nat.le_trans HL2.out B_w2.out.size);by_cases hk1:k1=0
  ·subst hk1;go_wp2_with fail;refine (elementary_trb n w3 hi2 (tab_up HG.out.tab B_w.out B_w.out.size)).mono ?_;rintro e w5 ⟨t,HA,hn,hc,NA,nc,sl,k2,rfl,htr,hb⟩;have HTr0:=hiD htr;clear htr;have B_w:=hiD (below_on2 B_w.out hb);have B_w1:=hiD (below_on2 B_w1.out hb);clear hb;have HTr:Hid (TrAt (w.heap.size+1) w5 t HA hn NA nc sl):=hiD (HTr0.out.mono HL3.out)
   have zR:Row w5 w.heap.size 27 [.int .i64 0,.slice none 0 0,.slice none 0 0]:=(rowCells RZ.out B_w1.out)
   obtain ⟨z0,z1,z2,zl⟩:=zR.cells3;obtain ⟨zf0,zf1,zf2⟩:=zR.froz3;have HRF:Row (((w5.setCell ⟨w.heap.size,0,none⟩ (.int .i64 t.states)).setCell ⟨w.heap.size,1,none⟩ (.slice HA hn hc)).setCell ⟨w.heap.size,2,none⟩ (.slice NA t.nodes.length nc)) w.heap.size 27 [.int .i64 t.states,.slice HA hn hc,.slice NA t.nodes.length nc]:=((zR.set 0 _).set 1 _).set 2 _;obtain ⟨d0,d1,d2,dl⟩:=HRF.cells3;clear dl;have HBF:=hiD ((((B_w.out).setCell (p:=⟨w.heap.size,0,none⟩) (Nat.le_refl _) (.int .i64 t.states)).setCell (p:=⟨w.heap.size,1,none⟩) (Nat.le_refl _) (.slice HA hn hc)).setCell (p:=⟨w.heap.size,2,none⟩) (Nat.le_refl _) (.slice NA t.nodes.length nc));have HTF:=hiD (((HTr.out.set (p:=⟨w.heap.size,0,none⟩) (Nat.lt_succ_self _) (.int .i64 t.states)).set (p:=⟨w.heap.size,1,none⟩) (Nat.lt_succ_self _) (.slice HA hn hc)).set (p:=⟨w.heap.size,2,none⟩) (Nat.lt_succ_self _) (.slice NA t.nodes.length nc));clear zR HRF;go_wp2_with fail;refine bodyPost_ret (v:=.tuple #[.agg #[.int .i64 t.states,.slice HA hn hc,.slice NA t.nodes.length nc],.int .i64 k2]) (by simp [results,Tryz.results5,go_sem,d0,d1,d2]) rfl ?_;exact ⟨t,HA,hn,hc,NA,nc,sl,k2,rfl,HTF.out.mono (Nat.le_succ _),HBF.out⟩
  ·have e1:(k1 == 0)=false:=by simp [hk1]
   have e2:(k1 != 0)=true:=by simp [hk1]
   have zR:Row w3 w.heap.size 27 [.int .i64 0,.slice none 0 0,.slice none 0 0]:=(rowCells RZ.out B_w1.out)
   obtain ⟨z0,z1,z2,zl⟩:=zR.cells3;obtain ⟨zf0,zf1,zf2⟩:=zR.froz3;have HRF:Row (((w3.setCell ⟨w.heap.size,0,none⟩ (.int .i64 0)).setCell ⟨w.heap.size,1,none⟩ (.slice none 0 0)).setCell ⟨w.heap.size,2,none⟩ (.slice none 0 0)) w.heap.size 27 [.int .i64 0,.slice none 0 0,.slice none 0 0]:=((zR.set 0 _).set 1 _).set 2 _;obtain ⟨d0,d1,d2,dl⟩:=HRF.cells3;clear dl;have HBF:=hiD ((((B_w.out).setCell (p:=⟨w.heap.size,0,none⟩) (Nat.le_refl _) (.int .i64 0)).setCell (p:=⟨w.heap.size,1,none⟩) (Nat.le_refl _) (.slice none 0 0)).setCell (p:=⟨w.heap.size,2,none⟩) (Nat.le_refl _) (.slice none 0 0));clear zR HRF;go_wp2_with fail;refine bodyPost_ret (v:=.tuple #[.agg #[.int .i64 0,.slice none 0 0,.slice none 0 0],.int .i64 k1]) (by simp [results,Tryz.results5,go_sem,d0,d1,d2]) rfl ?_;exact trB_err k1 HBF.out
 ·skip
  go_wp2_with fail;refine (wParse_any s hs w2 (HG.out.up B_w.out)).mono ?_;rintro e w3 ⟨st,n,sm,k1,rfl,⟨hi1,hi2⟩,hb⟩;have B_w:=hiD (below_on2 B_w.out hb);have B_w1:=hiD (below_on2 B_w1.out hb);have B_w2:=hiD hb;clear hb;have HL3:Hid (w.heap.size+1≤w3.heap.size):=hiD (Nat.le_trans HL2.out B_w2.out.size);by_cases hk1:k1=0
  ·subst hk1;go_wp2_with fail;refine (sumsT_any st n w3 hi2 (tab_up HG.out.tab B_w.out B_w.out.size)).mono ?_;rintro e w5 ⟨t,HA,hn,hc,NA,nc,sl,k2,rfl,htr,hb⟩;have HTr0:=hiD htr;clear htr;have B_w:=hiD (below_on2 B_w.out hb);have B_w1:=hiD (below_on2 B_w1.out hb);clear hb;have HTr:Hid (TrAt (w.heap.size+1) w5 t HA hn NA nc sl):=hiD (HTr0.out.mono HL3.out)
   have zR:Row w5 w.heap.size 27 [.int .i64 0,.slice none 0 0,.slice none 0 0]:=(rowCells RZ.out B_w1.out)
   obtain ⟨z0,z1,z2,zl⟩:=zR.cells3;obtain ⟨zf0,zf1,zf2⟩:=zR.froz3;have HRF:Row (((w5.setCell ⟨w.heap.size,0,none⟩ (.int .i64 t.states)).setCell ⟨w.heap.size,1,none⟩ (.slice HA hn hc)).setCell ⟨w.heap.size,2,none⟩ (.slice NA t.nodes.length nc)) w.heap.size 27 [.int .i64 t.states,.slice HA hn hc,.slice NA t.nodes.length nc]:=((zR.set 0 _).set 1 _).set 2 _;obtain ⟨d0,d1,d2,dl⟩:=HRF.cells3;clear dl;have HBF:=hiD ((((B_w.out).setCell (p:=⟨w.heap.size,0,none⟩) (Nat.le_refl _) (.int .i64 t.states)).setCell (p:=⟨w.heap.size,1,none⟩) (Nat.le_refl _) (.slice HA hn hc)).setCell (p:=⟨w.heap.size,2,none⟩) (Nat.le_refl _) (.slice NA t.nodes.length nc));have HTF:=hiD (((HTr.out.set (p:=⟨w.heap.size,0,none⟩) (Nat.lt_succ_self _) (.int .i64 t.states)).set (p:=⟨w.heap.size,1,none⟩) (Nat.lt_succ_self _) (.slice HA hn hc)).set (p:=⟨w.heap.size,2,none⟩) (Nat.lt_succ_self _) (.slice NA t.nodes.length nc));clear zR HRF;go_wp2_with fail;refine bodyPost_ret (v:=.tuple #[.agg #[.int .i64 t.states,.slice HA hn hc,.slice NA t.nodes.length nc],.int .i64 k2]) (by simp [results,Tryz.results5,go_sem,d0,d1,d2]) rfl ?_;exact ⟨t,HA,hn,hc,NA,nc,sl,k2,rfl,HTF.out.mono (Nat.le_succ _),HBF.out⟩
  ·have e1:(k1 == 0)=false:=by simp [hk1]
   have e2:(k1 != 0)=true:=by simp [hk1]
   have zR:Row w3 w.heap.size 27 [.int .i64 0,.slice none 0 0,.slice none 0 0]:=(rowCells RZ.out B_w1.out)
   obtain ⟨z0,z1,z2,zl⟩:=zR.cells3;obtain ⟨zf0,zf1,zf2⟩:=zR.froz3;have HRF:Row (((w3.setCell ⟨w.heap.size,0,none⟩ (.int .i64 0)).setCell ⟨w.heap.size,1,none⟩ (.slice none 0 0)).setCell ⟨w.heap.size,2,none⟩ (.slice none 0 0)) w.heap.size 27 [.int .i64 0,.slice none 0 0,.slice none 0 0]:=((zR.set 0 _).set 1 _).set 2 _;obtain ⟨d0,d1,d2,dl⟩:=HRF.cells3;clear dl;have HBF:=hiD ((((B_w.out).setCell (p:=⟨w.heap.size,0,none⟩) (Nat.le_refl _) (.int .i64 0)).setCell (p:=⟨w.heap.size,1,none⟩) (Nat.le_refl _) (.slice none 0 0)).setCell (p:=⟨w.heap.size,2,none⟩) (Nat.le_refl _) (.slice none 0 0));clear zR HRF;go_wp2_with fail;refine bodyPost_ret (v:=.tuple #[.agg #[.int .i64 0,.slice none 0 0,.slice none 0 0],.int .i64 k1]) (by simp [results,Tryz.results5,go_sem,d0,d1,d2]) rfl ?_;exact trB_err k1 HBF.out
 ·skip
  go_wp2_with fail;refine (HRP.out w2 (HG.out.up B_w.out)).mono ?_;rintro e w3 ⟨tb,TPx,ln,k1,rfl,hat,⟨hfa,hfb⟩,hb⟩;have HT:=hiD hat;have HFA:=hiD hfa;have HFB:=hiD hfb;clear hat hfa hfb;have B_w:=hiD (below_on2 B_w.out hb);have B_w1:=hiD (below_on2 B_w1.out hb);have B_w2:=hiD hb;clear hb;have HL3:Hid (w.heap.size+1≤w3.heap.size):=hiD (Nat.le_trans HL2.out B_w2.out.size);obtain ⟨TA,tn,tc,VA,vn,vc,RA,rn,rc,vs,rs⟩:=TPx;dsimp only at HFA HFB;dsimp only;have HTC:=hiD (fun W h1 h2 h3=>tree_made tb ⟨TA,tn,tc,VA,vn,vc,RA,rn,rc,vs,rs⟩ W h1 h2 h3);dsimp only at HTC;go_upto_region 22 with fail;obtain ⟨w4,hW9,RT,hgr9⟩:=laid1 w3 [.int .i64 tb.states,.int .i64 tb.sym,.slice TA tn tc,.slice VA vn vc,.slice RA rn rc] 60;rewrite [hW9];clear hW9;have B_w:=hiD (below_on2 B_w.out hgr9);have B_w1:=hiD (below_on2 B_w1.out hgr9);have B_w2:=hiD (below_on2 B_w2.out hgr9);have B_w3:=hiD hgr9;clear hgr9;have HL4:Hid (w.heap.size+1≤w4.heap.size):=hiD (Nat.le_trans HL2.out B_w2.out.size);by_cases hk1:k1=0
  ·subst hk1;obtain ⟨q0,q1,q2,q3,q4,ql⟩:=RT.out.cells5;go_wp2_with fail;refine (HTC.out w4 (HT.out.up B_w3.out) (HG.out.up B_w.out).mat (tab_up HG.out.tab B_w.out B_w.out.size)).mono ?_;rintro e w5 ⟨HA,hn,hc,NA,nc,sl,rfl,hown,hb,hhd⟩;have HOW:=hiD hown;have HHD:=hiD hhd;clear hown hhd;have B_w:=hiD (below_on2 B_w.out hb);have B_w1:=hiD (below_on2 B_w1.out hb);have B_w3:=hiD (below_on2 B_w3.out hb);clear q0 q1 q2 q3 q4 ql;clear hb;have HT5:=hiD ((HT.out.up B_w3.out))
   obtain ⟨t,ht⟩:∃ t,treeK tb=t:=⟨_,rfl⟩
   rw [ht] at HOW HHD;rw [ht];clear ht;generalize treeErr tb=k2
   have HTr:Hid (TrAt (w.heap.size+1) w5 t HA hn NA nc sl):=hiD (by
    refine ⟨HOW.out.mono HL4.out,?_,?_,?_⟩
    all_goals rcases HHD.out with ⟨h1,h2,h4⟩ | ⟨h1,h2,h3⟩
    ·subst h2;rw [h1];exact Rd.empty _
    ·subst h2 h3;rw [h1];exact HT5.out.hood
    ·subst h4;exact nofun
    ·subst h2;exact fun b hb=>Nat.le_trans HL2.out (HFA.out b hb)
    ·omega
    ·subst h3;exact HFB.out)
   have zR:Row w5 w.heap.size 27 [.int .i64 0,.slice none 0 0,.slice none 0 0]:=(rowCells RZ.out B_w1.out)
   obtain ⟨z0,z1,z2,zl⟩:=zR.cells3;obtain ⟨zf0,zf1,zf2⟩:=zR.froz3;have HRF:Row (((w5.setCell ⟨w.heap.size,0,none⟩ (.int .i64 t.states)).setCell ⟨w.heap.size,1,none⟩ (.slice HA hn hc)).setCell ⟨w.heap.size,2,none⟩ (.slice NA t.nodes.length nc)) w.heap.size 27 [.int .i64 t.states,.slice HA hn hc,.slice NA t.nodes.length nc]:=((zR.set 0 _).set 1 _).set 2 _;obtain ⟨d0,d1,d2,dl⟩:=HRF.cells3;clear dl;have HBF:=hiD ((((B_w.out).setCell (p:=⟨w.heap.size,0,none⟩) (Nat.le_refl _) (.int .i64 t.states)).setCell (p:=⟨w.heap.size,1,none⟩) (Nat.le_refl _) (.slice HA hn hc)).setCell (p:=⟨w.heap.size,2,none⟩) (Nat.le_refl _) (.slice NA t.nodes.length nc));have HTF:=hiD (((HTr.out.set (p:=⟨w.heap.size,0,none⟩) (Nat.lt_succ_self _) (.int .i64 t.states)).set (p:=⟨w.heap.size,1,none⟩) (Nat.lt_succ_self _) (.slice HA hn hc)).set (p:=⟨w.heap.size,2,none⟩) (Nat.lt_succ_self _) (.slice NA t.nodes.length nc));clear zR HRF;go_wp2_with fail;refine bodyPost_ret (v:=.tuple #[.agg #[.int .i64 t.states,.slice HA hn hc,.slice NA t.nodes.length nc],.int .i64 k2]) (by simp [results,Tryz.results5,go_sem,d0,d1,d2]) rfl ?_;exact ⟨t,HA,hn,hc,NA,nc,sl,k2,rfl,HTF.out.mono (Nat.le_succ _),HBF.out⟩
  ·have e1:(k1 == 0)=false:=by simp [hk1]
   have e2:(k1 != 0)=true:=by simp [hk1]
   have zR:Row w4 w.heap.size 27 [.int .i64 0,.slice none 0 0,.slice none 0 0]:=(rowCells RZ.out B_w1.out)
   obtain ⟨z0,z1,z2,zl⟩:=zR.cells3;obtain ⟨zf0,zf1,zf2⟩:=zR.froz3;have HRF:Row (((w4.setCell ⟨w.heap.size,0,none⟩ (.int .i64 0)).setCell ⟨w.heap.size,1,none⟩ (.slice none 0 0)).setCell ⟨w.heap.size,2,none⟩ (.slice none 0 0)) w.heap.size 27 [.int .i64 0,.slice none 0 0,.slice none 0 0]:=((zR.set 0 _).set 1 _).set 2 _;obtain ⟨d0,d1,d2,dl⟩:=HRF.cells3;clear dl;have HBF:=hiD ((((B_w.out).setCell (p:=⟨w.heap.size,0,none⟩) (Nat.le_refl _) (.int .i64 0)).setCell (p:=⟨w.heap.size,1,none⟩) (Nat.le_refl _) (.slice none 0 0)).setCell (p:=⟨w.heap.size,2,none⟩) (Nat.le_refl _) (.slice none 0 0));clear zR HRF;go_wp2_with fail;refine bodyPost_ret (v:=.tuple #[.agg #[.int .i64 0,.slice none 0 0,.slice none 0 0],.int .i64 k1]) (by simp [results,Tryz.results5,go_sem,d0,d1,d2]) rfl ?_;exact trB_err k1 HBF.out
end Go.Proofs.YtbijfnbelkbofaaGreatDoor
namespace Go.Proofs.YtbijfnbelkbofaaGreatDoor
open Go.RowKit Go.Maps
theorem aw_tree:(evalV (elemT 110) [1,1,0]=1∧evalErr (elemT 110) [1,1,0]=0)∧evalV (elemT 110) [1,1,1]=0∧evalErr (elemT 110) [1,1,1]=0:=⟨⟨by kernel_rfl,by kernel_rfl⟩,by kernel_rfl,by kernel_rfl⟩
set_option maxRecDepth 100000 in
set_option maxHeartbeats 4000000 in
theorem awake_any (w : World) (htab : Lib.TabBelow Tryz.prog w.heap.size w "internal/strconv.uint64pow10" .u64 Lib.pow10Tab) :
 Calls Tryz.prog 4 #[] w fun e w'=>e=.returned (.bool true)∧Below w.heap.size w w':=by
 have HC:=hiD (elementary_any 110 w (by omega) htab);clear htab;go_enter Tryz.func4,Tryz.ntmps4;go_wp2_with fail;refine HC.out.mono ?_;rintro e w1 ⟨HA,NA,hn,hc,nn,nc,sl,rfl,hat,hb⟩;rw [show wolfErr 110=0 from rfl];have HAT:=hiD hat;clear hat HC;have B_w:=hiD hb;clear hb;go_upto_region 2 with fail;obtain ⟨w2,hW9,RT,hgr9⟩:=laid1 w1 [.int .i64 (elemT 110).states,.slice HA hn hc,.slice NA nn nc] 27;rewrite [hW9];clear hW9;have B_w:=hiD (below_on2 B_w.out hgr9);have B_w1:=hiD hgr9;clear hgr9;obtain ⟨k0,k1,k2,kl⟩:=RT.out.cells3;go_wp2_with fail;refine (tEval_any (elemT 110) HA NA (some ⟨w2.heap.size,0,none⟩) hn hc nn nc 3 3 sl [1,1,0] _ (HAT.out.up (by have:=B_w1.out;go_grown)) ((Row.new w2 3 [.int .i64 1,.int .i64 1,.int .i64 0]).rd rfl) (by unfold maxLen;omega)).mono ?_;rintro e w3 ⟨rfl,hb0⟩;rw [aw_tree.1.1,aw_tree.1.2];have hb:Below w2.heap.size w2 w3:=below_next hb0 (by go_grown);clear hb0;have B_w:=hiD (below_on2 B_w.out hb);have B_w1:=hiD (below_on2 B_w1.out hb);have B_w2:=hiD hb;clear k0 k1 k2 kl;clear hb;obtain ⟨k0,k1,k2,kl⟩:=(rowCells RT.out B_w2.out).cells3;go_wp2_with fail;refine (tEval_any (elemT 110) HA NA (some ⟨w3.heap.size,0,none⟩) hn hc nn nc 3 3 sl [1,1,1] _ (HAT.out.up (by have:=B_w1.out;go_grown)) ((Row.new w3 3 [.int .i64 1,.int .i64 1,.int .i64 1]).rd rfl) (by unfold maxLen;omega)).mono ?_;rintro e w4 ⟨rfl,hb0⟩;rw [aw_tree.2.1,aw_tree.2.2];have hb:Below w3.heap.size w3 w4:=below_next hb0 (by go_grown);clear hb0;have B_w:=hiD (below_on2 B_w.out hb);clear k0 k1 k2 kl;clear hb;go_wp2;go_ret;exact ⟨rfl,B_w.out⟩
end Go.Proofs.YtbijfnbelkbofaaGreatDoor
namespace Go.Proofs.YtbijfnbelkbofaaGreatDoor
open Go.RowKit
theorem u64_info:(Tryz.prog.info? 79).map (fun i=>(i.zero,i.size,i.bytes))=some (some (.int .u64 0),1,8):=by kernel_rfl
theorem w64s_at (vs:List (BitVec 64)) (r:List Value) (k:Nat) (h:k < vs.length):(w64s vs ++ r)[k]?=some (w64 (vs.getD k 0)):=by
 rw [List.getElem?_append_left (by simpa [w64s] using h)]
 simp [w64s,List.getElem?_map,List.getElem?_eq_getElem h,List.getD_eq_getElem?_getD]
theorem w64s_next (vs:List (BitVec 64)) (m k:Nat) (z:Value) (hl:vs.length=m) (hk:0 < k):(w64s vs ++ List.replicate k z)[m]?=some z:=by
 subst hl;rw [List.getElem?_append_right (by simp [w64s]),List.getElem?_replicate]
 simp [w64s,hk]
theorem w64s_set (vs:List (BitVec 64)) (x:BitVec 64) (m k:Nat) (z:Value) (hl:vs.length=m) (hk:0 < k):(w64s vs ++ List.replicate k z).set m (w64 x)=w64s (vs ++ [x]) ++ List.replicate (k - 1) z:=by
 subst hl
 obtain ⟨j,rfl⟩:∃ j,k=j+1:=⟨k - 1,by omega⟩
 rw [List.set_append_right _ _ (by simp [w64s])]
 simp [w64s,List.replicate_succ]
theorem w64_and (x y:BitVec 64):bits .and .u64 (x.toNat:Int) (y.toNat:Int)=((x &&& y).toNat:Int):=by
 rw [u64_and_nat _ _ x.isLt y.isLt,BitVec.toNat_and]
theorem w64_or (x y:BitVec 64):bits .or .u64 (x.toNat:Int) (y.toNat:Int)=((x ||| y).toNat:Int):=by
 rw [u64_or_nat _ _ x.isLt y.isLt,BitVec.toNat_or]
theorem w64_not (x:BitVec 64):bits .xor .u64 IntKind.u64.max (x.toNat:Int)=((~~~x).toNat:Int):=by
 have h:IntKind.u64.max=(((BitVec.allOnes 64).toNat:Nat):Int):=by decide
 rw [h,u64_xor_nat _ _ (BitVec.allOnes 64).isLt x.isLt,← BitVec.toNat_xor,BitVec.allOnes_xor]
theorem w64_xor (x y:BitVec 64):bits .xor .u64 (x.toNat:Int) (y.toNat:Int)=((x ^^^ y).toNat:Int):=by
 rw [u64_xor_nat _ _ x.isLt y.isLt,BitVec.toNat_xor]
set_option maxRecDepth 100000 in
set_option maxHeartbeats 1000000 in
theorem values_any (inn:Nat) (GA OA IA:Option Addr) (gn gc on oc ic:Nat) (gs:List Gt) (ins:List (BitVec 64)) (w:World)
 (hG:Rd w w.heap.size 3 GA gn (gatesCells gs)) (hI:Rd w w.heap.size 1 IA inn (w64s ins)) (h1:inn≤1000) (h2:gn≤20000)
 (hok:∀ k,k < gs.length→gateOk ((inn:Int)+k) (gs.getD k default)=true):
 Calls Tryz.prog 76 #[.agg #[.int .i64 inn,.slice GA gn gc,.slice OA on oc],.slice IA inn ic] w fun e w'=>
  ∃ g,e=.returned (.slice (some ⟨g,0,none⟩) (inn+gn) (inn+gn))∧Row w' g 79 (w64s (runG evalW 0 gs ins))∧w.heap.size≤g∧Below w.heap.size w w':=by
 have LN:Hid (gs.length=gn):=by have:=hG.1;rw [gatesCells_length] at this;show _=_;omega
 have LI:Hid (ins.length=inn):=by have:=hI.1;simp [w64s] at this;show _=_;omega
 have HG:=hiD hG;have HI:=hiD hI;have HOK:=hiD hok;clear hG hI hok;have hmk:=fun W=>make_like (P:=Tryz.prog) Tryz.underlying78 u64_info rfl (inn+gn) ((inn:Int)+(gn:Int)) (by omega) (by omega) (by omega) W
 go_enter Tryz.func76,Tryz.ntmps76
 go_wp2_with (with_reducible refine wpList_copy_splice rfl (.tmp 16) (.tmp 17) 78 78 rfl 79 Tryz.underlying78 (by kernel_rfl) (some ⟨w.heap.size+1,0,none⟩) IA (inn+gn) (inn+gn) inn ic rfl rfl (w.heap.size+1) 0 (List.replicate (inn+gn) (.int .u64 0)) 79 ?hg (w64s ins) ?hn ?hpos ?hfit ?h1 (w.heap.size+1) (w.alloc (.cells #[.int .i64 inn,.slice GA gn gc,.slice OA on oc] 36)) ?hb ?hBg ?_)
 case hg=>
  have:=Row.new (w.alloc (.cells #[.int .i64 inn,.slice GA gn gc,.slice OA on oc] 36)) 79 (List.replicate (inn+gn) (.int .u64 0));rw [World.size_alloc] at this;exact this
 case hn=>simp [w64s,LI.out]
 case hpos=>
  intro hp;obtain ⟨ad,e,hb,hc⟩:=HI.out.ex (by simp [w64s,LI.out] at hp;exact hp)
  exact ⟨ad,e,fun j v hv=>(by
   have:=((HI.out.up (show Below w.heap.size w ((w.alloc (.cells #[.int .i64 inn,.slice GA gn gc,.slice OA on oc] 36)).alloc (.cells (likeRow (.int .u64 0) (inn+gn)) 79)) by go_grown)).ex (by simp [w64s,LI.out] at hp;exact hp))
   obtain ⟨ad',e',_,hc'⟩:=this;rw [e] at e';injection e' with e';subst e'
   exact hc' j v hv)⟩
 case hfit=>simp [w64s,LI.out]
 case h1=>intro v hv;simp only [w64s,List.mem_map] at hv;obtain ⟨x,_,rfl⟩:=hv;rfl
 case hb=>go_grown
 case hBg=>omega
 intro w1 hrow hb1
 have R1:Hid (Row w1 (w.heap.size+1) 79 (w64s ins ++ List.replicate gn (.int .u64 0))):=by
  have:=hrow.out;simp only [splice,List.take_zero,List.nil_append,Nat.zero_add,List.drop_replicate,w64s,List.length_map,LI.out] at this;rw [show inn+gn - inn=gn from by omega] at this;exact this
 have c0:w1.cell? ⟨w.heap.size,0,none⟩=some (.int .i64 inn):=(hb1.cell (p:=⟨w.heap.size,0,none⟩) (by simp)).trans (by go_cell);have c1:w1.cell? ⟨w.heap.size,1,none⟩=some (.slice GA gn gc):=(hb1.cell (p:=⟨w.heap.size,1,none⟩) (by simp)).trans (by go_cell);clear hmk hrow;go_wp2;clear c0 c1
 go_loopg [22] gn (fun gg s22 wr=>∃ kk:Nat,kk≤gn∧gn - kk≤gg∧s22=.int .i64 kk∧Aside (Below (w.heap.size+1) (w.alloc (.cells #[.int .i64 inn,.slice GA gn gc,.slice OA on oc] 36)) wr)∧Aside (Row wr (w.heap.size+1) 79 (w64s (runG evalW 0 (gs.take kk) ins) ++ List.replicate (gn - kk) (.int .u64 0))))
 case atStart=>exact ⟨0,Nat.zero_le _,by omega,rfl,hb1,R1.out⟩
 case round=>
  clear hb1 R1;obtain ⟨kk,hkk,hg,rfl,BW,RW⟩:=hrel;have c0:wr.cell? ⟨w.heap.size,0,none⟩=some (.int .i64 inn):=(BW.out.cell (p:=⟨w.heap.size,0,none⟩) (by simp)).trans (by go_cell);have c1:wr.cell? ⟨w.heap.size,1,none⟩=some (.slice GA gn gc):=(BW.out.cell (p:=⟨w.heap.size,1,none⟩) (by simp)).trans (by go_cell);have hsz:w.heap.size+1 < wr.heap.size:=RW.out.lt;have hsz0:w.heap.size < wr.heap.size:=by omega
  have HB0:Aside (Below w.heap.size w wr):=below_box (k:=1) BW.out;by_cases hlt:kk < gn
  ·have hltz:(kk:Int) < (gn:Int):=by omega
   obtain ⟨ad,rfl,hb,g0,g1,g2⟩:=(HG.out.below HB0.out (Nat.le_refl _)).gate hlt;have HP:=gateOk_parts (HOK.out kk (by rw [LN.out];exact hlt));have HT:=runG_take evalW 0 gs ins kk (by rw [LN.out];exact hlt);generalize gs.getD kk default=gt at g0 g1 g2 HP HT;have hlen:(runG evalW 0 (gs.take kk) ins).length=inn+kk:=by rw [runG_length,List.length_take,LI.out,LN.out];omega
   generalize runG evalW 0 (gs.take kk) ins=vs at RW HT hlen;obtain ⟨op,ga,gb⟩:=gt;dsimp only at g0 g1 g2 HP HT;obtain ⟨hop,ha,hb',ha0,hb0⟩:=HP;have vc:wr.cell? ⟨w.heap.size+1,inn+kk,none⟩=some (.int .u64 0):=(RW.out.cell (inn+kk)).trans (by rw [List.getElem?_append_right (by simp [w64s];omega),List.getElem?_replicate];simp [w64s,hlen];omega);have vf:wr.frozen? ⟨w.heap.size+1,inn+kk,none⟩=false:=RW.out.frozen (inn+kk);have HL:Aside (vs.length=inn+kk):=hlen;have HS:Aside (∀ x:BitVec 64,(w64s vs ++ List.replicate (gn - kk) (Value.int .u64 0)).set (inn+kk) (w64 x)=w64s (vs ++ [x]) ++ List.replicate (gn - kk - 1) (Value.int .u64 0)):=fun x=>w64s_set vs x _ _ _ hlen (by omega)
   rcases hop with rfl | rfl | rfl | rfl | rfl | rfl
   ·clear ha hb' ha0 hb0 hlen;have HT':Aside _:=HT;clear HT;go_wp2;go_roundg (gn - (kk+1))
    case measure=>omega
    case rel=>
     have BB:=BW.out;have HT:=HT'.out;refine ⟨kk+1,by omega,by omega,by go_num,(show Below _ _ _ by go_grown),?_⟩;show Row _ _ _ _;rw [HT,show gn - (kk+1)=gn - kk - 1 from by omega];have h0:=HS.out 0
     have he:(w64s vs ++ List.replicate (gn - kk) (Value.int .u64 0)).set (inn+kk) (w64 0)=w64s vs ++ List.replicate (gn - kk) (Value.int .u64 0):=by
      apply List.ext_getElem?
      intro j;rw [List.getElem?_set];split
      ·rename_i hj;subst hj
       have:=(RW.out.cell (inn+kk)).symm.trans vc;rw [this,if_pos (List.getElem?_eq_some_iff.1 this).1];rfl
      ·rfl
     rw [show (evalW 0 _ _)=0 from rfl,← h0,he];exact (RW.out.alloc _)
   ·clear ha hb' ha0 hb0 hlen;have HT':Aside _:=HT;clear HT;go_wp2;go_roundg (gn - (kk+1))
    case measure=>omega
    case rel=>
     have BB:=BW.out;have HT:=HT'.out;refine ⟨kk+1,by omega,by omega,by go_num,(show Below _ _ _ by go_grown),?_⟩;show Row _ _ _ _;rw [HT,show gn - (kk+1)=gn - kk - 1 from by omega];rw [show evalW 1 _ _=BitVec.allOnes 64 from rfl,← HS.out];exact (RW.out.set _ _).alloc _
   ·obtain ⟨an,rfl⟩:∃ an:Nat,ga=(an:Int):=⟨ga.toNat,by omega⟩
    have ha':an < inn+kk:=by omega
    have va:wr.cell? ⟨w.heap.size+1,an,none⟩=some (w64 (vs.getD an 0)):=(RW.out.cell an).trans (w64s_at vs _ an (by omega));simp only [Int.toNat_natCast] at HT;generalize vs.getD an 0=x at va HT;unfold w64 at va;clear ha hb' ha0 hb0 hlen;have HT':Aside _:=HT;clear HT;go_wp2;go_roundg (gn - (kk+1))
    case measure=>omega
    case rel=>
     have BB:=BW.out;have HT:=HT'.out;refine ⟨kk+1,by omega,by omega,by go_num,(show Below _ _ _ by go_grown),?_⟩;show Row _ _ _ _;rw [HT,show gn - (kk+1)=gn - kk - 1 from by omega];rw [show evalW 2 x _ = ~~~x from rfl,← HS.out];have:=(RW.out.set (inn+kk) (w64 (~~~x))).alloc (.cells #[.int .i64 2,.int .i64 an,.int .i64 gb] 135);rw [w64_not];exact this
   ·obtain ⟨an,rfl⟩:∃ an:Nat,ga=(an:Int):=⟨ga.toNat,by omega⟩
    obtain ⟨bn,rfl⟩:∃ bn:Nat,gb=(bn:Int):=⟨gb.toNat,by omega⟩
    have ha':an < inn+kk:=by omega
    have hbn:bn < inn+kk:=by omega
    have va:wr.cell? ⟨w.heap.size+1,an,none⟩=some (w64 (vs.getD an 0)):=(RW.out.cell an).trans (w64s_at vs _ an (by omega));have vb:wr.cell? ⟨w.heap.size+1,bn,none⟩=some (w64 (vs.getD bn 0)):=(RW.out.cell bn).trans (w64s_at vs _ bn (by omega));simp only [Int.toNat_natCast] at HT;generalize vs.getD an 0=x at va HT;generalize vs.getD bn 0=y at vb HT;unfold w64 at va vb;clear ha hb' ha0 hb0 hlen;have HT':Aside _:=HT;clear HT;go_wp2
    go_region
    go_wp2;go_roundg (gn - (kk+1))
    case measure=>omega
    case rel=>
     have BB:=BW.out;have HT:=HT'.out;refine ⟨kk+1,by omega,by omega,by go_num,(show Below _ _ _ by go_grown),?_⟩;show Row _ _ _ _;rw [HT,show gn - (kk+1)=gn - kk - 1 from by omega];rw [show evalW 3 x y=x &&& y from rfl,← HS.out,w64_and];exact ((RW.out.set (inn+kk) (w64 (x &&& y))).alloc _).drew
   ·obtain ⟨an,rfl⟩:∃ an:Nat,ga=(an:Int):=⟨ga.toNat,by omega⟩
    obtain ⟨bn,rfl⟩:∃ bn:Nat,gb=(bn:Int):=⟨gb.toNat,by omega⟩
    have ha':an < inn+kk:=by omega
    have hbn:bn < inn+kk:=by omega
    have va:wr.cell? ⟨w.heap.size+1,an,none⟩=some (w64 (vs.getD an 0)):=(RW.out.cell an).trans (w64s_at vs _ an (by omega));have vb:wr.cell? ⟨w.heap.size+1,bn,none⟩=some (w64 (vs.getD bn 0)):=(RW.out.cell bn).trans (w64s_at vs _ bn (by omega));simp only [Int.toNat_natCast] at HT;generalize vs.getD an 0=x at va HT;generalize vs.getD bn 0=y at vb HT;unfold w64 at va vb;clear ha hb' ha0 hb0 hlen;have HT':Aside _:=HT;clear HT;go_wp2
    go_region
    go_wp2;go_roundg (gn - (kk+1))
    case measure=>omega
    case rel=>
     have BB:=BW.out;have HT:=HT'.out;refine ⟨kk+1,by omega,by omega,by go_num,(show Below _ _ _ by go_grown),?_⟩;show Row _ _ _ _;rw [HT,show gn - (kk+1)=gn - kk - 1 from by omega];rw [show evalW 4 x y=x ||| y from rfl,← HS.out,w64_or];exact ((RW.out.set (inn+kk) (w64 (x ||| y))).alloc _).drew
   ·obtain ⟨an,rfl⟩:∃ an:Nat,ga=(an:Int):=⟨ga.toNat,by omega⟩
    obtain ⟨bn,rfl⟩:∃ bn:Nat,gb=(bn:Int):=⟨gb.toNat,by omega⟩
    have ha':an < inn+kk:=by omega
    have hbn:bn < inn+kk:=by omega
    have va:wr.cell? ⟨w.heap.size+1,an,none⟩=some (w64 (vs.getD an 0)):=(RW.out.cell an).trans (w64s_at vs _ an (by omega));have vb:wr.cell? ⟨w.heap.size+1,bn,none⟩=some (w64 (vs.getD bn 0)):=(RW.out.cell bn).trans (w64s_at vs _ bn (by omega));simp only [Int.toNat_natCast] at HT;generalize vs.getD an 0=x at va HT;generalize vs.getD bn 0=y at vb HT;unfold w64 at va vb;clear ha hb' ha0 hb0 hlen;have HT':Aside _:=HT;clear HT;go_wp2
    go_region
    go_wp2;go_roundg (gn - (kk+1))
    case measure=>omega
    case rel=>
     have BB:=BW.out;have HT:=HT'.out;refine ⟨kk+1,by omega,by omega,by go_num,(show Below _ _ _ by go_grown),?_⟩;show Row _ _ _ _;rw [HT,show gn - (kk+1)=gn - kk - 1 from by omega];rw [show evalW 5 x y=x ^^^ y from rfl,← HS.out,w64_xor];exact ((RW.out.set (inn+kk) (w64 (x ^^^ y))).alloc _).drew
  ·have hltz:¬ (kk:Int) < (gn:Int):=by omega
   obtain rfl:kk=gn:=by omega
   go_wp2;go_ret;refine ⟨w.heap.size+1,rfl,?_,by omega,HB0.out⟩;have:=RW.out;rw [Nat.sub_self,List.replicate_zero,List.append_nil,← LN.out,List.take_length] at this;exact this
end Go.Proofs.YtbijfnbelkbofaaGreatDoor
