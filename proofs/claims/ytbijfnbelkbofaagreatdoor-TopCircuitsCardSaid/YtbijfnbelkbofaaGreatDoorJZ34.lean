/-
  Lemmas for the law TopCircuits.
-/
import Derived.Test.YtbijfnbelkbofaaGreatDoorJZ20
import Derived.Test.YtbijfnbelkbofaaGreatDoorJZ33
import Derived.Test.YtbijfnbelkbofaaGreatDoorJZ29
import Derived.Deep.RegionHeld3
set_option linter.unusedSimpArgs false
set_option linter.unusedVariables false
namespace Go.Proofs.YtbijfnbelkbofaaGreatDoor
open Go.RowKit Go.Maps
theorem sums1_any (s a j:Int) (w:World) (hs:-1000≤s∧s≤1000) (hj:-1000≤j∧j≤1000):Calls Tryz.prog 64 #[.int .i64 s,.int .i64 a,.int .i64 j] w fun e w'=>e=.returned (.int .i64 (s+j))∧Below w.heap.size w w':=by
 have hw:IntKind.i64.wrap (s+j)=s+j:=IntWalk.i64_in _ (by omega);go_enter Tryz.func64,Tryz.ntmps64;go_wp2;go_ret;exact ⟨rfl,Below.refl _ _⟩
theorem sums2_any (l:List Int) (A:Option Addr) (n c lb s:Nat) (hs:s < n) (hn:n≤1000) (w:World) (hr:Row w lb 22 [.slice A n c]) (hl:Rd w w.heap.size 1 A n (ints l)):Calls Tryz.prog 65 #[.int .i64 (s:Int),.pointer (some ⟨lb,0,none⟩)] w fun e w'=>e=.returned (.int .i64 (l.getD s 0))∧Below w.heap.size w w':=by
 have r0:=hr.cell 0;have rl:=hr.lt;simp only [List.getElem?_cons_zero] at r0;obtain ⟨ad,rfl,hlad,c0⟩:=hl.int hs;have hs1:(s:Int) < (n:Int):=by omega
 have hs0:(0:Int)≤(s:Int):=by omega
 revert c0;generalize l.getD s 0=z;intro c0;clear hr hl;go_enter Tryz.func65,Tryz.ntmps65;go_wp2;go_ret;exact ⟨rfl,Below.refl _ _⟩
def sumsK (S:Nat) (a:Nat) (s:Int):Prop:=0≤s∧((a=0∧s=0)∨(a=1∧s≤S - 1)∨(a=2∧s≤2 * S - 2)∨(a=3∧s≤3 * S - 3))
def sumsUs:List (Int × Int):=(List.range 3).flatMap (fun (a:Nat)=>(List.range 22).map (fun (s:Nat)=>((a:Int),(s:Int))))
theorem sums_hyp (S:Nat) (l:List Int) (h2:2≤S) (h8:S≤8) (hl:(l.length:Int)=3 * S - 2) (hd:∀ d ∈ l,0≤d∧d < (S:Int)):KU.UHyp S 3 66 sumsUs (fun s _ j=>s+j) (fun s=>l.getD s.toNat 0) (sumsK S) where
 step a s j ha hk hj:=by
  obtain ⟨h0,h1⟩:=hk;unfold sumsK;refine ⟨by omega,?_⟩;omega
 us a s ha hk:=by
  obtain ⟨h0,h1⟩:=hk;unfold sumsUs;rw [List.mem_flatMap];refine ⟨a,List.mem_range.2 ha,List.mem_map.2 ⟨s.toNat,List.mem_range.2 (by omega),?_⟩⟩;rw [Int.toNat_of_nonneg h0]
 fin s hk:=by
  obtain ⟨h0,h1⟩:=hk;have hlt:s.toNat < l.length:=by omega
  rw [List.getD_eq_getElem?_getD,List.getElem?_eq_getElem hlt];have:=hd _ (List.getElem_mem hlt);dsimp only [Option.getD_some];omega
 H25:=by omega
 UM:=by decide
 M30:=by omega
set_option maxRecDepth 100000 in
set_option maxHeartbeats 4000000 in
theorem sumsT_any (s n : Int) (w : World) (hn : -9223372036854775808 ≤ n ∧ n ≤ 9223372036854775807) (htab : Lib.TabBelow Tryz.prog w.heap.size w "internal/strconv.uint64pow10" .u64 Lib.pow10Tab) :
 Calls Tryz.prog 20 #[.int .i64 s,.int .i64 n] w (TrB w):=by
 have HT:=hiD htab;have HC:=hiD (fun W=>wDigits_any s n W hn);clear htab;go_enter Tryz.func20,Tryz.ntmps20;go_upto_region 1 with fail;obtain ⟨w1,hW9,RZ,hgr9⟩:=laid1 w [.int .i64 0,.slice none 0 0,.slice none 0 0] 27;rewrite [hW9];clear hW9;have B_w:=hiD hgr9;clear hgr9;have HL1:Hid (w.heap.size < w1.heap.size):=(show Row w1 w.heap.size _ _ from RZ.out).lt;go_wp2_with fail;refine (HC.out _).mono ?_;rintro e w2 ⟨l,A,c,k,rfl,hown,hb,hk⟩;have HO:=hiD hown;have HK:=hiD hk;clear hown hk HC;have B_w:=hiD (below_on2 B_w.out hb);have B_w1:=hiD hb;clear hb;go_upto_region 2 with fail;obtain ⟨w3,hW9,RL,hgr9⟩:=laid1 w2 [.slice A l.length c] 22;rewrite [hW9];clear hW9;have B_w:=hiD (below_on2 B_w.out hgr9);have B_w1:=hiD (below_on2 B_w1.out hgr9);have B_w2:=hiD hgr9;clear hgr9;have HL3:Hid (w.heap.size < w3.heap.size):=hiD (Nat.lt_of_lt_of_le HL1.out B_w1.out.size);by_cases hk:k=0
 ·subst hk;obtain ⟨f1,f2,f3,f4⟩:=HK.out rfl
  obtain ⟨S,rfl⟩:∃ S:Nat,s=(S:Int):=⟨s.toNat,by omega⟩
  have HY:=hiD (sums_hyp S l (by omega) (by omega) f3 f4);clear HK f4;go_wp2_with fail;refine (row_any w3).mono ?_;rintro e w4 ⟨rfl,hrow,hb⟩;have HRow:=hiD hrow;clear hrow;have B_w:=hiD (below_on2 B_w.out hb);have B_w1:=hiD (below_on2 B_w1.out hb);have B_w2:=hiD (below_on2 B_w2.out hb);have B_w3:=hiD hb;clear hb;have RL4:Hid (Row w4 w2.heap.size 22 [.slice A l.length c]):=hiD (rowCells RL.out B_w3.out);have HD4:Hid (Rd w4 w4.heap.size 1 A l.length (ints l)):=hiD ((Rd.of_own HO.out).up B_w2.out)
  have HV:VHyp w4 ⟨w4.heap.size,S,some ⟨w3.heap.size,0,none⟩,3,3,64,#[],65,#[.pointer (some ⟨w2.heap.size,0,none⟩)]⟩ (fun s _ j=>s+j) (fun s=>l.getD s.toNat 0) (sumsK S) 3 66 sumsUs:=
   {hyp:=HY.out
    ln:=rfl
    s8:=by show S≤8;omega
    ep:=enters Tryz.func64 (by kernel_rfl) rfl
    ee:=enters Tryz.func65 (by kernel_rfl) rfl
    cstep:=fun a s j W ha hk hj hb=>by
     obtain ⟨h0,h1⟩:=hk;dsimp only at hj;exact sums1_any s a j W (by omega) (by omega)
    cfin:=fun s W hk hb=>by
     obtain ⟨h0,h1⟩:=hk;have:=sums2_any l A l.length c w2.heap.size s.toNat (by omega) (by omega) W (rowCells RL4.out hb) (HD4.out.up hb);rw [Int.toNat_of_nonneg h0] at this;exact this
    sb:=fun a s ha hk=>by
     obtain ⟨h0,h1⟩:=hk;exact wf_small (by omega)
    tab:=tab_up HT.out B_w.out B_w.out.size }
  have HB:Hid (Calls Tryz.prog 38 #[.int .i64 (S:Int),.slice (some ⟨w3.heap.size,0,none⟩) 3 3,.int .i64 0,.func (.func 64) #[] #[],.func (.func 65) #[] #[.pointer (some ⟨w2.heap.size,0,none⟩)]] w4 (TrPost ⟨(S:Int),rowL,(KU.visitT S 3 (fun s _ j=>s+j) (fun s=>l.getD s.toNat 0) 3 0 ⟨[],[]⟩).2.ns⟩ (some ⟨w3.heap.size,0,none⟩) 3 3 w4)):=
   hiD (buildI_any w4 S (some ⟨w3.heap.size,0,none⟩) 3 3 0 _ _ _ _ rowL _ _ (sumsK S) 66 sumsUs HV ⟨by omega,.inl ⟨rfl,rfl⟩⟩)
  clear HV RL4 HY;revert HB;generalize (KU.visitT S 3 (fun s _ j=>s+j) (fun s=>l.getD s.toNat 0) 3 0 ⟨[],[]⟩).2.ns=ns;intro HB;go_wp2_with fail;refine HB.out.mono ?_;rintro e w5 ⟨NA,nc,sl,rfl,hat,hb⟩;have HAT:=hiD hat;dsimp only;clear hat HB;have B_w:=hiD (below_on2 B_w.out hb);have B_w1:=hiD (below_on2 B_w1.out hb);have B_w4:=hiD hb;clear hb;have HH5:Hid (Row w5 w3.heap.size 114 (hoodCells rowL)):=hiD (rowCells HRow.out B_w4.out);have HR5:=hiD (rowCells RZ.out B_w1.out);obtain ⟨z0,z1,z2,zl⟩:=HR5.out.cells3;obtain ⟨zf0,zf1,zf2⟩:=HR5.out.froz3;have hs3:=HL3.out;have hs4:w.heap.size < w4.heap.size:=by have:=HRow.out.lt;omega
  have HRF:Hid (Row (((w5.setCell ⟨w.heap.size,0,none⟩ (.int .i64 (S:Int))).setCell ⟨w.heap.size,1,none⟩ (.slice (some ⟨w3.heap.size,0,none⟩) 3 3)).setCell ⟨w.heap.size,2,none⟩ (.slice NA ns.length nc)) w.heap.size 27 [.int .i64 (S:Int),.slice (some ⟨w3.heap.size,0,none⟩) 3 3,.slice NA ns.length nc]):=hiD (((HR5.out.set 0 _).set 1 _).set 2 _);have HTF:Hid (TOwn w4.heap.size (((w5.setCell ⟨w.heap.size,0,none⟩ (.int .i64 (S:Int))).setCell ⟨w.heap.size,1,none⟩ (.slice (some ⟨w3.heap.size,0,none⟩) 3 3)).setCell ⟨w.heap.size,2,none⟩ (.slice NA ns.length nc)) ns NA nc sl):=hiD (((HAT.out.set (p:=⟨w.heap.size,0,none⟩) hs4 _).set (p:=⟨w.heap.size,1,none⟩) hs4 _).set (p:=⟨w.heap.size,2,none⟩) hs4 _);have HHF:Hid (Row (((w5.setCell ⟨w.heap.size,0,none⟩ (.int .i64 (S:Int))).setCell ⟨w.heap.size,1,none⟩ (.slice (some ⟨w3.heap.size,0,none⟩) 3 3)).setCell ⟨w.heap.size,2,none⟩ (.slice NA ns.length nc)) w3.heap.size 114 (hoodCells rowL)):=hiD (((HH5.out.far (p:=⟨w.heap.size,0,none⟩) (by show w3.heap.size≠w.heap.size;omega) _).far (p:=⟨w.heap.size,1,none⟩) (by show w3.heap.size≠w.heap.size;omega) _).far (p:=⟨w.heap.size,2,none⟩) (by show w3.heap.size≠w.heap.size;omega) _);have HBF:Hid (Below w.heap.size w (((w5.setCell ⟨w.heap.size,0,none⟩ (.int .i64 (S:Int))).setCell ⟨w.heap.size,1,none⟩ (.slice (some ⟨w3.heap.size,0,none⟩) 3 3)).setCell ⟨w.heap.size,2,none⟩ (.slice NA ns.length nc))):=hiD (((B_w.out.setCell (p:=⟨w.heap.size,0,none⟩) (Nat.le_refl _) _).setCell (p:=⟨w.heap.size,1,none⟩) (Nat.le_refl _) _).setCell (p:=⟨w.heap.size,2,none⟩) (Nat.le_refl _) _);obtain ⟨d0,d1,d2,dl⟩:=HRF.out.cells3;go_wp2;refine bodyPost_ret (v:=.tuple #[.agg #[.int .i64 (S:Int),.slice (some ⟨w3.heap.size,0,none⟩) 3 3,.slice NA ns.length nc],.int .i64 0]) (by simp [results,Tryz.results20,go_sem,d0,d1,d2]) rfl ?_;exact ⟨⟨(S:Int),rowL,ns⟩,some ⟨w3.heap.size,0,none⟩,3,3,NA,nc,sl,0,rfl,⟨HTF.out.mono (by omega),HHF.out.rd rfl,fun k hk=>by (injection hk with hk;subst hk;exact Nat.le_of_lt hs3),by omega⟩,HBF.out⟩
 ·have k1:(k == 0)=false:=by simp [hk]
  have k2:(k != 0)=true:=by simp [hk]
  clear hk HK;have HR5:=hiD (rowCells RZ.out B_w1.out);obtain ⟨z0,z1,z2,zl⟩:=HR5.out.cells3;obtain ⟨zf0,zf1,zf2⟩:=HR5.out.froz3;have HRF:Hid (Row (((w3.setCell ⟨w.heap.size,0,none⟩ (.int .i64 0)).setCell ⟨w.heap.size,1,none⟩ (.slice none 0 0)).setCell ⟨w.heap.size,2,none⟩ (.slice none 0 0)) w.heap.size 27 [.int .i64 0,.slice none 0 0,.slice none 0 0]):=hiD (((HR5.out.set 0 _).set 1 _).set 2 _);have HBF:Hid (Below w.heap.size w (((w3.setCell ⟨w.heap.size,0,none⟩ (.int .i64 0)).setCell ⟨w.heap.size,1,none⟩ (.slice none 0 0)).setCell ⟨w.heap.size,2,none⟩ (.slice none 0 0))):=hiD (((B_w.out.setCell (p:=⟨w.heap.size,0,none⟩) (Nat.le_refl _) _).setCell (p:=⟨w.heap.size,1,none⟩) (Nat.le_refl _) _).setCell (p:=⟨w.heap.size,2,none⟩) (Nat.le_refl _) _);obtain ⟨d0,d1,d2,dl⟩:=HRF.out.cells3;go_wp2;refine bodyPost_ret (v:=.tuple #[.agg #[.int .i64 0,.slice none 0 0,.slice none 0 0],.int .i64 k]) (by simp [results,Tryz.results20,go_sem,d0,d1,d2]) rfl ?_;exact trB_err k HBF.out
end Go.Proofs.YtbijfnbelkbofaaGreatDoor
namespace Go.Proofs.YtbijfnbelkbofaaGreatDoor
open Go.RowKit
structure PHyp (w0:World) (X:PCtx) (E:PEnv):Prop where
 ok:E.Ok w0.heap.size
 tab:TabAt w0 X.t X.P
 rq:Rd w0 w0.heap.size 1 X.qa X.n (ints X.r.ins)
 ri:Rd w0 w0.heap.size 1 X.IA X.n (ints X.ins)
 n25:X.n≤25
 v40:X.t.vars.length≤40
 el:∀ e ∈ X.r.ins,KT.elemOk X.t e=true
 out:KT.elemOk X.t X.r.out=true
 st:∀ i,0≤X.ins.getD i 0∧X.ins.getD i 0 < X.t.states
 s8:X.t.states≤8
set_option maxRecDepth 100000 in
set_option maxHeartbeats 4000000 in
theorem place_succ (w0:World) (X:PCtx) (E:PEnv) (hx:PHyp w0 X E) (f:Nat) (hih:∀ (i:Nat) (b:List Int) (used:List Bool) (acc:Option Int) (w:World),X.n < i+f→i≤X.n→KT.BOk X.t b→used.length=X.n→PSt w0 X E b used acc w →
 Calls Tryz.prog 179 #[.int .i64 (i:Int),.pointer (some ⟨E.ti,0,none⟩),.pointer (some ⟨E.tb,0,none⟩),.pointer (some ⟨E.tr,0,none⟩),.pointer (some ⟨E.tf,0,none⟩),.pointer (some ⟨E.te,0,none⟩),.pointer (some ⟨E.tc,0,none⟩),.pointer (some ⟨E.tp,0,none⟩),.pointer (some ⟨E.tu,0,none⟩),.pointer (some ⟨E.tt,0,none⟩)] w fun e w'=>e=.returned (.tuple #[])∧PSt w0 X E b used (KT.placeK X.t X.r X.ins X.c f i b used acc) w') (i:Nat) (b:List Int) (used:List Bool) (acc:Option Int) (w:World) (h1:X.n < i+(f+1)) (h2:i≤X.n) (hb:KT.BOk X.t b) (hul:used.length=X.n) (hp:PSt w0 X E b used acc w):
 Calls Tryz.prog 179 #[.int .i64 (i:Int),.pointer (some ⟨E.ti,0,none⟩),.pointer (some ⟨E.tb,0,none⟩),.pointer (some ⟨E.tr,0,none⟩),.pointer (some ⟨E.tf,0,none⟩),.pointer (some ⟨E.te,0,none⟩),.pointer (some ⟨E.tc,0,none⟩),.pointer (some ⟨E.tp,0,none⟩),.pointer (some ⟨E.tu,0,none⟩),.pointer (some ⟨E.tt,0,none⟩)] w fun e w'=>e=.returned (.tuple #[])∧PSt w0 X E b used (KT.placeK X.t X.r X.ins X.c (f+1) i b used acc) w':=by
 have IH:=hiD hih;clear hih;have HX:=hiD hx;have HB:=hiD hb;have HP:=hiD hp;have HOK:=hiD hx.ok;have HLI:Hid (X.ins.length=X.n):=by have:=hx.ri.1;show _=_;simpa using this
 have HLQ:Hid (X.r.ins.length=X.n):=by have:=hx.rq.1;show _=_;simpa using this
 have hn25:=hx.n25;clear hx hb hp;obtain ⟨tt,tr,ti,te,tf,tc,g,tb,u,tu,tp⟩:=E;obtain ⟨t,⟨HA,hn,hc,VA,vn,vc,RA,rn,rc,vs,rs⟩,r,qa,qc,ins,n,IA,ic,c⟩:=X;dsimp only at h1 h2 hn25 hul;dsimp only;go_enter Tryz.func179,Tryz.ntmps179;have c_rr0:=HP.out.rr.cell 0;have c_rr1:=HP.out.rr.cell 1;have c_rrl:=HP.out.rr.lt;simp only [TP.cellsK,List.getElem?_cons_zero,List.getElem?_cons_succ] at c_rr0 c_rr1;dsimp only at c_rr0 c_rr1 c_rrl;have c_ri0:=HP.out.ri.cell 0;have c_ril:=HP.out.ri.lt;simp only [TP.cellsK,List.getElem?_cons_zero,List.getElem?_cons_succ] at c_ri0;dsimp only at c_ri0 c_ril;have c_rc0:=HP.out.rc.cell 0;have c_rcl:=HP.out.rc.lt;simp only [TP.cellsK,List.getElem?_cons_zero,List.getElem?_cons_succ] at c_rc0;dsimp only at c_rc0 c_rcl;have c_rb0:=HP.out.rb.cell 0;have c_rbl:=HP.out.rb.lt;simp only [TP.cellsK,List.getElem?_cons_zero,List.getElem?_cons_succ] at c_rb0;dsimp only at c_rb0 c_rbl;have c_rp0:=HP.out.rp.cell 0;have c_rpl:=HP.out.rp.lt;simp only [TP.cellsK,List.getElem?_cons_zero,List.getElem?_cons_succ] at c_rp0;dsimp only at c_rp0 c_rpl;by_cases hin:i=n
 ·subst hin;have hv:=elem_vix HX.out.v40 HX.out.out;have HC:=hiD (out_any r g b qa i qc w HP.out.bat HB.out.len hv.2.1 hv.2.2);have HE:Hid (∀ _:Unit,KT.placeK t r ins c (f+1) i b used acc=KT.least acc (KT.outK b r)):=fun _=>placeK_end HLI.out.symm
  clear hv;revert HC HE;generalize KT.outK b r=s;intro HC HE;go_wp2_with fail;refine HC.out.mono ?_;rintro e w2 ⟨rfl,hb2⟩;have HP2:=hiD (HP.out.below HOK.out hb2);clear hb2 HC;clear c_rr0 c_rr1 c_rrl c_ri0 c_ril c_rc0 c_rcl c_rb0 c_rbl c_rp0 c_rpl;have hne1:¬ tf=te:=by have:=HOK.out.h4;dsimp only at this;omega
  have hne2:¬ te=tf:=by omega
  cases acc with
  | none=>
   have c_re0:=HP2.out.re.cell 0;have c_rel:=HP2.out.re.lt;simp only [TP.cellsK,List.getElem?_cons_zero,List.getElem?_cons_succ] at c_re0;dsimp only at c_re0 c_rel;have c_rf0:=HP2.out.rf.cell 0;have c_rfl:=HP2.out.rf.lt;simp only [TP.cellsK,List.getElem?_cons_zero,List.getElem?_cons_succ] at c_rf0;dsimp only at c_rf0 c_rfl;have z_re:=HP2.out.re.frozen 0;dsimp only at z_re;have z_rf:=HP2.out.rf.frozen 0;dsimp only at z_rf;simp only [Option.getD_none,Option.isSome_none] at c_re0 c_rf0;go_wp2;refine bodyPost_ret (v:=.tuple #[]) (results_none rfl _ _ _) rfl ⟨rfl,?_⟩;rw [HE.out ()];exact HP2.out.best HOK.out s
  | some m=>
   have c_re0:=HP2.out.re.cell 0;have c_rel:=HP2.out.re.lt;simp only [TP.cellsK,List.getElem?_cons_zero,List.getElem?_cons_succ] at c_re0;dsimp only at c_re0 c_rel;have c_rf0:=HP2.out.rf.cell 0;have c_rfl:=HP2.out.rf.lt;simp only [TP.cellsK,List.getElem?_cons_zero,List.getElem?_cons_succ] at c_rf0;dsimp only at c_rf0 c_rfl;have z_re:=HP2.out.re.frozen 0;dsimp only at z_re;have z_rf:=HP2.out.rf.frozen 0;dsimp only at z_rf;simp only [Option.getD_some,Option.isSome_some] at c_re0 c_rf0;by_cases hsm:s < m
   ·have hd:decide (s < m)=true:=decide_eq_true hsm;have HL:Hid (KT.least (some m) s=some s):=by show _=_;unfold KT.least;dsimp only;rw [if_pos hsm]
    go_wp2;refine bodyPost_ret (v:=.tuple #[]) (results_none rfl _ _ _) rfl ⟨rfl,?_⟩;rw [HE.out (),HL.out];exact HP2.out.best HOK.out s
   ·have hd:decide (s < m)=false:=decide_eq_false hsm;have HL:Hid (KT.least (some m) s=some m):=by show _=_;unfold KT.least;dsimp only;rw [if_neg hsm]
    go_wp2;refine bodyPost_ret (v:=.tuple #[]) (results_none rfl _ _ _) rfl ⟨rfl,?_⟩;rw [HE.out (),HL.out];exact HP2.out
 have hinz:((i:Int) == (n:Int))=false:=by simp;omega
 by_cases hic:(i:Int)=c
 ·have hicz:((i:Int) == c)=true:=by simpa using hic
  have HE:Hid (∀ _:Unit,KT.placeK t r ins c (f+1) i b used acc=KT.placeK t r ins c f (i+1) b used acc):=fun _=>placeK_skip (by rw [HLI.out];exact hin) hic
  have HC:=hiD (IH.out (i+1) b used acc w (show n < i+1+f by omega) (show i+1≤n by omega) HB.out hul HP.out);have hw:IntKind.i64.wrap ((i:Int)+1)=(i:Int)+1:=IntWalk.i64_in _ (by omega);have HIC:=hiD hic;clear hic;go_wp2_with fail;refine HC.out.mono ?_;rintro e w2 ⟨rfl,hp2⟩;have HP2:=hiD hp2;clear hp2 HC;clear c_rr0 c_rr1 c_rrl c_ri0 c_ril c_rc0 c_rcl c_rb0 c_rbl c_rp0 c_rpl;go_wp2;refine bodyPost_ret (v:=.tuple #[]) (results_none rfl _ _ _) rfl ⟨rfl,?_⟩;rw [HE.out ()];exact HP2.out
 have hicz:((i:Int) == c)=false:=by simpa using hic
 have HE:Hid (∀ _:Unit,KT.placeK t r ins c (f+1) i b used acc=(placeQ t r ins c f i b used acc ins.length).2):=fun _=>placeK_loop (by rw [HLI.out];exact hin) hic
 go_wp2;clear c_rr0 c_rr1 c_rrl c_ri0 c_ril c_rc0 c_rcl c_rb0 c_rbl c_rp0 c_rpl;clear hinz hicz
 go_loopg [12,13,14,15,16,41] n (fun gg s12 _ _ _ _ s41 wr=>∃ k mn:Nat,k≤n∧n - k≤gg∧s41=.int .i64 (k:Int)∧s12=.int .i64 (mn:Int)∧mn < 256∧Aside (PSt w0 ⟨t,⟨HA,hn,hc,VA,vn,vc,RA,rn,rc,vs,rs⟩,r,qa,qc,ins,n,IA,ic,c⟩ ⟨tt,tr,ti,te,tf,tc,g,tb,u,tu,tp⟩ b used (placeQ t r ins c f i b used acc k).2 wr∧(placeQ t r ins c f i b used acc k).1=(mn:Int)))
 case atStart=>exact ⟨0,0,by omega,by omega,rfl,rfl,by omega,HP.out,rfl⟩
 case round=>
  obtain ⟨k,mn,hk,hgg,rfl,rfl,hmn,hv⟩:=hrel;have HP2:=hiD hv.out.1;have HQ1:=hiD hv.out.2;clear hv HP;by_cases hlt:k < n
  ·have hltz:(k:Int) < (n:Int):=by omega
   have HQS:Hid (placeQ t r ins c f i b used acc (k+1)=placeStep t r ins c f i b used (placeQ t r ins c f i b used acc k) k):=placeQ_succ _ _ _ _ _ _ _ _ _ _;revert HP2 HQ1 HQS;generalize placeQ t r ins c f i b used acc k=Q;obtain ⟨Q1,Q2⟩:=Q;intro HP2 HQ1 HQS;obtain rfl:Q1=(mn:Int):=HQ1.out;clear HQ1;dsimp only at HP2;obtain ⟨adi,hia,hbi,hy0⟩:=HX.out.ri.int (k:=k) hlt;dsimp only at hia hy0;subst hia;have hy:wr.cell? (adi.add k)=some (.int .i64 (ins.getD k 0)):=(HP2.out.bel.cell (p:=adi.add k) (by rw [add_block];exact hbi)).trans hy0;clear hy0;have hs:=HX.out.st k;have hs8:=HX.out.s8;dsimp only at hs hs8;unfold placeStep at HQS;dsimp only at HQS
   have c_us:wr.cell? ⟨u,k,none⟩=some (.bool (used.getD k false)):=by
    have:=HP2.out.us.cell k;rw [bools_get used k (by omega)] at this;exact this
   have z_us:wr.frozen? ⟨u,k,none⟩=false:=HP2.out.us.frozen k;have l_us:u < wr.heap.size:=HP2.out.us.lt;revert hy HQS hs;generalize ins.getD k 0=y;intro HQS hy hs
   obtain ⟨sn,rfl⟩:∃ sn:Nat,y=(sn:Int):=⟨y.toNat,by omega⟩
   have hsn8:sn < 8:=by omega
   clear hs8;have c_rc0:=HP2.out.rc.cell 0;have c_rcl:=HP2.out.rc.lt;simp only [TP.cellsK,List.getElem?_cons_zero,List.getElem?_cons_succ] at c_rc0;dsimp only at c_rc0 c_rcl;have c_ru0:=HP2.out.ru.cell 0;have c_rul:=HP2.out.ru.lt;simp only [TP.cellsK,List.getElem?_cons_zero,List.getElem?_cons_succ] at c_ru0;dsimp only at c_ru0 c_rul;have hkn:(0:Int)≤(k:Int):=by omega
   by_cases hkc:(k:Int)=c
   ·have hd:((k:Int) == c)=true:=by simpa using hkc
    have HQN:Hid (placeQ t r ins c f i b used acc (k+1)=((mn:Int),Q2)):=by show _=_;rw [HQS.out,if_pos (.inl hkc)]
    have HKC:=hiD hkc;clear hkc;go_wp2;go_roundg (n - (k+1))
    case measure=>omega
    case rel=>exact ⟨k+1,mn,by omega,by omega,by go_num,rfl,hmn,(by rw [HQN.out];exact HP2.out),(by rw [HQN.out])⟩
   have hd:((k:Int) == c)=false:=by simpa using hkc
   cases hu:used.getD k false with
   | true=>
    rw [hu] at c_us;have HQN:Hid (placeQ t r ins c f i b used acc (k+1)=((mn:Int),Q2)):=by show _=_;rw [HQS.out,if_pos (.inr (.inl hu))]
    clear hu;go_wp2;go_roundg (n - (k+1))
    case measure=>omega
    case rel=>exact ⟨k+1,mn,by omega,by omega,by go_num,rfl,hmn,(by rw [HQN.out];exact HP2.out),(by rw [HQN.out])⟩
   | false=>
   rw [hu] at c_us;have HU:=hiD hu;clear hu;have hmin:min sn 64=sn:=by omega
   by_cases hbit:(mn:Int) / 2 ^ sn % 2=1
   ·have hbz:(bits BinOp.and IntKind.i64 ((mn:Int) / 2 ^ sn) 1 == 1)=true:=by rw [i64_and1,hbit];rfl
    have HQN:Hid (placeQ t r ins c f i b used acc (k+1)=((mn:Int),Q2)):=by show _=_;rw [HQS.out,if_pos (.inr (.inr (by unfold KT.hasBit;rw [Int.toNat_natCast];exact decide_eq_true hbit)))]
    go_wp2;go_roundg (n - (k+1))
    case measure=>omega
    case rel=>exact ⟨k+1,mn,by omega,by omega,by go_num,rfl,hmn,(by rw [HQN.out];exact HP2.out),(by rw [HQN.out])⟩
   obtain ⟨m',hm',hor,hput⟩:=mask_put hmn hsn8 hbit;have hbz:(bits BinOp.and IntKind.i64 ((mn:Int) / 2 ^ sn) 1 == 1)=false:=by rw [i64_and1];simpa using hbit
   have HQ2:Hid (placeQ t r ins c f i b used acc (k+1)=((m':Int),if (KT.acceptK t b (r.ins.getD i 0) sn).2.1=true then KT.placeK t r ins c f (i+1) (KT.acceptK t b (r.ins.getD i 0) sn).1 (used.set k true) Q2 else Q2)):=by
    show _=_
    rw [HQS.out,if_neg (by
     rintro (e | e | e)
     ·exact hkc e
     ·rw [HU.out] at e;cases e
     ·unfold KT.hasBit at e;rw [Int.toNat_natCast] at e;exact hbit (of_decide_eq_true e)),hput]
   have HEL0:=HX.out.el (r.ins.getD i 0) (by
    rw [List.getD_eq_getElem?_getD,List.getElem?_eq_getElem (show i < r.ins.length by rw [HLQ.out];omega)];exact List.getElem_mem _)
   have HEI:=hiD (elem_vix HX.out.v40 HEL0);have HAO:=hiD (KT.accept_out HB.out HEL0 HX.out.v40 hs);have HLA:=accept_len t b (r.ins.getD i 0) (sn:Int);have HC:=accept_any t ⟨HA,hn,hc,VA,vn,vc,RA,rn,rc,vs,rs⟩ g b (r.ins.getD i 0) (sn:Int);obtain ⟨adq,hqa,hbq,hz0⟩:=HX.out.rq.int (k:=i) (show i < n by omega);dsimp only at hqa hz0;subst hqa;have hz:wr.cell? (adq.add i)=some (.int .i64 (r.ins.getD i 0)):=(HP2.out.bel.cell (p:=adq.add i) (by rw [add_block];exact hbq)).trans hz0;have HZ0:=hiD hz0;clear hz0 HQS hkc hbit HEL0 hput hmn;revert hz HC HAO HEI HQ2 HLA HZ0;generalize r.ins.getD i 0=z;intro HQ2 HAO HLA HC HEI hz HZ0;dsimp only at HC HEI;have HC:=hiD HC;revert HQ2 HAO HLA HC;generalize KT.acceptK t b z (sn:Int)=q;obtain ⟨b',ok,fr⟩:=q;intro HQ2 HAO HLA HC;dsimp only at HQ2 HAO HLA HC;have HLA:=hiD HLA;go_upto_region 12 with fail;obtain ⟨o0,o1,o2,o3,o4,o5,o6,o7,o8,o9,o10⟩:=HOK.out;dsimp only at o0 o1 o2 o3 o4 o5 o6 o7 o8 o9 o10
   have HS:∀ w',Kept (·=g) wr w'→w'.cell? ⟨tb,0,none⟩=some (.pointer (some ⟨g,0,none⟩))∧w'.cell? ⟨tt,0,none⟩=some (.int .i64 t.states)∧w'.cell? ⟨tt,1,none⟩=some (.int .i64 t.sym)∧w'.cell? ⟨tt,2,none⟩=some (.slice HA hn hc)∧w'.cell? ⟨tt,3,none⟩=some (.slice VA vn vc)∧w'.cell? ⟨tt,4,none⟩=some (.slice RA rn rc)∧w'.cell? ⟨tr,0,none⟩=some (.slice (some adq) n qc)∧w'.cell? (adq.add i)=some (.int .i64 z):=fun w' hk=>
    ⟨(hk.row HP2.out.rb (show ¬ tb=g by omega)).cell 0,(hk.row HP2.out.rt (show ¬ tt=g by omega)).cell 0,(hk.row HP2.out.rt (show ¬ tt=g by omega)).cell 1,(hk.row HP2.out.rt (show ¬ tt=g by omega)).cell 2,(hk.row HP2.out.rt (show ¬ tt=g by omega)).cell 3,(hk.row HP2.out.rt (show ¬ tt=g by omega)).cell 4,(hk.row HP2.out.rr (show ¬ tr=g by omega)).cell 0,
     (hk.cell (p:=adq.add i) (by rw [add_block];have:=HP2.out.bel.size;omega) (by rw [add_block];show ¬ adq.block=g;omega)).trans hz⟩
   clear c_rc0 c_rcl c_ru0 c_rul;clear hz c_us z_us l_us hbz hor hd;have hi0:(0:Int)≤(i:Int):=by omega
   have hin2:(i:Int) < (n:Int):=by omega
   go_region_held3 (fun w'=>w'.cell? ⟨tb,0,none⟩=some (.pointer (some ⟨g,0,none⟩))∧w'.cell? ⟨tt,0,none⟩=some (.int .i64 t.states)∧w'.cell? ⟨tt,1,none⟩=some (.int .i64 t.sym)∧w'.cell? ⟨tt,2,none⟩=some (.slice HA hn hc)∧w'.cell? ⟨tt,3,none⟩=some (.slice VA vn vc)∧w'.cell? ⟨tt,4,none⟩=some (.slice RA rn rc)∧w'.cell? ⟨tr,0,none⟩=some (.slice (some adq) n qc)∧w'.cell? (adq.add i)=some (.int .i64 z)) (exact HS _ (by first | exact HKP.out | exact Kept.ofBelow (by go_grown))) ((
    go_at_call 178
    refine (HC.out _ (by exact HX.out.tab.up HP2.out.bel.drew) (by exact HP2.out.bat) HB.out.len HX.out.v40 HEI.out.1 HEI.out.2.2).mono ?_;rintro e w7 ⟨rfl,hbat,hkp⟩
    have HKP:=(show Hid (Kept (·=g) wr w7) from Kept.trans (Kept.ofBelow (by go_grown)) hkp (fun _ _ h=>h))
    have HP7:=(show Hid (PSt w0 ⟨t,⟨HA,hn,hc,VA,vn,vc,RA,rn,rc,vs,rs⟩,r,some adq,qc,ins,n,some adi,ic,c⟩ ⟨tt,tr,ti,te,tf,tc,g,tb,u,tu,tp⟩ b' used Q2 w7) from hiD (HP2.out.taken HOK.out HKP.out hbat))
    clear hbat hkp))
   clear HKP HS HC
   cases ok with
   | false=>
    have hfr:fr=false:=by
     cases fr with
     | false=>rfl
     | true=>have:=(HAO.out.fresh rfl).1;cases this
    subst hfr;obtain rfl:b'=b:=HAO.out.same rfl;have HQN:Hid (placeQ t r ins c f i b' used acc (k+1)=((m':Int),Q2)):=by show _=_;rw [HQ2.out];rfl
    go_wp2;go_roundg (n - (k+1))
    case measure=>omega
    case rel=>exact ⟨k+1,m',by omega,by omega,by go_num,rfl,hm',(by rw [HQN.out];exact HP7.out),(by rw [HQN.out])⟩
   | true=>
   have HUB:=hiD (used_back HU.out (by rw [hul];exact hlt));have HP8:=hiD (HP7.out.uset HOK.out k true);have HC:=hiD (IH.out (i+1) b' (used.set k true) Q2 (w7.setCell ⟨u,k,none⟩ (.bool true)) (show n < i+1+f by omega) (show i+1≤n by omega) HAO.out.ok (by rw [List.length_set];exact hul) HP8.out);have c_ru0:=HP7.out.ru.cell 0;have c_rul:=HP7.out.ru.lt;simp only [TP.cellsK,List.getElem?_cons_zero,List.getElem?_cons_succ] at c_ru0;dsimp only at c_ru0 c_rul
   have c_us:w7.cell? ⟨u,k,none⟩=some (.bool (used.getD k false)):=by
    have:=HP7.out.us.cell k;rw [bools_get used k (by omega)] at this;exact this
   have z_us:w7.frozen? ⟨u,k,none⟩=false:=HP7.out.us.frozen k;have l_us:u < w7.heap.size:=HP7.out.us.lt;go_upto_region 15 with fail;clear c_ru0 c_rul;clear c_us z_us l_us
   try dsimp only at HP8
   revert HP8 HC;generalize w7.setCell ⟨u,k,none⟩ (.bool true)=w8;intro HP8 HC;have c_rp0:=HP8.out.rp.cell 0;have c_rpl:=HP8.out.rp.lt;simp only [TP.cellsK,List.getElem?_cons_zero,List.getElem?_cons_succ] at c_rp0;dsimp only at c_rp0 c_rpl;have hw:IntKind.i64.wrap ((i:Int)+1)=(i:Int)+1:=IntWalk.i64_in _ (by omega);go_wp2_with fail;refine HC.out.mono ?_;rintro e w9 ⟨rfl,hp9⟩;have HP9:=hiD hp9;clear hp9 HC HP7 HP8;clear c_rp0 c_rpl;have c_ru0:=HP9.out.ru.cell 0;have c_rul:=HP9.out.ru.lt;simp only [TP.cellsK,List.getElem?_cons_zero,List.getElem?_cons_succ] at c_ru0;dsimp only at c_ru0 c_rul
   have c_us:w9.cell? ⟨u,k,none⟩=some (.bool ((used.set k true).getD k false)):=by
    have:=HP9.out.us.cell k;rw [bools_get _ k (by rw [List.length_set];omega)] at this;exact this
   have z_us:w9.frozen? ⟨u,k,none⟩=false:=HP9.out.us.frozen k;have l_us:u < w9.heap.size:=HP9.out.us.lt;have hp10:=HP9.out.uset HOK.out k false;rw [HUB.out] at hp10;have HP10:=hiD hp10;have HQN:Hid (placeQ t r ins c f i b used acc (k+1)=((m':Int),KT.placeK t r ins c f (i+1) b' (used.set k true) Q2)):=by show _=_;rw [HQ2.out];rfl
   clear hp10
   cases fr with
   | false=>
    obtain rfl:b'=b:=HAO.out.same rfl;go_wp2;go_roundg (n - (k+1))
    case measure=>omega
    case rel=>exact ⟨k+1,m',by omega,by omega,by go_num,rfl,hm',(by rw [HQN.out];exact HP10.out),(by rw [HQN.out])⟩
   | true=>
   obtain ⟨_,hz0,hbv,hbb,_⟩:=HAO.out.fresh rfl;dsimp only at hbb;have hv40:=HEI.out.2.1 hz0;have hwz:IntKind.i64.wrap (-1 - z)=(KT.vix z:Int):=by rw [IntWalk.i64_in _ (by have:=HEI.out.2.2;omega)];unfold KT.vix;omega
   have HBB:Hid (b'.set (KT.vix z) (-1)=b):=by show _=_;rw [hbb];exact bind_back hbv (by rw [HB.out.len];exact hv40)
   clear hbv hbb;go_upto_region 18 with fail;clear c_ru0 c_rul;clear c_us z_us l_us
   try dsimp only at HP10
   revert HP10;generalize w9.setCell ⟨u,k,none⟩ (.bool false)=w10;intro HP10;have c_g:=HP10.out.bat.cell (i:=KT.vix z) (by rw [HLA.out,HB.out.len];exact hv40);have z_g:w10.frozen? ⟨g,KT.vix z,none⟩=false:=HP10.out.bat.frozen _;have l_g:g < w10.heap.size:=HP10.out.bat.lt
   try dsimp only at c_g
   revert hv40 hwz HBB c_g z_g;generalize KT.vix z=v;intro hv40 hwz HBB c_g z_g;have hv0:(0:Int)≤(v:Int):=by omega
   have hv4:(v:Int) < 40:=by omega
   have HS:∀ w',Kept (·=g) w10 w'→w'.cell? ⟨tb,0,none⟩=some (.pointer (some ⟨g,0,none⟩))∧w'.cell? ⟨tr,0,none⟩=some (.slice (some adq) n qc)∧w'.cell? (adq.add i)=some (.int .i64 z):=fun w' hk=>
    ⟨(hk.row HP10.out.rb (show ¬ tb=g by omega)).cell 0,(hk.row HP10.out.rr (show ¬ tr=g by omega)).cell 0,
     (hk.cell (p:=adq.add i) (by rw [add_block];have:=HP10.out.bel.size;omega) (by rw [add_block];show ¬ adq.block=g;omega)).trans ((HP10.out.bel.cell (p:=adq.add i) (by rw [add_block];exact hbq)).trans HZ0.out)⟩
   have HK0:Hid (Kept (·=g) w10 w10.drew):=Kept.ofBelow ((Below.refl w10.heap.size w10).drew)
   go_region_held3 (fun w'=>w'.cell? ⟨tb,0,none⟩=some (.pointer (some ⟨g,0,none⟩))∧w'.cell? ⟨tr,0,none⟩=some (.slice (some adq) n qc)∧w'.cell? (adq.add i)=some (.int .i64 z)) (first | exact HS _ HK0.out | exact HS _ (Kept.set (S:=(·=g)) (p:=⟨g,v,none⟩) HK0.out (.inl rfl) _)) (fail)
   clear HK0;have hp11:=(HP10.out.below HOK.out ((Below.refl w10.heap.size w10).drew)).bset HOK.out v (-1);rw [HBB.out] at hp11;have HP11:=hiD hp11;clear hp11 HP10 c_g z_g l_g HS;go_wp2;go_roundg (n - (k+1))
   case measure=>omega
   case rel=>exact ⟨k+1,m',by omega,by omega,by go_num,rfl,hm',(by rw [HQN.out];exact HP11.out),(by rw [HQN.out])⟩
  ·have hltz:¬ (k:Int) < (n:Int):=by omega
   have HKN:Hid (k=ins.length):=by show _=_;rw [HLI.out];omega
   rw [HKN.out] at HP2;go_wp2;refine bodyPost_end (results_none rfl _ _ _) rfl ⟨rfl,?_⟩;rw [HE.out ()];exact HP2.out
theorem place_any (w0:World) (X:PCtx) (E:PEnv) (hx:PHyp w0 X E):∀ (f i:Nat) (b:List Int) (used:List Bool) (acc:Option Int) (w:World),X.n < i+f→i≤X.n→KT.BOk X.t b→used.length=X.n→PSt w0 X E b used acc w →
 Calls Tryz.prog 179 #[.int .i64 (i:Int),.pointer (some ⟨E.ti,0,none⟩),.pointer (some ⟨E.tb,0,none⟩),.pointer (some ⟨E.tr,0,none⟩),.pointer (some ⟨E.tf,0,none⟩),.pointer (some ⟨E.te,0,none⟩),.pointer (some ⟨E.tc,0,none⟩),.pointer (some ⟨E.tp,0,none⟩),.pointer (some ⟨E.tu,0,none⟩),.pointer (some ⟨E.tt,0,none⟩)] w fun e w'=>e=.returned (.tuple #[])∧PSt w0 X E b used (KT.placeK X.t X.r X.ins X.c f i b used acc) w'
 | 0,i,b,used,acc,w,h1,h2,_,_,_=>absurd h1 (by omega)
 | f+1,i,b,used,acc,w,h1,h2,hb,hul,hp=>place_succ w0 X E hx f (place_any w0 X E hx f) i b used acc w h1 h2 hb hul hp
end Go.Proofs.YtbijfnbelkbofaaGreatDoor
