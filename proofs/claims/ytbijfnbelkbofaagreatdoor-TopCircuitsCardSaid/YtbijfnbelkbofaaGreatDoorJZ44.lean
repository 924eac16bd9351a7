/-
  Lemmas for the law TopCircuits.
-/
import Derived.Test.YtbijfnbelkbofaaGreatDoorJZ43
import Derived.Test.YtbijfnbelkbofaaGreatDoorJZ24
import Derived.Test.YtbijfnbelkbofaaGreatDoorJZ22
import Derived.Test.YtbijfnbelkbofaaGreatDoorJZ20
set_option linter.unusedSimpArgs false
set_option linter.unusedVariables false
namespace Go.Proofs.YtbijfnbelkbofaaGreatDoor
open Go.RowKit
theorem TF.birth2 {w0 w:World} {rb tb:Nat} {x:Tot} {HA BA SA A:Option Addr} {hn hc bn bc sn sc n c:Nat} {l:List Int} (h:TF w0 rb tb x HA BA SA hn hc bn bc sn sc w) (ho:w.ownsRow (tb+1) 3 1 (.slice A n c) n (ints l)) (hm:n≤1000000):
 TF w0 rb tb { x with birth:=l } HA A SA hn hc n c sn sc (w.setCell ⟨tb,2,none⟩ (.slice A n c)):=by
 have h2:=h.set 2 (.slice A n c)
 have hf:∀ k,blk A=some k→rb < k∧k≠tb:=fun k hk=>by
  have:=(ho.lt k (by rw [own_blk];exact hk)).1;have:=h.rt;omega
 exact ⟨h2.1,h.b0,h.rt,h2.2.1,h2.2.2.1,⟨h2.2.2.2.h,(Rd.of_own ho).set_far (p:=⟨tb,2,none⟩) (fun k hk=>(hf k hk).2) _,h2.2.2.2.s,h.tot.hm,hm,h.tot.sm⟩,h.fh,hf,h.fs⟩
theorem TF.surv2 {w0 w:World} {rb tb:Nat} {x:Tot} {HA BA SA A:Option Addr} {hn hc bn bc sn sc n c:Nat} {l:List Int} (h:TF w0 rb tb x HA BA SA hn hc bn bc sn sc w) (ho:w.ownsRow (tb+1) 3 1 (.slice A n c) n (ints l)) (hm:n≤1000000):
 TF w0 rb tb { x with survive:=l } HA BA A hn hc bn bc n c (w.setCell ⟨tb,3,none⟩ (.slice A n c)):=by
 have h2:=h.set 3 (.slice A n c)
 have hf:∀ k,blk A=some k→rb < k∧k≠tb:=fun k hk=>by
  have:=(ho.lt k (by rw [own_blk];exact hk)).1;have:=h.rt;omega
 exact ⟨h2.1,h.b0,h.rt,h2.2.1,h2.2.2.1,⟨h2.2.2.2.h,h2.2.2.2.b,(Rd.of_own ho).set_far (p:=⟨tb,3,none⟩) (fun k hk=>(hf k hk).2) _,h.tot.hm,h.tot.bm,hm⟩,h.fh,h.fb,hf⟩
set_option maxRecDepth 100000 in
set_option maxHeartbeats 4000000 in
theorem gParse_any (s:ByteArray) (hs:s.size≤100000) (w:World) (G:GEnv w):Calls Tryz.prog 17 #[.string s] w (TotB w):=by
 have HG:=hiD G;clear G;go_enter Tryz.func17,Tryz.ntmps17;go_upto_region 1 with fail;obtain ⟨w1,hW9,HR,hgr9⟩:=laid1 w [.slice none 0 0,.int .i64 0,.slice none 0 0,.slice none 0 0] 51;rewrite [hW9];clear hW9;have B_w:=hiD hgr9;clear hgr9;have hmo:=moore_len;have hne0:=neum_len;have hhe:=hex_len;go_wp2_with fail;refine (moore_any w1).mono ?_;rintro e w5 ⟨A5,c5,rfl,ho,hb⟩;have HF:=hiD (TF.make B_w.out (Nat.le_refl _) HR.out hb ho (by omega) 0);clear ho hb;go_upto_region 2 with fail;revert HF;generalize (World.alloc w5 _)=w50;generalize w5.heap.size=tb;intro HF
 go_upto_if 30 with (go_at_call 47;refine (cutSuffix_any s _ (by omega) _).mono ?_;rintro e w4 ⟨t4,b4,rfl,ht4,rfl⟩)
 go_cut [0,7,8] from 31 (fun s0 _ _ wx=>∃ (t:ByteArray) (l:List Pt) (A:Option Addr) (n c:Nat),s0=.string t∧t.size≤s.size∧n≤9∧Aside (TF w w.heap.size tb ⟨l,0,[],[]⟩ A none none n c 0 0 0 0 wx))
 case first=>
  cases b4 with
  | true=>
   go_wp2_with fail;refine (neum_any w50).mono ?_;rintro e w6 ⟨A6,c6,rfl,ho,hb⟩;have HF6:=hiD (TF.hood HF.out hb ho (by omega));have HFa:=hiD (HF.out.below hb);clear ho hb;have hne:=HFa.out.rt;obtain ⟨y0,y1,y2,y3,yl⟩:=HFa.out.rr.cells4;obtain ⟨yf0,yf1,yf2,yf3⟩:=HFa.out.rr.froz4;obtain ⟨x0,x1,x2,x3,xl⟩:=HFa.out.rx.cells4;obtain ⟨xf0,xf1,xf2,xf3⟩:=HFa.out.rx.froz4;clear HF HFa;have HF:=HF6;clear HF6;go_wp2_with fail;clear y0 yf0 y1 yf1 y2 yf2 y3 yf3 x0 xf0 x1 xf1 x2 xf2 x3 xf3 yl xl;clear hne;revert HF;generalize w6.setCell ⟨tb,0,none⟩ (.slice A6 neumL.length c6)=w60;intro HF;go_meet;exact ⟨t4,neumL,A6,neumL.length,c6,rfl,ht4,hne0,HF.out⟩
  | false=>
   go_wp2_with fail;refine (cutSuffix_any s _ (by omega) _).mono ?_;rintro e w4 ⟨t5,b5,rfl,ht5,rfl⟩
   cases b5 with
   | true=>
    go_wp2_with fail;refine (hex_any w50).mono ?_;rintro e w6 ⟨A6,c6,rfl,ho,hb⟩;have HF6:=hiD (TF.hood HF.out hb ho (by omega));have HFa:=hiD (HF.out.below hb);clear ho hb;have hne:=HFa.out.rt;obtain ⟨y0,y1,y2,y3,yl⟩:=HFa.out.rr.cells4;obtain ⟨yf0,yf1,yf2,yf3⟩:=HFa.out.rr.froz4;obtain ⟨x0,x1,x2,x3,xl⟩:=HFa.out.rx.cells4;obtain ⟨xf0,xf1,xf2,xf3⟩:=HFa.out.rx.froz4;clear HF HFa;have HF:=HF6;clear HF6;go_wp2_with fail;clear y0 yf0 y1 yf1 y2 yf2 y3 yf3 x0 xf0 x1 xf1 x2 xf2 x3 xf3 yl xl;clear hne;revert HF;generalize w6.setCell ⟨tb,0,none⟩ (.slice A6 hexL.length c6)=w60;intro HF;go_meet;exact ⟨t5,hexL,A6,hexL.length,c6,rfl,ht5,hhe,HF.out⟩
   | false=>
    go_wp2_with fail;go_meet;exact ⟨s,mooreL,A5,mooreL.length,c5,rfl,Nat.le_refl _,hmo,HF.out⟩
 case rest=>
  obtain ⟨t,l,A,n,c,rfl,ht,hn9,hv⟩:=hcut;clear HF HR;have HF:=hiD hv.out;clear hv ht4;go_wp2_with fail;refine (split_any 47 t (by omega) wc (HG.out.up HF.out.bel)).mono ?_;rintro e w6 ⟨ps,hpl,hps,rfl,hrow,hb⟩;have HPL:=hiD hpl;have HPS:=hiD hps;have HRW:=hiD hrow;have HF6:=hiD (HF.out.below hb);clear HF hpl hps hrow hb;have HF:=HF6;clear HF6;by_cases h3:ps.length=3
  ·obtain ⟨p0,p1,p2,rfl⟩:∃ p0 p1 p2,ps=[p0,p1,p2]:=by
    match ps,h3 with
    | [a,b,c],_=>exact ⟨a,b,c,rfl⟩
   have HSL:Hid (slashes t=2):=hiD (by have h:=HPL.out;rw [show [p0,p1,p2].length=3 from rfl] at h;show List.count 47 t.data.toList=2;omega);have hp0:=HPS.out p0 (by simp);have hp1:=HPS.out p1 (by simp);have hp2:=HPS.out p2 (by simp);have c0:=HRW.out.cell 0;have c1:=HRW.out.cell 1;have c2:=HRW.out.cell 2;have cl:=HRW.out.lt;simp only [List.map_cons,List.map_nil,List.getElem?_cons_zero,List.getElem?_cons_succ] at c0 c1 c2;clear h3 HPL HPS HRW;go_upto_region 11 with fail;go_quiet (fail);have HF7:=hiD (HF.out.below (below_drewJ w6 nq));clear HF c0 c1 c2 cl;have HF:=HF7;clear HF7;revert HF;generalize w6.drewN nq=w7;intro HF
   go_upto_if 63 with (go_at_call 44;refine (cutB_any t _).mono ?_;rintro e w8 ⟨tr,bb,rfl,htr,hsl,rfl⟩)
   go_cut [9,10,11,12,15,16,17,18] from 64 (fun _ s10 s11 s12 _ _ _ _ wx=>∃ (x0 x1 x2:ByteArray),s10=.string x0∧s11=.string x1∧s12=.string x2∧x0.size≤100000∧x1.size≤100000∧x2.size≤100000∧Aside (TF w w.heap.size tb ⟨l,0,[],[]⟩ A none none n c 0 0 0 0 wx))
   case first=>
    cases bb with
    | false=>
     go_wp2_with fail;go_meet;exact ⟨_,_,_,rfl,rfl,rfl,by omega,by omega,by omega,HF.out⟩
    | true=>
     go_wp2_with fail;refine (split_any 47 tr (by omega) w7 (HG.out.up HF.out.bel)).mono ?_;rintro e w9 ⟨qs,hql,hqs,rfl,hrow,hb⟩
     have hq3:qs.length=3:=by
      have h1:slashes tr=2:=by rw [hsl];exact HSL.out
      have h2:qs.length=slashes tr+1:=hql;omega
     obtain ⟨q0,q1,q2,rfl⟩:∃ q0 q1 q2,qs=[q0,q1,q2]:=by
      match qs,hq3 with
      | [a,b,c],_=>exact ⟨a,b,c,rfl⟩
     have hq0:=hqs q0 (by simp);have hq1:=hqs q1 (by simp);have hq2:=hqs q2 (by simp);have HRW:=hiD hrow;have HF9:=hiD (HF.out.below hb);clear HF hql hqs hrow hb hq3;have HF:=HF9;clear HF9;have c0:=HRW.out.cell 0;have c1:=HRW.out.cell 1;have c2:=HRW.out.cell 2;have cl:=HRW.out.lt;simp only [List.map_cons,List.map_nil,List.getElem?_cons_zero,List.getElem?_cons_succ] at c0 c1 c2;have hne:=HF.out.rt;obtain ⟨y0,y1,y2,y3,yl⟩:=HF.out.rr.cells4;obtain ⟨yf0,yf1,yf2,yf3⟩:=HF.out.rr.froz4;obtain ⟨h1,hr⟩:=TF.bad HF.out.bel (Nat.le_refl _) HF.out.rr 15;obtain ⟨d0,d1,d2,d3,dl⟩:=hr.cells4;have H1:=hiD h1;clear h1 hr dl
     go_wp2_with (go_at_call 44;refine (cutPrefix_any _ _ _).mono ?_;rintro e w10 ⟨z,bz,rfl,hz,rfl⟩)
     all_goals first
      | (refine bodyPost_ret (v:=.tuple #[.agg #[.slice none 0 0,.int .i64 0,.slice none 0 0,.slice none 0 0],.int .i64 15]) (by simp [results,Tryz.results17,go_sem,d0,d1,d2,d3]) rfl ?_;exact H1.out)
      | (go_meet
         exact ⟨_,_,_,rfl,rfl,rfl,by omega,by omega,by omega,HF.out⟩)
   case rest=>
    obtain ⟨x0,x1,x2,rfl,rfl,rfl,hx0,hx1,hx2,hv⟩:=hcut;clear HF;have HF:=hiD hv.out;clear hv;go_wp2_with fail;refine (gDigits_any _ (by omega) _).mono ?_;rintro e w9 ⟨l7,A7,c7,b7,rfl,ho,hb,hl7⟩;have HO7:=hiD (own_base ho HF.out.rx.lt);have HFn:=hiD (HF.out.below hb);clear HF ho hb;have HF:=HFn;clear HFn;go_wp2_with fail;refine (gDigits_any _ (by omega) w9).mono ?_;rintro e w10 ⟨l8,A8,c8,b8,rfl,ho,hb,hl8⟩;have HO8:=hiD (own_base ho HF.out.rx.lt);have HO7n:=hiD (own_below HO7.out hb (Nat.le_refl _));have HFn:=hiD (HF.out.below hb);clear HF HO7 ho hb;have HF:=HFn;have HO7:=HO7n;clear HFn HO7n
    cases b7 with
    | false=>
     have hne:=HF.out.rt;obtain ⟨y0,y1,y2,y3,yl⟩:=HF.out.rr.cells4;obtain ⟨yf0,yf1,yf2,yf3⟩:=HF.out.rr.froz4;obtain ⟨h1,hr⟩:=TF.bad HF.out.bel (Nat.le_refl _) HF.out.rr 15;obtain ⟨d0,d1,d2,d3,dl⟩:=hr.cells4;have H1:=hiD h1;clear h1 hr dl;go_wp2_with fail;refine bodyPost_ret (v:=.tuple #[.agg #[.slice none 0 0,.int .i64 0,.slice none 0 0,.slice none 0 0],.int .i64 15]) (by simp [results,Tryz.results17,go_sem,d0,d1,d2,d3]) rfl ?_;exact H1.out
    | true=>
    cases b8 with
    | false=>
     have hne:=HF.out.rt;obtain ⟨y0,y1,y2,y3,yl⟩:=HF.out.rr.cells4;obtain ⟨yf0,yf1,yf2,yf3⟩:=HF.out.rr.froz4;obtain ⟨h1,hr⟩:=TF.bad HF.out.bel (Nat.le_refl _) HF.out.rr 15;obtain ⟨d0,d1,d2,d3,dl⟩:=hr.cells4;have H1:=hiD h1;clear h1 hr dl;go_wp2_with fail;refine bodyPost_ret (v:=.tuple #[.agg #[.slice none 0 0,.int .i64 0,.slice none 0 0,.slice none 0 0],.int .i64 15]) (by simp [results,Tryz.results17,go_sem,d0,d1,d2,d3]) rfl ?_;exact H1.out
    | true=>
    go_wp2_with fail;refine (gNumber_any _ (by omega) w10).mono ?_;rintro e w11 ⟨nb,rfl,hb⟩;have HO8n:=hiD (own_below HO8.out hb (Nat.le_refl _));have HO7n:=hiD (own_below HO7.out hb (Nat.le_refl _));have HFn:=hiD (HF.out.below hb);clear HF HO7 HO8 hb;have HF:=HFn;have HO7:=HO7n;have HO8:=HO8n;clear HFn HO7n HO8n
    cases nb with
    | false=>
     have hne:=HF.out.rt;obtain ⟨y0,y1,y2,y3,yl⟩:=HF.out.rr.cells4;obtain ⟨yf0,yf1,yf2,yf3⟩:=HF.out.rr.froz4;obtain ⟨h1,hr⟩:=TF.bad HF.out.bel (Nat.le_refl _) HF.out.rr 15;obtain ⟨d0,d1,d2,d3,dl⟩:=hr.cells4;have H1:=hiD h1;clear h1 hr dl;go_wp2_with fail;refine bodyPost_ret (v:=.tuple #[.agg #[.slice none 0 0,.int .i64 0,.slice none 0 0,.slice none 0 0],.int .i64 15]) (by simp [results,Tryz.results17,go_sem,d0,d1,d2,d3]) rfl ?_;exact H1.out
    | true=>
    go_wp2_with fail;refine (atoi_any _ (by omega) w11 (HG.out.up HF.out.bel)).mono ?_;rintro e w12 ⟨v,E,rfl,hE,hv,hb⟩;have HO8n:=hiD (own_below HO8.out hb (Nat.le_refl _));have HO7n:=hiD (own_below HO7.out hb (Nat.le_refl _));have HFn:=hiD (HF.out.below hb);clear HF HO7 HO8 hb hE;have HO7:=hiD (own_set (p:=⟨tb,1,none⟩) HO7n.out HFn.out.rx (by decide) (.int .i64 v));have HO8:=hiD (own_set (p:=⟨tb,1,none⟩) HO8n.out HFn.out.rx (by decide) (.int .i64 v));have HF:=hiD (HFn.out.stat (v:=v));have hne:=HFn.out.rt;obtain ⟨y0,y1,y2,y3,yl⟩:=HFn.out.rr.cells4;obtain ⟨yf0,yf1,yf2,yf3⟩:=HFn.out.rr.froz4;obtain ⟨x0,x1,x2,x3,xl⟩:=HFn.out.rx.cells4;obtain ⟨xf0,xf1,xf2,xf3⟩:=HFn.out.rx.froz4;clear HFn HO7n HO8n;go_upto_region 25 with fail;clear y0 yf0 y1 yf1 y2 yf2 y3 yf3 x0 xf0 x1 xf1 x2 xf2 x3 xf3 yl xl;clear hne;revert HO7 HO8 HF;generalize w12.setCell ⟨tb,1,none⟩ (.int .i64 v)=w13;intro HO7 HO8 HF;have hne:=HF.out.rt;obtain ⟨y0,y1,y2,y3,yl⟩:=HF.out.rr.cells4;obtain ⟨yf0,yf1,yf2,yf3⟩:=HF.out.rr.froz4;obtain ⟨x0,x1,x2,x3,xl⟩:=HF.out.rx.cells4;obtain ⟨xf0,xf1,xf2,xf3⟩:=HF.out.rx.froz4;have hfb:=TF.birth2 HF.out HO7.out (by omega);have HF2:=hiD (TF.surv2 hfb (own_set (p:=⟨tb,2,none⟩) HO8.out HF.out.rx (by decide) (.slice A7 l7.length c7)) (by omega));clear hfb HF HO7 HO8;go_upto_region 26 with fail;clear y0 yf0 y1 yf1 y2 yf2 y3 yf3 x0 xf0 x1 xf1 x2 xf2 x3 xf3 yl xl;clear hne;have HF:=HF2;clear HF2;revert HF;generalize ((w13.setCell ⟨tb,2,none⟩ (.slice A7 l7.length c7)).setCell ⟨tb,3,none⟩ (.slice A8 l8.length c8))=w14;intro HF;by_cases h3:v < 3
    ·have d3:decide (v < 3)=true:=decide_eq_true h3;obtain ⟨x0,x1,x2,x3,xl⟩:=HF.out.rx.cells4;obtain ⟨xf0,xf1,xf2,xf3⟩:=HF.out.rx.froz4;have hne:=HF.out.rt;obtain ⟨y0,y1,y2,y3,yl⟩:=HF.out.rr.cells4;obtain ⟨yf0,yf1,yf2,yf3⟩:=HF.out.rr.froz4;obtain ⟨h1,hr⟩:=TF.bad HF.out.bel (Nat.le_refl _) HF.out.rr 5;obtain ⟨d0,d1,d2,d3,dl⟩:=hr.cells4;have H1:=hiD h1;clear h1 hr dl;go_wp2_with fail;refine bodyPost_ret (v:=.tuple #[.agg #[.slice none 0 0,.int .i64 0,.slice none 0 0,.slice none 0 0],.int .i64 5]) (by simp [results,Tryz.results17,go_sem,d0,d1,d2,d3]) rfl ?_;exact H1.out
    have d3:decide (v < 3)=false:=decide_eq_false h3;by_cases h8:8 < v
    ·have d8:decide (8 < v)=true:=decide_eq_true h8;obtain ⟨x0,x1,x2,x3,xl⟩:=HF.out.rx.cells4;obtain ⟨xf0,xf1,xf2,xf3⟩:=HF.out.rx.froz4;have hne:=HF.out.rt;obtain ⟨y0,y1,y2,y3,yl⟩:=HF.out.rr.cells4;obtain ⟨yf0,yf1,yf2,yf3⟩:=HF.out.rr.froz4;obtain ⟨h1,hr⟩:=TF.bad HF.out.bel (Nat.le_refl _) HF.out.rr 5;obtain ⟨d0,d1,d2,d3,dl⟩:=hr.cells4;have H1:=hiD h1;clear h1 hr dl;go_wp2_with fail;refine bodyPost_ret (v:=.tuple #[.agg #[.slice none 0 0,.int .i64 0,.slice none 0 0,.slice none 0 0],.int .i64 5]) (by simp [results,Tryz.results17,go_sem,d0,d1,d2,d3]) rfl ?_;exact H1.out
    have d8:decide (8 < v)=false:=decide_eq_false h8;have hne:=HF.out.rt;obtain ⟨x0,x1,x2,x3,xl⟩:=HF.out.rx.cells4;obtain ⟨xf0,xf1,xf2,xf3⟩:=HF.out.rx.froz4;go_wp2_with fail;refine (rightTot_q _ _ _ _ _ _ _ _ _ _ _ HF.out.tot).mono ?_;rintro e w15 ⟨q,rfl,hb⟩;have HFn:=hiD (HF.out.below hb);clear hb hne d3 d8 h3 h8;clear x0 xf0 x1 xf1 x2 xf2 x3 xf3 xl;clear HF;have HF:=HFn;clear HFn
    cases q with
    | false=>
     have hne:=HF.out.rt;obtain ⟨y0,y1,y2,y3,yl⟩:=HF.out.rr.cells4;obtain ⟨yf0,yf1,yf2,yf3⟩:=HF.out.rr.froz4;obtain ⟨h1,hr⟩:=TF.bad HF.out.bel (Nat.le_refl _) HF.out.rr 5;obtain ⟨d0,d1,d2,d3,dl⟩:=hr.cells4;have H1:=hiD h1;clear h1 hr dl;go_wp2_with fail;refine bodyPost_ret (v:=.tuple #[.agg #[.slice none 0 0,.int .i64 0,.slice none 0 0,.slice none 0 0],.int .i64 5]) (by simp [results,Tryz.results17,go_sem,d0,d1,d2,d3]) rfl ?_;exact H1.out
    | true=>
    have hne:=HF.out.rt;obtain ⟨y0,y1,y2,y3,yl⟩:=HF.out.rr.cells4;obtain ⟨yf0,yf1,yf2,yf3⟩:=HF.out.rr.froz4;obtain ⟨x0,x1,x2,x3,xl⟩:=HF.out.rx.cells4;obtain ⟨xf0,xf1,xf2,xf3⟩:=HF.out.rx.froz4;obtain ⟨h1,hr⟩:=TF.ret HF.out 0;obtain ⟨d0,d1,d2,d3,dl⟩:=hr.cells4;have H1:=hiD h1;clear h1 hr dl;go_wp2_with fail;refine bodyPost_ret (v:=.tuple #[.agg #[.slice A n c,.int .i64 v,.slice A7 l7.length c7,.slice A8 l8.length c8],.int .i64 0]) (by simp [results,Tryz.results17,go_sem,d0,d1,d2,d3]) rfl ?_;exact H1.out
  ·have e1:((ps.length:Int) == 3)=false:=by simp;omega
   have e2:((ps.length:Int) != 3)=true:=by simp;omega
   have hne:=HF.out.rt;obtain ⟨y0,y1,y2,y3,yl⟩:=HF.out.rr.cells4;obtain ⟨yf0,yf1,yf2,yf3⟩:=HF.out.rr.froz4;obtain ⟨h1,hr⟩:=TF.bad HF.out.bel (Nat.le_refl _) HF.out.rr 15;obtain ⟨d0,d1,d2,d3,dl⟩:=hr.cells4;have H1:=hiD h1;clear h1 hr dl;go_wp2_with fail;refine bodyPost_ret (v:=.tuple #[.agg #[.slice none 0 0,.int .i64 0,.slice none 0 0,.slice none 0 0],.int .i64 15]) (by simp [results,Tryz.results17,go_sem,d0,d1,d2,d3]) rfl ?_;exact H1.out
end Go.Proofs.YtbijfnbelkbofaaGreatDoor
namespace Go.Proofs.YtbijfnbelkbofaaGreatDoor
open Go.RowKit
def NumPost (w:World) (e:Ending) (w':World):Prop:=∃ (n:Int) (ok:Bool),e=.returned (.tuple #[.int .i64 n,.bool ok])∧(0≤n∧n≤1000000000)∧w=w'
set_option maxRecDepth 100000 in
set_option maxHeartbeats 4000000 in
theorem rNumber_any (s:ByteArray) (hs:s.size≤100000) (w:World):Calls Tryz.prog 114 #[.string s] w (NumPost w):=by
 go_enter Tryz.func114,Tryz.ntmps114;by_cases h1:s.size < 1
 ·have d1:decide ((s.size:Int) < 1)=true:=decide_eq_true (by omega);go_wp2;go_ret2;exact ⟨_,_,rfl,by omega,rfl⟩
 have d1:decide ((s.size:Int) < 1)=false:=decide_eq_false (by omega);by_cases h9:9 < s.size
 ·have d2:decide (9 < (s.size:Int))=true:=decide_eq_true (by omega);go_wp2;go_ret2;exact ⟨_,_,rfl,by omega,rfl⟩
 have d2:decide (9 < (s.size:Int))=false:=decide_eq_false (by omega);have hp:(0:Int) < (s.size:Int):=by omega
 go_wp2
 all_goals first
  | (go_ret2;exact ⟨_,_,rfl,by omega,rfl⟩)
  | skip
 all_goals
  try generalize ((s[0]'(by omega)).toNat:Int)=z0
  go_loopg [4,5,26] s.size (fun gg s4 _ s26 wr=>∃ (i:Nat) (n:Int),i≤s.size∧s.size - i≤gg∧s26=.int .i64 (i:Int)∧s4=.int .i64 n∧w=wr∧Aside (0≤n∧n < 10 ^ i))
  case atStart=>exact ⟨0,0,Nat.zero_le _,by omega,rfl,rfl,rfl,by omega,by decide⟩
  case round=>
   obtain ⟨i,n,hi,hgg,rfl,rfl,rfl,hv⟩:=hrel;obtain ⟨hn0,hn1⟩:=hv.out
   have hpow:(10:Int) ^ i≤1000000000:=by
    have key:∀ j:Fin 10,(10:Int) ^ (j:Nat)≤1000000000:=by decide
    exact key ⟨i,by omega⟩
   by_cases hlt:i < s.size
   ·have hltz:(i:Int) < (s.size:Int):=by omega
    have hi0:(0:Int)≤(i:Int):=by omega
    have hpw:(10:Int) ^ (i+1)=10 * 10 ^ i:=by rw [Int.pow_succ];omega
    have HP:=hiD hpw;revert HP hn1;generalize (10:Int) ^ i=t at hpow;intro hn1 HP;clear hpw hv
    obtain ⟨z,hz⟩:∃ z:Int,((s[i]'hlt).toNat:Int)=z:=⟨_,rfl⟩
    have hz1:0≤z∧z < 256:=by rw [← hz];have:=(s[i]'hlt).toNat_lt;omega
    obtain ⟨hz1,hz2⟩:=hz1;by_cases h3:z < 48
    ·have d3:decide (z < 48)=true:=decide_eq_true h3;go_wp2;go_ret2;exact ⟨_,_,rfl,by omega,rfl⟩
    ·have d3:decide (z < 48)=false:=decide_eq_false h3;by_cases h4:57 < z
     ·have d4:decide (57 < z)=true:=decide_eq_true h4;go_wp2;go_ret2;exact ⟨_,_,rfl,by omega,rfl⟩
     ·have d4:decide (57 < z)=false:=decide_eq_false h4
      have hw8:IntKind.u8.wrap (z - 48)=z - 48:=by
       have h8:IntKind.u8.wrap (z - 48)=(z - 48) % 256:=by simp [IntKind.wrap,IntKind.bits,IntKind.signed]
       rw [h8];omega
      have hw1:IntKind.i64.wrap (z - 48)=z - 48:=IntWalk.i64_in _ (by omega);have hw2:IntKind.i64.wrap (10 * n)=10 * n:=IntWalk.i64_in _ (by omega);have hw3:IntKind.i64.wrap (10 * n+(z - 48))=10 * n+(z - 48):=IntWalk.i64_in _ (by omega);go_wp2;go_roundg (s.size - (i+1))
      case measure=>omega
      case rel=>exact ⟨i+1,10 * n+(z - 48),by omega,by omega,by go_num,by first | rfl | (congr 1;omega),rfl,by omega,by rw [HP.out];omega⟩
   ·obtain rfl:i=s.size:=by omega
    clear hlt hv;go_wp2;go_ret2;exact ⟨_,_,rfl,by omega,rfl⟩
end Go.Proofs.YtbijfnbelkbofaaGreatDoor
namespace Go.Proofs.YtbijfnbelkbofaaGreatDoor
open Go.RowKit
def BoolW (w:World) (e:Ending) (w':World):Prop:=∃ b:Bool,e=.returned (.bool b)∧w=w'
set_option maxRecDepth 100000 in
set_option maxHeartbeats 4000000 in
theorem rName_any (s:ByteArray) (hs:s.size≤100000) (w:World):Calls Tryz.prog 148 #[.string s] w (BoolW w):=by
 go_enter Tryz.func148,Tryz.ntmps148;by_cases h1:s.size < 1
 ·have d1:decide ((s.size:Int) < 1)=true:=decide_eq_true (by omega);go_wp2;go_ret;exact ⟨_,rfl,rfl⟩
 have d1:decide ((s.size:Int) < 1)=false:=decide_eq_false (by omega);by_cases h9:20 < s.size
 ·have d2:decide (20 < (s.size:Int))=true:=decide_eq_true (by omega);go_wp2;go_ret;exact ⟨_,rfl,rfl⟩
 have d2:decide (20 < (s.size:Int))=false:=decide_eq_false (by omega);have hp:(0:Int) < (s.size:Int):=by omega
 cases dv:(s.toList == [118,97,114]) with
 | true=>
  go_wp2;go_ret;exact ⟨_,rfl,rfl⟩
 | false=>
 obtain ⟨z0,hz0⟩:∃ z0:Int,((s[0]'(by omega)).toNat:Int)=z0:=⟨_,rfl⟩
 have key:(decide (48≤z0)=true∧decide (z0≤57)=true)∨(decide (48≤z0)=true∧decide (z0≤57)=false)∨decide (48≤z0)=false:=by
  cases decide (48≤z0) <;> cases decide (z0≤57) <;> simp
 rcases key with ⟨k1,k2⟩ | ⟨k1,k2⟩ | k1
 ·go_wp2;go_ret;exact ⟨_,rfl,rfl⟩
 all_goals
  go_wp2
  go_loopg [3,4,29] s.size (fun gg _ _ s29 wr=>∃ i:Nat,i≤s.size∧s.size - i≤gg∧s29=.int .i64 (i:Int)∧w=wr)
  case atStart=>exact ⟨0,Nat.zero_le _,by omega,rfl,rfl⟩
  case round=>
   obtain ⟨i,hi,hgg,rfl,rfl⟩:=hrel;by_cases hlt:i < s.size
   ·have hltz:(i:Int) < (s.size:Int):=by omega
    have hi0:(0:Int)≤(i:Int):=by omega
    obtain ⟨z,hz⟩:∃ z:Int,((s[i]'hlt).toNat:Int)=z:=⟨_,rfl⟩
    obtain ⟨y,hy⟩:∃ y:Int,bits .or .u8 z 32=y:=⟨_,rfl⟩
    go_wp2
    all_goals first
     | (go_ret;exact ⟨_,rfl,rfl⟩)
     | (go_roundg (s.size - (i + 1))
        case measure=>omega
        case rel=>exact ⟨i+1,by omega,by omega,by go_num,rfl⟩)
   ·obtain rfl:i=s.size:=by omega
    clear hlt;go_wp2;go_ret;exact ⟨_,rfl,rfl⟩
end Go.Proofs.YtbijfnbelkbofaaGreatDoor
namespace Go.Proofs.YtbijfnbelkbofaaGreatDoor
open Go.RowKit Go.Maps
def NmOk (F:Value→Option Value):Prop:=∀ v x,F v=some x→∃ k:Nat,x=.int .i64 (k:Int)∧k≤1000
def EltPost (w:World) (e:Ending) (w':World):Prop:=∃ n k:Int,e=.returned (.tuple #[.int .i64 n,.int .i64 k])∧(-1001≤n∧n≤1000000000)∧w=w'
set_option maxRecDepth 100000 in
set_option maxHeartbeats 2000000 in
theorem element_any (s:ByteArray) (hs:s.size≤100000) (pb mb:Nat) (st sy hd:Int) (HA VA RA:Option Addr) (hn hc vn vc rn rc:Nat) (F:Value→Option Value) (hF:NmOk F) (w:World) (hp:Row w pb 122 [.int .i64 st,.int .i64 sy,.slice HA hn hc,.slice VA vn vc,.slice RA rn rc,.map (some mb),.int .i64 hd]) (hm:MK w Tryz.prog 9 mb F):
 Calls Tryz.prog 149 #[.pointer (some ⟨pb,0,none⟩),.string s] w (EltPost w):=by
 have HP:=hiD hp;obtain ⟨p0,p1,p2,p3,p4,p5,p6,pl⟩:=HP.out.cells7;have hkey:keyOf Tryz.prog 9 (.string s)=some (.string s.data.toList):=Go.WideMaps.keyOf_string_mk Tryz.underlying9 (by unfold maxLen;omega);have hlk:=hm.lookup string_keyedK Tryz.underlying120 (Tryz.zeroValue3 w) hkey;have HF:=hiD (hF (.string s));clear hp hm hF hkey;revert hlk HF;generalize F (.string s)=o;intro hlk HF;go_enter Tryz.func149,Tryz.ntmps149
 cases o with
 | none=>
  simp only [Option.getD_none,Option.isSome_none] at hlk
  go_wp2_with (first
   | (go_at_call 114
      refine (rNumber_any s hs _).mono ?_
      rintro e w1 ⟨n,ok,rfl,hn9,rfl⟩)
   | (go_at_call 148
      refine (rName_any s hs _).mono ?_
      rintro e w1 ⟨b,rfl,rfl⟩))
  all_goals
   go_ret2;exact ⟨_,_,rfl,by omega,rfl⟩
 | some x=>
  obtain ⟨k,rfl,hk⟩:=HF.out x rfl;simp only [Option.getD_some,Option.isSome_some] at hlk;have hw:IntKind.i64.wrap (-1 - (k:Int))=-1 - (k:Int):=IntWalk.i64_in _ (by omega)
  go_wp2_with (first
   | (go_at_call 114
      refine (rNumber_any s hs _).mono ?_
      rintro e w1 ⟨n,ok,rfl,hn9,rfl⟩)
   | (go_at_call 148
      refine (rName_any s hs _).mono ?_
      rintro e w1 ⟨b,rfl,rfl⟩))
  all_goals
   go_ret2;exact ⟨_,_,rfl,by omega,rfl⟩
end Go.Proofs.YtbijfnbelkbofaaGreatDoor
namespace Go.Proofs.YtbijfnbelkbofaaGreatDoor
open Go.RowKit
def HoodPost (w:World) (e:Ending) (w':World):Prop:=∃ (l:List Pt) (A:Option Addr) (c:Nat),e=.returned (.slice A l.length c)∧w'.ownsRow w.heap.size 114 2 (.slice A l.length c) l.length (hoodCells l)∧l.length≤9∧Below w.heap.size w w'
def lineL:List Pt:=[⟨-1,0⟩,⟨0,0⟩,⟨1,0⟩]
theorem line_any (w:World):Calls Tryz.prog 146 #[] w (HoodPost w):=by
 go_enter Tryz.func146,Tryz.ntmps146;go_wp2;go_ret;exact ⟨lineL,some ⟨w.heap.size,0,none⟩,3,rfl,Row.own (Row.new w 114 (hoodCells lineL)) (Nat.le_refl _) (by rfl) (by show 3≤_;unfold maxLen;omega),by decide,by go_grown⟩
theorem colPost_hood {l:List Pt} {w w':World} {e:Ending} (hl:l.length≤9) (h:ColPost l w e w'):HoodPost w e w':=by
 obtain ⟨A,c,h1,h2,h3⟩:=h;exact ⟨l,A,c,h1,h2,hl,h3⟩
set_option maxRecDepth 100000 in
set_option maxHeartbeats 2000000 in
theorem named_any (s:ByteArray) (w:World):Calls Tryz.prog 115 #[.string s] w (HoodPost w):=by
 have h1:=hiD (fun W=>(moore_any W).mono fun _ _ h=>colPost_hood (colL_len _ _) h);have h2:=hiD (fun W=>(neum_any W).mono fun _ _ h=>colPost_hood (colL_len _ _) h);have h3:=hiD (fun W=>(hex_any W).mono fun _ _ h=>colPost_hood (colL_len _ _) h);go_enter Tryz.func115,Tryz.ntmps115
 go_wp2_with (first
  | (go_at_call 46
     refine (h1.out _).mono ?_
     rintro e w1 ⟨l,A,c,rfl,ho,hl,hb⟩)
  | (go_at_call 48
     refine (h2.out _).mono ?_
     rintro e w1 ⟨l,A,c,rfl,ho,hl,hb⟩)
  | (go_at_call 49
     refine (h3.out _).mono ?_
     rintro e w1 ⟨l,A,c,rfl,ho,hl,hb⟩)
  | (go_at_call 146
     refine (line_any _).mono ?_
     rintro e w1 ⟨l,A,c,rfl,ho,hl,hb⟩))
 all_goals
  go_ret
  first
   | exact ⟨l,A,c,rfl,ho,hl,hb⟩
   | exact ⟨[],none,0,rfl,World.ownsRow_nil _ _ _ _,by decide,Below.refl _ _⟩
end Go.Proofs.YtbijfnbelkbofaaGreatDoor
