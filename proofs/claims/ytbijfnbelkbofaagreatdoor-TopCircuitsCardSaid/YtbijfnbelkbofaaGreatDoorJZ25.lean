/-
  Lemmas for the law TopCircuits.
-/
import Derived.Test.YtbijfnbelkbofaaGreatDoorJZ22
import Derived.Test.YtbijfnbelkbofaaGreatDoorJZ24
import Derived.Test.YtbijfnbelkbofaaGreatDoorJZ23
set_option linter.unusedSimpArgs false
set_option linter.unusedVariables false
namespace Go.Proofs.YtbijfnbelkbofaaGreatDoor
open Go.RowKit
set_option maxRecDepth 100000 in
set_option maxHeartbeats 4000000 in
theorem lParse_any (s:ByteArray) (hs:s.size≤100000) (w:World) (G:GEnv w):Calls Tryz.prog 16 #[.string s] w (TotB w):=by
 have HG:=hiD G;clear G;go_enter Tryz.func16,Tryz.ntmps16;go_upto_region 1 with fail;obtain ⟨w1,hW9,HR,hgr9⟩:=laid1 w [.slice none 0 0,.int .i64 0,.slice none 0 0,.slice none 0 0] 51;rewrite [hW9];clear hW9;have B_w:=hiD hgr9;clear hgr9;have hmo:=moore_len;have hne0:=neum_len;have hhe:=hex_len;go_wp2_with fail;refine (cutPrefix_any s _ _).mono ?_;rintro e w2 ⟨t,b,rfl,ht,rfl⟩;go_wp2_with fail;refine (cut_any _ _ (by omega) _ (HG.out.up B_w.out)).mono ?_;rintro e w3 ⟨a3,t3,b3,rfl,⟨ha3,ht3⟩,hb⟩;have B_w:=hiD (below_on2 B_w.out hb);have B_w1:=hiD hb;clear hb
 cases b with
 | false=>
  have HRn:Row w3 w.heap.size 51 [.slice none 0 0,.int .i64 0,.slice none 0 0,.slice none 0 0]:=(rowCells HR.out B_w1.out)
  obtain ⟨y0,y1,y2,y3,yl⟩:=HRn.cells4;obtain ⟨yf0,yf1,yf2,yf3⟩:=HRn.froz4;obtain ⟨h1,hr⟩:=TF.bad B_w.out (Nat.le_refl _) HRn 15;obtain ⟨d0,d1,d2,d3,dl⟩:=hr.cells4;have H1:=hiD h1;clear h1 hr dl;go_wp2_with fail;refine bodyPost_ret (v:=.tuple #[.agg #[.slice none 0 0,.int .i64 0,.slice none 0 0,.slice none 0 0],.int .i64 15]) (by simp [results,Tryz.results16,go_sem,d0,d1,d2,d3]) rfl ?_;exact H1.out
 | true=>
 cases b3 with
 | false=>
  have HRn:Row w3 w.heap.size 51 [.slice none 0 0,.int .i64 0,.slice none 0 0,.slice none 0 0]:=(rowCells HR.out B_w1.out)
  obtain ⟨y0,y1,y2,y3,yl⟩:=HRn.cells4;obtain ⟨yf0,yf1,yf2,yf3⟩:=HRn.froz4;obtain ⟨h1,hr⟩:=TF.bad B_w.out (Nat.le_refl _) HRn 15;obtain ⟨d0,d1,d2,d3,dl⟩:=hr.cells4;have H1:=hiD h1;clear h1 hr dl;go_wp2_with fail;refine bodyPost_ret (v:=.tuple #[.agg #[.slice none 0 0,.int .i64 0,.slice none 0 0,.slice none 0 0],.int .i64 15]) (by simp [results,Tryz.results16,go_sem,d0,d1,d2,d3]) rfl ?_;exact H1.out
 | true=>
 have HRn:=hiD (rowCells HR.out B_w1.out);go_wp2_with fail;refine (moore_any w3).mono ?_;rintro e w5 ⟨A5,c5,rfl,ho,hb⟩;have HF:=hiD (TF.make B_w.out (Nat.le_refl _) HRn.out hb ho (by omega) 2);clear ho hb;go_upto_region 6 with fail;revert HF;generalize (World.alloc w5 _)=w50;generalize w5.heap.size=tb;intro HF;go_wp2_with fail;refine (cutSuffix_any t3 _ (by omega) _).mono ?_;rintro e w4 ⟨t4,b4,rfl,ht4,rfl⟩
 cases b4 with
 | true=>
  go_wp2_with fail;refine (neum_any w50).mono ?_;rintro e w6 ⟨A6,c6,rfl,ho,hb⟩;have HF6:=hiD (TF.hood HF.out hb ho (by omega));have HFa:=hiD (HF.out.below hb);clear ho hb;have hne:=HFa.out.rt;obtain ⟨y0,y1,y2,y3,yl⟩:=HFa.out.rr.cells4;obtain ⟨yf0,yf1,yf2,yf3⟩:=HFa.out.rr.froz4;obtain ⟨x0,x1,x2,x3,xl⟩:=HFa.out.rx.cells4;obtain ⟨xf0,xf1,xf2,xf3⟩:=HFa.out.rx.froz4;clear HF HFa;have HF:=HF6;clear HF6;go_upto_region 12 with fail;clear y0 yf0 y1 yf1 y2 yf2 y3 yf3 x0 xf0 x1 xf1 x2 xf2 x3 xf3 yl xl;clear hne;revert HF;generalize w6.setCell ⟨tb,0,none⟩ (.slice A6 neumL.length c6)=w60;intro HF;go_wp2_with fail;refine (lDigits_any _ (by omega) w60).mono ?_;rintro e w7 ⟨l7,A7,c7,b7,rfl,ho,hb,hl7⟩;have HF7:=hiD (TF.birth HF.out hb ho (by omega));have HFa:=hiD (HF.out.below hb);clear ho hb;have hne:=HFa.out.rt;obtain ⟨y0,y1,y2,y3,yl⟩:=HFa.out.rr.cells4;obtain ⟨yf0,yf1,yf2,yf3⟩:=HFa.out.rr.froz4;obtain ⟨x0,x1,x2,x3,xl⟩:=HFa.out.rx.cells4;obtain ⟨xf0,xf1,xf2,xf3⟩:=HFa.out.rx.froz4;clear HF HFa;have HF:=HF7;clear HF7;go_upto_region 13 with fail;clear y0 yf0 y1 yf1 y2 yf2 y3 yf3 x0 xf0 x1 xf1 x2 xf2 x3 xf3 yl xl;clear hne;revert HF;generalize w7.setCell ⟨tb,2,none⟩ (.slice A7 l7.length c7)=w70;intro HF;go_wp2_with fail;refine (lDigits_any _ (by omega) w70).mono ?_;rintro e w8 ⟨l8,A8,c8,b8,rfl,ho,hb,hl8⟩;have HF8:=hiD (TF.surv HF.out hb ho (by omega));have HFa:=hiD (HF.out.below hb);clear ho hb;have hne:=HFa.out.rt;obtain ⟨y0,y1,y2,y3,yl⟩:=HFa.out.rr.cells4;obtain ⟨yf0,yf1,yf2,yf3⟩:=HFa.out.rr.froz4;obtain ⟨x0,x1,x2,x3,xl⟩:=HFa.out.rx.cells4;obtain ⟨xf0,xf1,xf2,xf3⟩:=HFa.out.rx.froz4;clear HF HFa;have HF:=HF8;clear HF8;go_upto_region 14 with fail;clear y0 yf0 y1 yf1 y2 yf2 y3 yf3 x0 xf0 x1 xf1 x2 xf2 x3 xf3 yl xl;clear hne;revert HF;generalize w8.setCell ⟨tb,3,none⟩ (.slice A8 l8.length c8)=w80;intro HF
  cases b7 with
  | false=>
   have hne:=HF.out.rt;obtain ⟨y0,y1,y2,y3,yl⟩:=HF.out.rr.cells4;obtain ⟨yf0,yf1,yf2,yf3⟩:=HF.out.rr.froz4;obtain ⟨h1,hr⟩:=TF.bad HF.out.bel (Nat.le_refl _) HF.out.rr 15;obtain ⟨d0,d1,d2,d3,dl⟩:=hr.cells4;have H1:=hiD h1;clear h1 hr dl;go_wp2_with fail;refine bodyPost_ret (v:=.tuple #[.agg #[.slice none 0 0,.int .i64 0,.slice none 0 0,.slice none 0 0],.int .i64 15]) (by simp [results,Tryz.results16,go_sem,d0,d1,d2,d3]) rfl ?_;exact H1.out
  | true=>
  cases b8 with
  | false=>
   have hne:=HF.out.rt;obtain ⟨y0,y1,y2,y3,yl⟩:=HF.out.rr.cells4;obtain ⟨yf0,yf1,yf2,yf3⟩:=HF.out.rr.froz4;obtain ⟨h1,hr⟩:=TF.bad HF.out.bel (Nat.le_refl _) HF.out.rr 15;obtain ⟨d0,d1,d2,d3,dl⟩:=hr.cells4;have H1:=hiD h1;clear h1 hr dl;go_wp2_with fail;refine bodyPost_ret (v:=.tuple #[.agg #[.slice none 0 0,.int .i64 0,.slice none 0 0,.slice none 0 0],.int .i64 15]) (by simp [results,Tryz.results16,go_sem,d0,d1,d2,d3]) rfl ?_;exact H1.out
  | true=>
  have hne:=HF.out.rt;obtain ⟨x0,x1,x2,x3,xl⟩:=HF.out.rx.cells4;obtain ⟨xf0,xf1,xf2,xf3⟩:=HF.out.rx.froz4;go_wp2_with fail;refine (rightTot_q _ _ _ _ _ _ _ _ _ _ _ HF.out.tot).mono ?_;rintro e w9 ⟨q,rfl,hb⟩;have HF9:=hiD (HF.out.below hb);clear hb hne;clear x0 xf0 x1 xf1 x2 xf2 x3 xf3 xl;clear HF;have HF:=HF9;clear HF9
  cases q with
  | false=>
   have hne:=HF.out.rt;obtain ⟨y0,y1,y2,y3,yl⟩:=HF.out.rr.cells4;obtain ⟨yf0,yf1,yf2,yf3⟩:=HF.out.rr.froz4;obtain ⟨h1,hr⟩:=TF.bad HF.out.bel (Nat.le_refl _) HF.out.rr 5;obtain ⟨d0,d1,d2,d3,dl⟩:=hr.cells4;have H1:=hiD h1;clear h1 hr dl;go_wp2_with fail;refine bodyPost_ret (v:=.tuple #[.agg #[.slice none 0 0,.int .i64 0,.slice none 0 0,.slice none 0 0],.int .i64 5]) (by simp [results,Tryz.results16,go_sem,d0,d1,d2,d3]) rfl ?_;exact H1.out
  | true=>
  have hne:=HF.out.rt;obtain ⟨y0,y1,y2,y3,yl⟩:=HF.out.rr.cells4;obtain ⟨yf0,yf1,yf2,yf3⟩:=HF.out.rr.froz4;obtain ⟨x0,x1,x2,x3,xl⟩:=HF.out.rx.cells4;obtain ⟨xf0,xf1,xf2,xf3⟩:=HF.out.rx.froz4;obtain ⟨h1,hr⟩:=TF.ret HF.out 0;obtain ⟨d0,d1,d2,d3,dl⟩:=hr.cells4;have H1:=hiD h1;clear h1 hr dl;go_wp2_with fail;refine bodyPost_ret (v:=.tuple #[.agg #[.slice A6 neumL.length c6,.int .i64 2,.slice A7 l7.length c7,.slice A8 l8.length c8],.int .i64 0]) (by simp [results,Tryz.results16,go_sem,d0,d1,d2,d3]) rfl ?_;exact H1.out
 | false=>
 go_wp2_with fail;refine (cutSuffix_any t3 _ (by omega) _).mono ?_;rintro e w4 ⟨t5,b5,rfl,ht5,rfl⟩
 cases b5 with
 | true=>
  go_wp2_with fail;refine (hex_any w50).mono ?_;rintro e w6 ⟨A6,c6,rfl,ho,hb⟩;have HF6:=hiD (TF.hood HF.out hb ho (by omega));have HFa:=hiD (HF.out.below hb);clear ho hb;have hne:=HFa.out.rt;obtain ⟨y0,y1,y2,y3,yl⟩:=HFa.out.rr.cells4;obtain ⟨yf0,yf1,yf2,yf3⟩:=HFa.out.rr.froz4;obtain ⟨x0,x1,x2,x3,xl⟩:=HFa.out.rx.cells4;obtain ⟨xf0,xf1,xf2,xf3⟩:=HFa.out.rx.froz4;clear HF HFa;have HF:=HF6;clear HF6;go_upto_region 12 with fail;clear y0 yf0 y1 yf1 y2 yf2 y3 yf3 x0 xf0 x1 xf1 x2 xf2 x3 xf3 yl xl;clear hne;revert HF;generalize w6.setCell ⟨tb,0,none⟩ (.slice A6 hexL.length c6)=w60;intro HF;go_wp2_with fail;refine (lDigits_any _ (by omega) w60).mono ?_;rintro e w7 ⟨l7,A7,c7,b7,rfl,ho,hb,hl7⟩;have HF7:=hiD (TF.birth HF.out hb ho (by omega));have HFa:=hiD (HF.out.below hb);clear ho hb;have hne:=HFa.out.rt;obtain ⟨y0,y1,y2,y3,yl⟩:=HFa.out.rr.cells4;obtain ⟨yf0,yf1,yf2,yf3⟩:=HFa.out.rr.froz4;obtain ⟨x0,x1,x2,x3,xl⟩:=HFa.out.rx.cells4;obtain ⟨xf0,xf1,xf2,xf3⟩:=HFa.out.rx.froz4;clear HF HFa;have HF:=HF7;clear HF7;go_upto_region 13 with fail;clear y0 yf0 y1 yf1 y2 yf2 y3 yf3 x0 xf0 x1 xf1 x2 xf2 x3 xf3 yl xl;clear hne;revert HF;generalize w7.setCell ⟨tb,2,none⟩ (.slice A7 l7.length c7)=w70;intro HF;go_wp2_with fail;refine (lDigits_any _ (by omega) w70).mono ?_;rintro e w8 ⟨l8,A8,c8,b8,rfl,ho,hb,hl8⟩;have HF8:=hiD (TF.surv HF.out hb ho (by omega));have HFa:=hiD (HF.out.below hb);clear ho hb;have hne:=HFa.out.rt;obtain ⟨y0,y1,y2,y3,yl⟩:=HFa.out.rr.cells4;obtain ⟨yf0,yf1,yf2,yf3⟩:=HFa.out.rr.froz4;obtain ⟨x0,x1,x2,x3,xl⟩:=HFa.out.rx.cells4;obtain ⟨xf0,xf1,xf2,xf3⟩:=HFa.out.rx.froz4;clear HF HFa;have HF:=HF8;clear HF8;go_upto_region 14 with fail;clear y0 yf0 y1 yf1 y2 yf2 y3 yf3 x0 xf0 x1 xf1 x2 xf2 x3 xf3 yl xl;clear hne;revert HF;generalize w8.setCell ⟨tb,3,none⟩ (.slice A8 l8.length c8)=w80;intro HF
  cases b7 with
  | false=>
   have hne:=HF.out.rt;obtain ⟨y0,y1,y2,y3,yl⟩:=HF.out.rr.cells4;obtain ⟨yf0,yf1,yf2,yf3⟩:=HF.out.rr.froz4;obtain ⟨h1,hr⟩:=TF.bad HF.out.bel (Nat.le_refl _) HF.out.rr 15;obtain ⟨d0,d1,d2,d3,dl⟩:=hr.cells4;have H1:=hiD h1;clear h1 hr dl;go_wp2_with fail;refine bodyPost_ret (v:=.tuple #[.agg #[.slice none 0 0,.int .i64 0,.slice none 0 0,.slice none 0 0],.int .i64 15]) (by simp [results,Tryz.results16,go_sem,d0,d1,d2,d3]) rfl ?_;exact H1.out
  | true=>
  cases b8 with
  | false=>
   have hne:=HF.out.rt;obtain ⟨y0,y1,y2,y3,yl⟩:=HF.out.rr.cells4;obtain ⟨yf0,yf1,yf2,yf3⟩:=HF.out.rr.froz4;obtain ⟨h1,hr⟩:=TF.bad HF.out.bel (Nat.le_refl _) HF.out.rr 15;obtain ⟨d0,d1,d2,d3,dl⟩:=hr.cells4;have H1:=hiD h1;clear h1 hr dl;go_wp2_with fail;refine bodyPost_ret (v:=.tuple #[.agg #[.slice none 0 0,.int .i64 0,.slice none 0 0,.slice none 0 0],.int .i64 15]) (by simp [results,Tryz.results16,go_sem,d0,d1,d2,d3]) rfl ?_;exact H1.out
  | true=>
  have hne:=HF.out.rt;obtain ⟨x0,x1,x2,x3,xl⟩:=HF.out.rx.cells4;obtain ⟨xf0,xf1,xf2,xf3⟩:=HF.out.rx.froz4;go_wp2_with fail;refine (rightTot_q _ _ _ _ _ _ _ _ _ _ _ HF.out.tot).mono ?_;rintro e w9 ⟨q,rfl,hb⟩;have HF9:=hiD (HF.out.below hb);clear hb hne;clear x0 xf0 x1 xf1 x2 xf2 x3 xf3 xl;clear HF;have HF:=HF9;clear HF9
  cases q with
  | false=>
   have hne:=HF.out.rt;obtain ⟨y0,y1,y2,y3,yl⟩:=HF.out.rr.cells4;obtain ⟨yf0,yf1,yf2,yf3⟩:=HF.out.rr.froz4;obtain ⟨h1,hr⟩:=TF.bad HF.out.bel (Nat.le_refl _) HF.out.rr 5;obtain ⟨d0,d1,d2,d3,dl⟩:=hr.cells4;have H1:=hiD h1;clear h1 hr dl;go_wp2_with fail;refine bodyPost_ret (v:=.tuple #[.agg #[.slice none 0 0,.int .i64 0,.slice none 0 0,.slice none 0 0],.int .i64 5]) (by simp [results,Tryz.results16,go_sem,d0,d1,d2,d3]) rfl ?_;exact H1.out
  | true=>
  have hne:=HF.out.rt;obtain ⟨y0,y1,y2,y3,yl⟩:=HF.out.rr.cells4;obtain ⟨yf0,yf1,yf2,yf3⟩:=HF.out.rr.froz4;obtain ⟨x0,x1,x2,x3,xl⟩:=HF.out.rx.cells4;obtain ⟨xf0,xf1,xf2,xf3⟩:=HF.out.rx.froz4;obtain ⟨h1,hr⟩:=TF.ret HF.out 0;obtain ⟨d0,d1,d2,d3,dl⟩:=hr.cells4;have H1:=hiD h1;clear h1 hr dl;go_wp2_with fail;refine bodyPost_ret (v:=.tuple #[.agg #[.slice A6 hexL.length c6,.int .i64 2,.slice A7 l7.length c7,.slice A8 l8.length c8],.int .i64 0]) (by simp [results,Tryz.results16,go_sem,d0,d1,d2,d3]) rfl ?_;exact H1.out
 | false=>
  go_wp2_with fail;refine (lDigits_any _ (by omega) w50).mono ?_;rintro e w7 ⟨l7,A7,c7,b7,rfl,ho,hb,hl7⟩;have HF7:=hiD (TF.birth HF.out hb ho (by omega));have HFa:=hiD (HF.out.below hb);clear ho hb;have hne:=HFa.out.rt;obtain ⟨y0,y1,y2,y3,yl⟩:=HFa.out.rr.cells4;obtain ⟨yf0,yf1,yf2,yf3⟩:=HFa.out.rr.froz4;obtain ⟨x0,x1,x2,x3,xl⟩:=HFa.out.rx.cells4;obtain ⟨xf0,xf1,xf2,xf3⟩:=HFa.out.rx.froz4;clear HF HFa;have HF:=HF7;clear HF7;go_upto_region 13 with fail;clear y0 yf0 y1 yf1 y2 yf2 y3 yf3 x0 xf0 x1 xf1 x2 xf2 x3 xf3 yl xl;clear hne;revert HF;generalize w7.setCell ⟨tb,2,none⟩ (.slice A7 l7.length c7)=w70;intro HF;go_wp2_with fail;refine (lDigits_any _ (by omega) w70).mono ?_;rintro e w8 ⟨l8,A8,c8,b8,rfl,ho,hb,hl8⟩;have HF8:=hiD (TF.surv HF.out hb ho (by omega));have HFa:=hiD (HF.out.below hb);clear ho hb;have hne:=HFa.out.rt;obtain ⟨y0,y1,y2,y3,yl⟩:=HFa.out.rr.cells4;obtain ⟨yf0,yf1,yf2,yf3⟩:=HFa.out.rr.froz4;obtain ⟨x0,x1,x2,x3,xl⟩:=HFa.out.rx.cells4;obtain ⟨xf0,xf1,xf2,xf3⟩:=HFa.out.rx.froz4;clear HF HFa;have HF:=HF8;clear HF8;go_upto_region 14 with fail;clear y0 yf0 y1 yf1 y2 yf2 y3 yf3 x0 xf0 x1 xf1 x2 xf2 x3 xf3 yl xl;clear hne;revert HF;generalize w8.setCell ⟨tb,3,none⟩ (.slice A8 l8.length c8)=w80;intro HF
  cases b7 with
  | false=>
   have hne:=HF.out.rt;obtain ⟨y0,y1,y2,y3,yl⟩:=HF.out.rr.cells4;obtain ⟨yf0,yf1,yf2,yf3⟩:=HF.out.rr.froz4;obtain ⟨h1,hr⟩:=TF.bad HF.out.bel (Nat.le_refl _) HF.out.rr 15;obtain ⟨d0,d1,d2,d3,dl⟩:=hr.cells4;have H1:=hiD h1;clear h1 hr dl;go_wp2_with fail;refine bodyPost_ret (v:=.tuple #[.agg #[.slice none 0 0,.int .i64 0,.slice none 0 0,.slice none 0 0],.int .i64 15]) (by simp [results,Tryz.results16,go_sem,d0,d1,d2,d3]) rfl ?_;exact H1.out
  | true=>
  cases b8 with
  | false=>
   have hne:=HF.out.rt;obtain ⟨y0,y1,y2,y3,yl⟩:=HF.out.rr.cells4;obtain ⟨yf0,yf1,yf2,yf3⟩:=HF.out.rr.froz4;obtain ⟨h1,hr⟩:=TF.bad HF.out.bel (Nat.le_refl _) HF.out.rr 15;obtain ⟨d0,d1,d2,d3,dl⟩:=hr.cells4;have H1:=hiD h1;clear h1 hr dl;go_wp2_with fail;refine bodyPost_ret (v:=.tuple #[.agg #[.slice none 0 0,.int .i64 0,.slice none 0 0,.slice none 0 0],.int .i64 15]) (by simp [results,Tryz.results16,go_sem,d0,d1,d2,d3]) rfl ?_;exact H1.out
  | true=>
  have hne:=HF.out.rt;obtain ⟨x0,x1,x2,x3,xl⟩:=HF.out.rx.cells4;obtain ⟨xf0,xf1,xf2,xf3⟩:=HF.out.rx.froz4;go_wp2_with fail;refine (rightTot_q _ _ _ _ _ _ _ _ _ _ _ HF.out.tot).mono ?_;rintro e w9 ⟨q,rfl,hb⟩;have HF9:=hiD (HF.out.below hb);clear hb hne;clear x0 xf0 x1 xf1 x2 xf2 x3 xf3 xl;clear HF;have HF:=HF9;clear HF9
  cases q with
  | false=>
   have hne:=HF.out.rt;obtain ⟨y0,y1,y2,y3,yl⟩:=HF.out.rr.cells4;obtain ⟨yf0,yf1,yf2,yf3⟩:=HF.out.rr.froz4;obtain ⟨h1,hr⟩:=TF.bad HF.out.bel (Nat.le_refl _) HF.out.rr 5;obtain ⟨d0,d1,d2,d3,dl⟩:=hr.cells4;have H1:=hiD h1;clear h1 hr dl;go_wp2_with fail;refine bodyPost_ret (v:=.tuple #[.agg #[.slice none 0 0,.int .i64 0,.slice none 0 0,.slice none 0 0],.int .i64 5]) (by simp [results,Tryz.results16,go_sem,d0,d1,d2,d3]) rfl ?_;exact H1.out
  | true=>
  have hne:=HF.out.rt;obtain ⟨y0,y1,y2,y3,yl⟩:=HF.out.rr.cells4;obtain ⟨yf0,yf1,yf2,yf3⟩:=HF.out.rr.froz4;obtain ⟨x0,x1,x2,x3,xl⟩:=HF.out.rx.cells4;obtain ⟨xf0,xf1,xf2,xf3⟩:=HF.out.rx.froz4;obtain ⟨h1,hr⟩:=TF.ret HF.out 0;obtain ⟨d0,d1,d2,d3,dl⟩:=hr.cells4;have H1:=hiD h1;clear h1 hr dl;go_wp2_with fail;refine bodyPost_ret (v:=.tuple #[.agg #[.slice A5 mooreL.length c5,.int .i64 2,.slice A7 l7.length c7,.slice A8 l8.length c8],.int .i64 0]) (by simp [results,Tryz.results16,go_sem,d0,d1,d2,d3]) rfl ?_;exact H1.out
end Go.Proofs.YtbijfnbelkbofaaGreatDoor
namespace Go.Proofs.YtbijfnbelkbofaaGreatDoor
open Go.RowKit
theorem results_tmp4 {fn:Func} {t u v x:Tmp} (h:fn.results=#[.tmp t,.tmp u,.tmp v,.tmp x]) (tmps:Array Value) (P:Program) (w:World):
 (results fn tmps).run P w=.ok (.tuple #[tmps.getD t undef,tmps.getD u undef,tmps.getD v undef,tmps.getD x undef]) w:=by
 simp [results,h]
def I64 (v:Int):Prop:=-9223372036854775808≤v∧v≤9223372036854775807
set_option maxRecDepth 100000 in
set_option maxHeartbeats 4000000 in
theorem wParse_any (s:ByteArray) (hs:s.size≤100000) (w:World) (G:GEnv w):Calls Tryz.prog 19 #[.string s] w fun e w'=>∃ (st n:Int) (sum:Bool) (k:Int),e=.returned (.tuple #[.int .i64 st,.int .i64 n,.bool sum,.int .i64 k])∧(I64 st∧I64 n)∧Below w.heap.size w w':=by
 have HG:=hiD G;have HB:=hiD (Below.refl w.heap.size w);clear G;go_enter Tryz.func19,Tryz.ntmps19
 go_wp2_with (first
  | (go_at_call 44
     refine (cutPrefix_any s _ _).mono ?_
     rintro e w1 ⟨t,b,rfl,ht,rfl⟩)
  | (go_at_call 45
     refine (cut_any _ _ (by omega) _ (HG.out.up HB.out)).mono ?_;rintro e w2 ⟨a2,t2,b2,rfl,⟨ha2,ht2⟩,hb2⟩;have HN:=hiD (HB.out.trans (hb2.mono HB.out.size));clear HB hb2;have HB:=HN
     clear HN)
  | (go_at_call 62
     refine (wNumber_any _ (by omega) _ (HG.out.up HB.out)).mono ?_;rintro e w3 ⟨v,ok,fits,rfl,hv,hb3⟩;have hi:I64 v:=hv;have HN:=hiD (HB.out.trans (hb3.mono HB.out.size));clear HB hb3 hv;have HB:=HN
     clear HN)
  | (go_at_call 63
     refine (wDigits_any _ _ _ (by assumption)).mono ?_;rintro e w4 ⟨l,A,c,k,rfl,hown,hb4,hk4⟩;have HN:=hiD (HB.out.trans (hb4.mono HB.out.size));clear HB hb4 hown hk4;have HB:=HN
     clear HN))
 all_goals
  (try simp only [Exit.inBlock,Exit.then]);refine bodyPost_ret (results_tmp4 rfl _ _ _) rfl ?_
  exact ⟨_,_,_,_,rfl,⟨by first | assumption | (unfold I64;omega),by first | assumption | (unfold I64;omega)⟩,HB.out⟩
end Go.Proofs.YtbijfnbelkbofaaGreatDoor
namespace Go.Proofs.YtbijfnbelkbofaaGreatDoor
open Go.RowKit
def KindPost (w:World) (e:Ending) (w':World):Prop:=∃ k:Int,e=.returned (.int .i64 k)∧(0≤k∧k≤5)∧Below w.heap.size w w'
set_option maxRecDepth 100000 in
set_option maxHeartbeats 2000000 in
theorem kind_any (s:ByteArray) (hs:s.size≤100000) (w:World) (G:GEnv w) (hgp:∀ W,GEnv W→Calls Tryz.prog 17 #[.string s] W (TotB W)):Calls Tryz.prog 15 #[.string s] w (KindPost w):=by
 have HG:=hiD G;have HGP:=hiD hgp;have HB:=hiD (Below.refl w.heap.size w);clear G hgp;go_enter Tryz.func15,Tryz.ntmps15
 go_wp2_with (first
  | (go_at_call 16
     refine (lParse_any s hs _ (HG.out.up HB.out)).mono ?_;rintro e w1 ⟨x,HA,BA,SA,hn,hc,bn,bc,sn,sc,k,rfl,hat,hf,hb⟩;have HN:=hiD (HB.out.trans (hb.mono HB.out.size));clear HB hat hf hb
     have HB:=hiD (HN.out.alloc HN.out.size (.cells #[.slice HA hn hc,.int .i64 x.states,.slice BA bn bc,.slice SA sn sc] 51)))
  | (go_at_call 17
     refine (HGP.out _ (HG.out.up HB.out)).mono ?_;rintro e w2 ⟨x,HA,BA,SA,hn,hc,bn,bc,sn,sc,k2,rfl,hat,hf,hb⟩;have HN2:=hiD (HB.out.trans (hb.mono HB.out.size));clear HB hat hf hb
     have HB:=hiD (HN2.out.alloc HN2.out.size (.cells #[.slice HA hn hc,.int .i64 x.states,.slice BA bn bc,.slice SA sn sc] 51)))
  | (go_at_call 19
     refine (wParse_any s hs _ (HG.out.up HB.out)).mono ?_;rintro e w3 ⟨st,n,sum,k3,rfl,hi,hb⟩;have HN3:=hiD (HB.out.trans (hb.mono HB.out.size));clear HB hi hb
     have HB:=HN3)
  | (go_at_call 42
     refine (strings_HasPrefix s _ _).mono ?_
     rintro e w4 ⟨rfl,rfl⟩)
  | (go_at_call 43
     refine (strings_Contains_one s _ _).mono ?_
     rintro e w5 ⟨rfl,rfl⟩))
 all_goals
  go_ret;exact ⟨_,rfl,by omega,HB.out⟩
end Go.Proofs.YtbijfnbelkbofaaGreatDoor
namespace Go.Proofs.YtbijfnbelkbofaaGreatDoor
open Go.Lib
namespace KU
def hi (c:Int):Int:=c / 16
def lo (c:Int):Int:=c % 16
def code (a b:Int):Int:=16 * a+b
theorem hi_code {a b:Int} (h:0≤b∧b < 16):hi (code a b)=a:=by unfold hi code;omega
theorem lo_code {a b:Int} (h:0≤b∧b < 16):lo (code a b)=b:=by unfold lo code;omega
theorem code_hi (c:Int):code (hi c) (lo c)=c:=by unfold hi lo code;omega
def placeS (k:Int × Int):Value:=.agg #[.int .i64 k.1,.int .i64 (hi k.2),.int .i64 (lo k.2)]
theorem placeS_inj {a b:Int × Int} (h:placeS a=placeS b):a=b:=by
 unfold placeS at h;injection h with h;have:=congrArg Array.toList h
 simp at this
 obtain ⟨h1,h2,h3⟩:=this;have h4:a.2=b.2:=by rw [← code_hi a.2,← code_hi b.2,h2,h3]
 exact Prod.ext h1 h4
open Classical in
noncomputable def seenS (l:List ((Int × Int) × Int)) (v:Value):Option Value:=(l.find? (fun x=>decide (v=placeS x.1))).map (fun x=>Value.int .i64 x.2)
theorem seenS_nil (v:Value):seenS [] v=none:=rfl
open Classical in
theorem seenS_key (l:List ((Int × Int) × Int)) (k:Int × Int):seenS l (placeS k)=(look l k).map (Value.int .i64):=by
 induction l with
 | nil=>rfl
 | cons x l ih=>
  unfold seenS look at ih ⊢;rw [List.find?_cons,List.find?_cons];by_cases e:x.1=k
  ·rw [e];simp
  ·have h1:¬ placeS k=placeS x.1:=fun q=>e (placeS_inj q).symm
   have h2:(x.1 == k)=false:=by simpa using e
   rw [decide_eq_false h1,h2];exact ih
open Classical in
theorem seenS_push (l:List ((Int × Int) × Int)) (k:Int × Int) (i:Int) (v:Value):seenS ((k,i) :: l) v=updK (seenS l) (placeS k) (.int .i64 i) v:=by
 by_cases e:v=placeS k
 ·subst e;rw [updK_same];unfold seenS;rw [List.find?_cons]
  simp
 ·rw [updK_other e];unfold seenS;rw [List.find?_cons]
  simp [e]
end KU
end Go.Proofs.YtbijfnbelkbofaaGreatDoor
namespace Go.Proofs.YtbijfnbelkbofaaGreatDoor
open Go.RowKit
namespace TS
structure UEnv where
 b:Nat
 S:Nat
 LA:Option Addr
 ln:Nat
 lc:Nat
 ip:FuncId
 cp:Array Value
 ie:FuncId
 ce:Array Value
structure UPos where
 NA:Option Addr
 nc:Nat
 sl:List Sl
def UPos.R (p:UPos) (E:UEnv) (k:Nat):Prop:=k=E.b+6∨k=E.b+7∨k=E.b+9∨blk p.NA=some k∨∃ i,i < p.sl.length∧blk (p.sl.getD i default).at_=some k
def UEnv.vf (E:UEnv):Value:=.func (.func 108) #[] #[.pointer (some ⟨E.b+1,0,none⟩),.pointer (some ⟨E.b+4,0,none⟩),.pointer (some ⟨E.b+8,0,none⟩),.pointer (some ⟨E.b,0,none⟩),.pointer (some ⟨E.b+11,0,none⟩),.pointer (some ⟨E.b+3,0,none⟩),.pointer (some ⟨E.b+10,0,none⟩),.pointer (some ⟨E.b+6,0,none⟩)]
structure UBox (E:UEnv) (w:World):Prop where
 q0:Row w E.b 3 [.int .i64 (E.S:Int)]
 q1:Row w (E.b+1) 24 [.slice E.LA E.ln E.lc]
 q2:Row w (E.b+3) 108 [.func (.func E.ip) #[] E.cp]
 q3:Row w (E.b+4) 110 [.func (.func E.ie) #[] E.ce]
 q7:Row w (E.b+8) 165 [.map (some (E.b+7))]
 q9:Row w (E.b+10) 120 [.map (some (E.b+9))]
 q10:Row w (E.b+11) 166 [E.vf]
def UEnv.fix (E:UEnv) (k:Nat):Prop:=k < E.b+6∨k=E.b+8∨k=E.b+10∨k=E.b+11
def UEnv.cells (E:UEnv) (p:UPos) (n:Nat):List Value:=[.int .i64 (E.S:Int),.slice E.LA E.ln E.lc,.slice p.NA n p.nc]
structure USt (w0:World) (E:UEnv) (p:UPos) (ns:List Nd) (F G:Value→Option Value) (w:World):Prop where
 bel:Below w0.heap.size w0 w
 hb:w0.heap.size≤E.b
 box:UBox E w
 row:Row w (E.b+6) 27 (E.cells p ns.length)
 nown:w.ownsRow (E.b+12) 65 2 (.slice p.NA ns.length p.nc) ns.length (nodesCells ns p.sl)
 sll:p.sl.length=ns.length
 nxt:∀ i,i < ns.length→w.ownsRow (E.b+12) 3 1 (p.sl.getD i default).val (p.sl.getD i default).len (ints (ns.getD i default).next)
 mp:MK w Tryz.prog 9 (E.b+9) F
 ms:MK w Tryz.prog 168 (E.b+7) G
section
variable {w0 w w' w1:World} {E:UEnv} {p p' p1:UPos} {ns:List Nd} {F F' G G':Value→Option Value} {e0:Nat}
theorem UBox.keep (h:UBox E w) (hk:∀ k,E.fix k→k < w.heap.size→w'.heap[k]?=w.heap[k]?):UBox E w':=
 ⟨(hk _ (.inl (by omega)) h.q0.lt).trans h.q0,(hk _ (.inl (by omega)) h.q1.lt).trans h.q1,(hk _ (.inl (by omega)) h.q2.lt).trans h.q2,(hk _ (.inl (by omega)) h.q3.lt).trans h.q3,(hk _ (.inr (.inl rfl)) h.q7.lt).trans h.q7,(hk _ (.inr (.inr (.inl rfl))) h.q9.lt).trans h.q9,(hk _ (.inr (.inr (.inr rfl))) h.q10.lt).trans h.q10⟩
theorem USt.lt (h:USt w0 E p ns F G w) {k:Nat} (hk:p.R E k):E.b+6≤k∧k < w.heap.size:=by
 rcases hk with rfl | rfl | rfl | hk | ⟨i,hi,hk⟩
 ·exact ⟨Nat.le_refl _,h.row.lt⟩
 ·exact ⟨by omega,h.ms.lt⟩
 ·exact ⟨by omega,h.mp.lt⟩
 ·have:=h.nown.lt k (by rw [own_blk];exact hk);exact ⟨by omega,this.2⟩
 ·have:=(h.nxt i (by rw [← h.sll];exact hi)).lt k (by unfold Sl.val;rw [own_blk];exact hk);exact ⟨by omega,this.2⟩
theorem USt.notFix (h:USt w0 E p ns F G w) {k:Nat} (hf:E.fix k):¬ p.R E k:=fun hk=>by
 rcases hk with rfl | rfl | rfl | hk | ⟨i,hi,hk⟩
 ·unfold UEnv.fix at hf;omega
 ·unfold UEnv.fix at hf;omega
 ·unfold UEnv.fix at hf;omega
 ·have:=h.nown.lt k (by rw [own_blk];exact hk);unfold UEnv.fix at hf;omega
 ·have:=(h.nxt i (by rw [← h.sll];exact hi)).lt k (by unfold Sl.val;rw [own_blk];exact hk);unfold UEnv.fix at hf;omega
theorem USt.no8 (h:USt w0 E p ns F G w):No8 (p.R E) w:=by
 intro k hk c fz e
 have key:∀ {T:TypeId} {base sz n:Nat} {v:Value} {xs:List Value},w.ownsRow base T sz v n xs→v.ownBlock=some k→T=5:=fun ho hb=>by
  obtain ⟨cur,hc,_⟩:=own_block_type ho hb;rw [hc] at e;injection e with e;injection e
 have keyM:∀ {K:TypeId} {b:Nat} {f:Value→Option Value},MK w Tryz.prog K b f→b=k→False:=fun hm hb=>by
  subst hb;obtain ⟨es,clock,hb,_⟩:=hm;rw [hb] at e;cases e
 rcases hk with q | q | q | hk | ⟨i,hi,hk⟩
 ·subst q;have:=h.row;unfold Row at this;rw [this] at e;injection e with e;injection e with _ e;exact absurd e (by decide)
 ·exact keyM h.ms q.symm
 ·exact keyM h.mp q.symm
 ·exact absurd (key h.nown (by rw [own_blk];exact hk)) (by decide)
 ·exact absurd (key (h.nxt i (by rw [← h.sll];exact hi)) (by unfold Sl.val;rw [own_blk];exact hk)) (by decide)
theorem USt.same (h:USt w0 E p ns F G w) (hb:Below w0.heap.size w0 w') (hf:∀ k,E.fix k→k < w.heap.size→w'.heap[k]?=w.heap[k]?) (hk:∀ k,p.R E k→w'.heap[k]?=w.heap[k]?):USt w0 E p ns F G w':=
 ⟨hb,h.hb,h.box.keep hf,(hk _ (.inl rfl)).trans h.row,own_same h.nown (fun k q=>hk k (.inr (.inr (.inr (.inl (by rw [← own_blk];exact q)))))),h.sll,
  fun i hi=>own_same (h.nxt i hi) (fun k q=>hk k (.inr (.inr (.inr (.inr ⟨i,by rw [h.sll];exact hi,by rw [← own_blk];exact q⟩))))),h.mp.block (hk _ (.inr (.inr (.inl rfl)))),h.ms.block (hk _ (.inr (.inl rfl)))⟩
theorem USt.far {S:Nat→Prop} (h:USt w0 E p ns F G w) (k:Kept S w w') (h0:∀ i,S i→E.b+12≤i) (hS:∀ i,S i→¬ p.R E i):USt w0 E p ns F G w':=
 h.same (h.bel.trans (k.below (fun i hi=>by have:=h0 i hi;have:=h.hb;omega) h.bel.size)) (fun i hf hi=>k.block i hi (fun hs=>by have:=h0 i hs;unfold UEnv.fix at hf;omega)) (fun i hi=>k.block i (h.lt hi).2 (fun e=>hS i e hi))
theorem USt.below (h:USt w0 E p ns F G w) (hb:Below w.heap.size w w'):USt w0 E p ns F G w':=h.same (h.bel.trans (hb.mono h.bel.size)) (fun k _ hk=>hb.block k hk) (fun k hk=>hb.block k (h.lt hk).2)
theorem USt.u8 (h:USt w0 E p ns F G w) (hk:Kept (U8 w e0) w w') (h0:E.b+12≤e0):USt w0 E p ns F G w':=
 h.far hk (fun i hi=>Nat.le_trans h0 hi.1) (fun i hi hr=>by
  rcases hi.2 with h1 | ⟨c,fz,h1⟩
  ·have:=(h.lt hr).2;omega
  ·exact h.no8 i hr c fz h1)
theorem USt.b11 (h:USt w0 E p ns F G w):E.b+12≤w.heap.size:=h.box.q10.lt
theorem USt.ne (h:USt w0 E p ns F G w):(∀ k,blk p.NA=some k→E.b+12≤k)∧∀ i,i < ns.length→∀ k,blk (p.sl.getD i default).at_=some k→E.b+12≤k∧blk p.NA≠some k:=by
 refine ⟨fun k hk=>(h.nown.lt k (by rw [own_blk];exact hk)).1,fun i hi k hk=>⟨((h.nxt i hi).lt k (by unfold Sl.val;rw [own_blk];exact hk)).1,fun h1=>?_⟩⟩;obtain ⟨c1,q1,_⟩:=own_block_type h.nown (k:=k) (by rw [own_blk];exact h1);obtain ⟨c2,q2,_⟩:=own_block_type (h.nxt i hi) (k:=k) (by unfold Sl.val;rw [own_blk];exact hk);rw [q1] at q2;injection q2 with q2;injection q2 with _ q2;exact absurd q2 (by decide)
theorem USt.mapBoth {b:Nat} (h:USt w0 E p ns F G w) (hbm:b=E.b+9∨b=E.b+7) (hg:w.grownBy w' (some b)) (hm:MK w' Tryz.prog 9 (E.b+9) F') (hs:MK w' Tryz.prog 168 (E.b+7) G'):USt w0 E p ns F' G' w'∧Mv (p.R E) w (p.R E) w':=by
 obtain ⟨e1,e2⟩:=h.ne
 have hbR:p.R E b:=by
  rcases hbm with q | q
  ·exact .inr (.inr (.inl q))
  ·exact .inr (.inl q)
 have hK:Kept (p.R E) w w':=Kept.grown (Kept.refl _ _) hg (fun k hk=>.inl (by injection hk with hk;rw [← hk];exact hbR));have hold:∀ k,k < w.heap.size→k≠b→w'.heap[k]?=w.heap[k]?:=fun k hk h1=>hg.block k hk (fun q=>by injection q with q;exact h1 q)
 exact ⟨⟨h.bel.trans (hK.below (fun k hk=>by have:=(h.lt hk).1;have:=h.hb;omega) h.bel.size),h.hb,h.box.keep (fun k hf hk=>hold k hk (by unfold UEnv.fix at hf;omega)),(hold _ h.row.lt (by omega)).trans h.row,own_same h.nown (fun k hk=>hold k (own_lt h.nown k hk) (by have:=e1 k (by rw [← own_blk];exact hk);omega)),
  h.sll,fun i hi=>own_same (h.nxt i hi) (fun k hk=>hold k (own_lt (h.nxt i hi) k hk) (by have:=(e2 i hi k (by rw [← own_blk];exact hk)).1;omega)),hm,hs⟩,⟨hK,fun _ _ h=>h⟩⟩
theorem USt.mapUp (h:USt w0 E p ns F G w) (hg:w.grownBy w' (some (E.b+9))) (hm:MK w' Tryz.prog 9 (E.b+9) F'):USt w0 E p ns F' G w'∧Mv (p.R E) w (p.R E) w':=
 h.mapBoth (.inl rfl) hg hm (h.ms.kept hg (by intro q;injection q with q;omega))
theorem USt.seenUp (h:USt w0 E p ns F G w) (hg:w.grownBy w' (some (E.b+7))) (hm:MK w' Tryz.prog 168 (E.b+7) G'):USt w0 E p ns F G' w'∧Mv (p.R E) w (p.R E) w':=
 h.mapBoth (.inr rfl) hg (h.mp.kept hg (by intro q;injection q with q;omega)) hm
theorem USt.congrF (h:USt w0 E p ns F G w) (hf:∀ v,F' v=F v):USt w0 E p ns F' G w:=by
 obtain rfl:F'=F:=funext hf;exact h
theorem USt.congrG (h:USt w0 E p ns F G w) (hf:∀ v,G' v=G v):USt w0 E p ns F G' w:=by
 obtain rfl:G'=G:=funext hf;exact h
theorem USt.pushN {NA:Option Addr} {nc:Nat} {x:Nd} {s:Sl} (h:USt w0 E p ns F G w) (hn:∀ k,blk NA=some k→blk p.NA=some k∨w.heap.size≤k) (hg:w.grownBy w' (blk p.NA)) (ho:w'.ownsRow (E.b+12) 65 2 (.slice NA (ns.length+1) nc) (ns.length+1) (nodesCells ns p.sl ++ [.int .i64 x.level,s.val]))
 (hs:w.ownsRow (E.b+12) 3 1 s.val s.len (ints x.next)) (hf:∀ k,blk s.at_=some k→¬ p.R E k):
 USt w0 E { p with NA:=NA,nc:=nc,sl:=p.sl ++ [s] } (ns ++ [x]) F G (w'.setCell ⟨E.b+6,2,none⟩ (.slice NA (ns.length+1) nc))∧Row w' (E.b+6) 27 (E.cells p ns.length) ∧
  Kept (p.R E) w (w'.setCell ⟨E.b+6,2,none⟩ (.slice NA (ns.length+1) nc))∧∀ k,k < w.heap.size→({ p with NA:=NA,nc:=nc,sl:=p.sl ++ [s] }:UPos).R E k→p.R E k∨blk s.at_=some k:=by
 obtain ⟨e1,e2⟩:=h.ne;have hrow:Row w' (E.b+6) 27 (E.cells p ns.length):=h.row.grown hg (fun q=>by have:=e1 _ q.symm;omega);have hK:Kept (p.R E) w w':=Kept.grown (Kept.refl _ _) hg (fun k hk=>.inl (.inr (.inr (.inr (.inl hk)))));have hK2:Kept (p.R E) w (w'.setCell ⟨E.b+6,2,none⟩ (.slice NA (ns.length+1) nc)):=hK.set (p:=⟨E.b+6,2,none⟩) (.inl (.inl rfl)) _
 have hold:∀ k,k < w.heap.size→k≠E.b+6→blk p.NA≠some k→(w'.setCell ⟨E.b+6,2,none⟩ (.slice NA (ns.length+1) nc)).heap[k]?=w.heap[k]?:=fun k hk h1 h2=>
  (Below.heap_setCell w' ⟨E.b+6,2,none⟩ _ k h1).trans (hg.block k hk (fun q=>h2 q.symm))
 have hget:∀ i,i < ns.length→(p.sl ++ [s]).getD i default=p.sl.getD i default:=fun i hi=>gsl_old p.sl s i (by rw [h.sll];exact hi)
 have hgl:(p.sl ++ [s]).getD ns.length default=s:=by rw [← h.sll];exact gsl_snoc p.sl s
 have hnd:∀ i,i < ns.length→(ns ++ [x]).getD i default=ns.getD i default:=fun i hi=>by
  simp only [List.getD_eq_getElem?_getD];rw [List.getElem?_append_left hi]
 have hnl:(ns ++ [x]).getD ns.length default=x:=by simp [List.getD_eq_getElem?_getD]
 have hlen:(ns ++ [x]).length=ns.length+1:=by simp
 refine ⟨⟨h.bel.trans (hK2.below (fun k hk=>by have:=(h.lt hk).1;have:=h.hb;omega) h.bel.size),h.hb,h.box.keep (fun k hf2 hk=>hold k hk (by unfold UEnv.fix at hf2;omega) (fun q=>by have:=e1 k q;unfold UEnv.fix at hf2;omega)),?_,?_,by simp [h.sll],fun i hi=>?_,h.mp.block (hold _ h.mp.lt (by omega) (fun q=>by have:=e1 _ q;omega)),h.ms.block (hold _ h.ms.lt (by omega) (fun q=>by have:=e1 _ q;omega))⟩,hrow,hK2,fun k hk hr=>?_⟩
 ·rw [hlen];exact hrow.set 2 _
 ·rw [hlen,nodesCells_snoc _ _ _ _ h.sll];exact own_set (p:=⟨E.b+6,2,none⟩) ho hrow (by decide) _
 ·rw [hlen] at hi;show World.ownsRow _ _ _ _ ((p.sl ++ [s]).getD i default).val ((p.sl ++ [s]).getD i default).len _;rcases Nat.lt_or_ge i ns.length with hl | hl
  ·rw [hget i hl,hnd i hl]
   exact own_same (h.nxt i hl) (fun k hk=>by
    have hb:blk (p.sl.getD i default).at_=some k:=by rw [← own_blk];exact hk
    exact hold k (own_lt (h.nxt i hl) k hk) (by have:=(e2 i hl k hb).1;omega) (e2 i hl k hb).2)
  ·obtain rfl:i=ns.length:=by omega
   rw [hgl,hnl]
   exact own_same hs (fun k hk=>by
    have hb:blk s.at_=some k:=by rw [← own_blk];exact hk
    exact hold k (own_lt hs k hk) (fun q=>hf k hb (.inl q)) (fun q=>hf k hb (.inr (.inr (.inr (.inl q))))))
 ·rcases hr with rfl | rfl | rfl | q | ⟨i,hi,q⟩
  ·exact .inl (.inl rfl)
  ·exact .inl (.inr (.inl rfl))
  ·exact .inl (.inr (.inr (.inl rfl)))
  ·rcases hn k q with q2 | q2
   ·exact .inl (.inr (.inr (.inr (.inl q2))))
   ·omega
  ·change i < (p.sl ++ [s]).length at hi;change blk ((p.sl ++ [s]).getD i default).at_=some k at q;rw [List.length_append,List.length_singleton,h.sll] at hi;rcases Nat.lt_or_ge i ns.length with hl | hl
   ·rw [hget i hl] at q;exact .inl (.inr (.inr (.inr (.inr ⟨i,by rw [h.sll];exact hl,q⟩))))
   ·obtain rfl:i=ns.length:=by omega
    rw [hgl] at q;exact .inr q
end
end TS
end Go.Proofs.YtbijfnbelkbofaaGreatDoor
