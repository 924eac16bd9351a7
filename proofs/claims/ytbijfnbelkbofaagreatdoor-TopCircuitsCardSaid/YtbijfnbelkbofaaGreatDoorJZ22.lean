/-
  Lemmas for the law TopCircuits.
-/
import Derived.Test.YtbijfnbelkbofaaGreatDoorJZ1
import Derived.Test.YtbijfnbelkbofaaGreatDoorJZ18
import Derived.Test.YtbijfnbelkbofaaGreatDoorJZ19
import Derived.Test.YtbijfnbelkbofaaGreatDoorJZ21
import Derived.Deep.RegionHeld3
import Derived.StillTailTactics
import Derived.Deep.Cut
import Derived.Test.YtbijfnbelkbofaaGreatDoorJZ20
import Derived.Lib.AtoiAllCases
import Derived.OwnWalk
import Derived.BigQuiet
set_option linter.unusedSimpArgs false
set_option linter.unusedVariables false
namespace Go.Proofs.YtbijfnbelkbofaaGreatDoor
open Go.RowKit Go.Maps
theorem tab_up {P:Program} {B e0:Nat} {w w1:World} {name:String} {k:IntKind} {zs:List Int} (h:Lib.TabBelow P B w name k zs) (hb:Below B w w1) (he:B≤e0):Lib.TabBelow P e0 w1 name k zs:=fun w' h'=>h w' (hb.trans (h'.mono he))
theorem blk_or {A A':Option Addr} {n c n' c' S:Nat} (h:(Value.slice A' n' c').ownBlock=(Value.slice A n c).ownBlock∨(Value.slice A' n' c').ownBlock=some S):∀ k,blk A'=some k→blk A=some k∨S≤k:=fun k hk=>by
 rw [own_blk,own_blk] at h;rcases h with h | h
 ·exact .inl (h ▸ hk)
 ·rw [h] at hk;injection hk with hk;exact .inr (by omega)
theorem len_ok {S:Nat} {ns:List Nd} {j L c:Nat} {q:List Int × List Nd} (h:KT.LRes S ns j q (S ^ L)) (hj:j < S) (hs:ns.length+S ^ (L+1)≤c):q.2.length+S ^ L≤c:=by
 have h1:=h.len;have h2:(j+1) * S ^ L≤S * S ^ L:=Nat.mul_le_mul_right _ hj;rw [Nat.add_mul,Nat.one_mul] at h2;have h3:S ^ (L+1)=S * S ^ L:=by rw [Nat.pow_succ,Nat.mul_comm]
 rw [h3] at hs;generalize S * S ^ L=u at *;generalize j * S ^ L=v at *;generalize S ^ L=x at *;omega
theorem own_cap {w:World} {base sz n n' c:Nat} {e:TypeId} {A:Option Addr} {xs:List Value} (h:w.ownsRow base e sz (.slice A n' c) n xs):n≤c:=by
 rcases h.2 with ⟨e1,e2⟩ | ⟨g,cap,cur,e1,_,_,hn,_⟩
 ·omega
 ·injection e1 with _ _ e3;omega
theorem u8_infoK:(Tryz.prog.info? 5).map (fun i=>(i.zero,i.size,i.bytes))=some (some (.int .u8 0),1,1):=by kernel_rfl
theorem size_intK (w:World):(Go.sizeOf 3).run Tryz.prog w=.ok 1 w:=by kernel_rfl
theorem node_infoK:(Tryz.prog.info? 65).map (fun i=>(i.zero,i.size,i.bytes))=some (some (.agg #[.int .i64 0,.slice none 0 0]),2,32):=by kernel_rfl
theorem nd_oneK (a:Int) (A:Option Addr) (n c:Nat):∀ u ∈ [Value.int .i64 a,Value.slice A n c],u.oneCell'=true:=by
 intro u hu;simp only [List.mem_cons,List.not_mem_nil,or_false] at hu;rcases hu with rfl | rfl <;> rfl
theorem len_end {S:Nat} {ns:List Nd} {L c:Nat} {q:List Int × List Nd} (h:KT.LRes S ns S q (S ^ L)) (hs:ns.length+S ^ (L+1)≤c):q.2.length≤c:=by
 have h1:=h.len;have h3:S ^ (L+1)=S * S ^ L:=by rw [Nat.pow_succ,Nat.mul_comm]
 rw [h3] at hs;generalize S * S ^ L=u at *;omega
theorem string_keyedK:Maps.Keyed Tryz.prog 9:=Maps.string_keyed Tryz.underlying9
structure BHyp (w0:World) (E:BEnv) (val:List Int→Int) (H:Nat):Prop where
 s2:2≤E.S
 s8:E.S≤8
 hn:E.hn=H
 h25:H≤25
 rng:∀ ins:List Int,ins.length=H→(∀ s ∈ ins,0≤s∧s < (E.S:Int))→0≤val ins∧val ins < E.S
 call:∀ (ins:List Int) (IA:Option Addr) (ic:Nat) (w:World),ins.length=H→(∀ s ∈ ins,0≤s∧s < (E.S:Int))→Below w0.heap.size w0 w→Rd w w.heap.size 1 IA H (ints ins) →
  Calls Tryz.prog 70 #[.slice IA H ic,.pointer (some ⟨E.tb,0,none⟩)] w fun e w'=>e=.returned (.int .i64 (val ins))∧Below w.heap.size w w'
 tab : Lib.TabBelow Tryz.prog w0.heap.size w0 "internal/strconv.uint64pow10" .u64 Lib.pow10Tab
structure BPost (w0:World) (E:BEnv) (p:BPos) (ins:List Int) (r:Int × List Nd) (w:World) (e:Ending) (w':World):Prop where
 out:∃ p',e=.returned (.int .i64 r.1)∧BSt w0 E p' ins r.2 (KT.idsF r.2) w'∧BMove E p w p' w'
set_option maxRecDepth 100000 in
set_option maxHeartbeats 4000000 in
theorem build_zero (w0:World) (E:BEnv) (val:List Int→Int) (H:Nat) (hx:BHyp w0 E val H) (ins:List Int) (ns:List Nd) (p:BPos) (w:World) (hl:ins.length=H) (hi:∀ s ∈ ins,0≤s∧s < (E.S:Int)) (h:BSt w0 E p ins ns (KT.idsF ns) w):
 Calls Tryz.prog 122 #[.pointer (some ⟨E.bb,0,none⟩)] w (BPost w0 E p ins (KT.buildK E.S val 0 ins ns) w):=by
 have HX:=hiD hx;have HI:=hiD hi;have HB:=hiD h;have h25:=hx.h25;have hnH:=hx.hn;clear hx hi h;obtain ⟨bb,mb,tb,S,HA,hn,hc⟩:=E;dsimp only at hnH;subst hnH;obtain ⟨NA,nc,sl,IA,ic⟩:=p;have kR:=HB.out.row;dsimp only [BEnv.cells,BEnv.fv] at kR;have k0:=kR.cell 0;have k1:=kR.cell 1;have k2:=kR.cell 2;have k3:=kR.cell 3;have k4:=kR.cell 4;have k5:=kR.cell 5;have kl:=kR.lt;clear kR;simp only [List.getElem?_cons_zero,List.getElem?_cons_succ] at k0 k1 k2 k3 k4 k5;have HO:Hid (Rd w w.heap.size 1 IA hn (ints ins)):=hl ▸ Rd.of_own HB.out.iown
 rw [hl] at k4;have HC:=hiD (fun W (hb:Below w.heap.size w W)=>HX.out.call ins IA ic W hl HI.out (HB.out.bel.trans (hb.mono HB.out.bel.size)) (HO.out.up hb));have hw:IntKind.i64.wrap ((hn:Int) - (hn:Int))=0:=by rw [Int.sub_self];rfl
 go_enter Tryz.func122,Tryz.ntmps122;go_wp2_with fail;go_quiet (fail)
 have HS:∀ w',Below w.heap.size w w'→w'.cell? ⟨bb,4,none⟩=some (.slice IA hn ic)∧w'.cell? ⟨bb,5,none⟩=some (.func (.func 70) #[] #[.pointer (some ⟨tb,0,none⟩)]):=fun w' hb=>⟨(hb.cell (p:=⟨bb,4,none⟩) kl).trans k4,(hb.cell (p:=⟨bb,5,none⟩) kl).trans k5⟩
 go_wp2_with fail
 have HK0:Hid (Below w.heap.size w (w.drewN nq).drew):=((below_drewN (Below.refl _ _) nq).drew)
 clear k0 k1 k2 k3 k4 k5 kl
 go_region_held3 (fun w'=>w'.cell? ⟨bb,4,none⟩=some (.slice IA hn ic)∧w'.cell? ⟨bb,5,none⟩=some (.func (.func 70) #[] #[.pointer (some ⟨tb,0,none⟩)])) (first | exact HS _ HN.out | exact HS _ HK0.out) ((
  go_at_call 70
  refine (HC.out _ (by exact HK0.out)).mono ?_;rintro e w7 ⟨rfl,hb7⟩
  have HN:=(show Hid (Below w.heap.size w w7) from below_on2 HK0.out hb7)))
 go_wp2_with fail;go_ret;exact ⟨⟨⟨NA,nc,sl,IA,ic⟩,rfl,HB.out.below HN.out,BMove.below _ _ HN.out⟩⟩
def loopQ (S:Nat) (val:List Int→Int) (L:Nat) (ins:List Int) (ns:List Nd) (j:Nat):List Int × List Nd:=KT.loopB (fun s ns=>KT.buildK S val L (ins ++ [s]) ns) j 0 [] ns
theorem loopQ_succ (S:Nat) (val:List Int→Int) (L:Nat) (ins:List Int) (ns:List Nd) (j:Nat):loopQ S val L ins ns (j+1)=((loopQ S val L ins ns j).1 ++ [(KT.buildK S val L (ins ++ [(j:Int)]) (loopQ S val L ins ns j).2).1],(KT.buildK S val L (ins ++ [(j:Int)]) (loopQ S val L ins ns j).2).2):=by
 unfold loopQ;rw [KT.loopB_succ,Nat.zero_add]
theorem loopQ_end (S:Nat) (val:List Int→Int) (L:Nat) (ins:List Int) (ns:List Nd):KT.buildK S val (L+1) ins ns=KT.endB ((L:Int)+1) (loopQ S val L ins ns S):=rfl
theorem loopQ_res {S H:Nat} {val:List Int→Int} (hS:2≤S) (hval:∀ ins:List Int,ins.length=H→(∀ s ∈ ins,0≤s∧s < (S:Int))→0≤val ins∧val ins < S) {L:Nat} {ins:List Int} {ns:List Nd} (hl:L+1+ins.length=H) (hi:∀ s ∈ ins,0≤s∧s < (S:Int)) (hn:KT.WOk S ns) {j:Nat} (hj:j≤S):
 KT.LRes S ns j (loopQ S val L ins ns j) (S ^ L):=
 KT.loop_res (fun s ns' hs hn'=>KT.buildK_res hS hval L (ins ++ [(s:Int)]) ns' (by simp;omega) (KT.inS hi hs) hn') hn j hj
theorem keyS_nil (lev:Int):KT.keyS lev []=Lib.itoa lev:=by simp [KT.keyS,KT.keyR]
theorem keyS_snoc (lev:Int) (l:List Int) (k:Int):KT.keyS lev (l ++ [k])=KT.keyS lev l ++ [32] ++ Lib.itoa k:=by simp [KT.keyS,KT.keyR]
structure BLoop (w0:World) (E:BEnv) (p:BPos) (ins:List Int) (w:World) (e0 xb:Nat) (lev:Int) (q:List Int × List Nd) (p1:BPos) (KA XA:Option Addr) (kc xc:Nat) (wr:World):Prop where
 b:BSt w0 E p1 ins q.2 (KT.idsF q.2) wr
 m:BMove E p w p1 wr
 x:XSt E p1 e0 xb lev XA xc q.1 wr
 k:KSt E p1 e0 KA kc (KT.keyS lev q.1) wr
 e1:e0≤wr.heap.size
 e0:w.heap.size≤e0
 kl:(KT.keyS lev q.1).length≤21+22 * q.1.length
set_option maxRecDepth 100000 in
set_option maxHeartbeats 4000000 in
theorem build_succ (w0:World) (E:BEnv) (val:List Int→Int) (H:Nat) (hx:BHyp w0 E val H) (L:Nat)
 (IH:∀ (ins:List Int) (ns:List Nd) (p:BPos) (w:World),L+ins.length=H→(∀ s ∈ ins,0≤s∧s < (E.S:Int))→KT.WOk E.S ns→ns.length+E.S ^ L≤70000→BSt w0 E p ins ns (KT.idsF ns) w→Calls Tryz.prog 122 #[.pointer (some ⟨E.bb,0,none⟩)] w (BPost w0 E p ins (KT.buildK E.S val L ins ns) w))
 (ins:List Int) (ns:List Nd) (p:BPos) (w:World) (hl:L+1+ins.length=H) (hi:∀ s ∈ ins,0≤s∧s < (E.S:Int)) (hn:KT.WOk E.S ns) (hs:ns.length+E.S ^ (L+1)≤70000) (h:BSt w0 E p ins ns (KT.idsF ns) w):
 Calls Tryz.prog 122 #[.pointer (some ⟨E.bb,0,none⟩)] w (BPost w0 E p ins (KT.buildK E.S val (L+1) ins ns) w):=by
 have HX:=hiD hx;have HI:=hiD hi;have HB:=hiD h;have HN:=hiD hn;have HS:=hiD hs;have HIH:=hiD IH;have HWB:Hid (w0.heap.size≤w.heap.size):=h.bel.size;have h25:=hx.h25;have hnH:=hx.hn;clear hx hi h hn hs IH;obtain ⟨bb,mb,tb,S,HA,hn,hc⟩:=E;dsimp only at hnH;subst hnH;have kR:=HB.out.row;dsimp only [BEnv.cells,BEnv.fv] at kR;have k0:=kR.cell 0;have k1:=kR.cell 1;have k2:=kR.cell 2;have k3:=kR.cell 3;have k4:=kR.cell 4;have k5:=kR.cell 5;have kl:=kR.lt;clear kR;simp only [List.getElem?_cons_zero,List.getElem?_cons_succ] at k0 k1 k2 k3 k4 k5;have hw:IntKind.i64.wrap ((hn:Int) - (ins.length:Int))=(L:Int)+1:=by rw [IntWalk.i64_in _ (by omega)];omega
 have hz:((L:Int)+1 == 0)=false:=by simp;omega
 go_enter Tryz.func122,Tryz.ntmps122;go_wp2_with fail;go_quiet (fail);have HB1:=hiD (HB.out.below (below_drewN (Below.refl _ _) nq));have HM1:=hiD (BMove.below ⟨bb,mb,tb,S,HA,hn,hc⟩ p (below_drewN (Below.refl w.heap.size w) nq));clear k0 k1 k2 k3 k4 k5 kl;clear HB;revert HB1 HM1;generalize w.drewN nq=w1;intro HB1 HM1;go_upto_region 5 with fail
 have HM2:=(show Hid (BMove ⟨bb,mb,tb,S,HA,hn,hc⟩ p w p (w1.alloc (.cells #[.int .i64 ((L:Int)+1),.slice none 0 0] 65))) from HM1.out.trans (BMove.below _ _ ((Below.refl _ _).alloc (Nat.le_refl _) _)))
 have HB2:=hiD (HB1.out.below ((Below.refl w1.heap.size w1).alloc (Nat.le_refl _) (.cells #[.int .i64 ((L:Int)+1),.slice none 0 0] 65)))
 have HX2:Hid (XSt ⟨bb,mb,tb,S,HA,hn,hc⟩ p w1.heap.size w1.heap.size ((L:Int)+1) none 0 [] (w1.alloc (.cells #[.int .i64 ((L:Int)+1),.slice none 0 0] 65))):=
  hiD ⟨Row.new w1 _ [.int .i64 ((L:Int)+1),.slice none 0 0],World.ownsRow_nil _ _ _ _,Nat.le_refl _,fun hr=>by have:=(HB1.out.lt hr).2;omega,fun k hk=>by cases hk⟩
 have HE0:Hid (w.heap.size≤w1.heap.size):=HM1.out.kept.size;have HE1:Hid (w1.heap.size≤(w1.alloc (.cells #[.int .i64 ((L:Int)+1),.slice none 0 0] 65)).heap.size):=by show _≤_;simp
 clear HB1 HM1;revert HB2 HX2 HM2 HE0 HE1;generalize w1.alloc (.cells #[.int .i64 ((L:Int)+1),.slice none 0 0] 65)=w2;generalize w1.heap.size=e0;intro HM2 HB2 HX2 HE0 HE1;have HE9:Hid (w0.heap.size≤e0):=hiD (Nat.le_trans HWB.out HE0.out);have HC:=hiD (appendInt_any e0 0 ((L:Int)+1) (by omega) (by omega) (.slice none 0 0) [] w2 (World.ownsRow_nil _ _ _ _) HE1.out (by decide) (tab_up HX.out.tab HB2.out.bel HE9.out));go_wp2_with fail;refine HC.out.mono ?_;rintro e w3 ⟨v',rfl,hown,hb3,ho3⟩;rw [Nat.zero_add,List.nil_append,← keyS_nil] at hown;obtain ⟨KA,kc,rfl,_⟩:=Rd.own hown;have hk3:=kept_u8 hb3 ho3;have HL0:Hid (BLoop w0 ⟨bb,mb,tb,S,HA,hn,hc⟩ p ins w e0 e0 ((L:Int)+1) (loopQ S val L ins ns 0) p KA none kc 0 w3):=hiD ⟨HB2.out.u8 hk3 HE9.out,HM2.out.u8 hk3 HE0.out,HX2.out.u8 hk3,⟨hown⟩,Nat.le_trans HE1.out hb3.size,HE0.out,by show (KT.keyS _ []).length≤_;rw [keyS_nil];exact Nat.le_trans (Lib.itoa_length_le _ (by omega) (by omega)) (by omega)⟩;clear HB2 HX2 HM2 hown hb3 ho3 hk3 HC;have HB3:=hiD HL0.out.b;have kR:=HB3.out.row;dsimp only [BEnv.cells,BEnv.fv] at kR;have k0:=kR.cell 0;have k1:=kR.cell 1;have k2:=kR.cell 2;have k3:=kR.cell 3;have k4:=kR.cell 4;have k5:=kR.cell 5;have kl:=kR.lt;clear kR;simp only [List.getElem?_cons_zero,List.getElem?_cons_succ] at k0 k1 k2 k3 k4 k5;go_wp2;clear HB3;clear k0 k1 k2 k3 k4 k5 kl
 go_loopg [5,6,7,42] S (fun gg s5 _ _ s42 wr=>∃ (j:Nat) (p1:BPos) (KA XA:Option Addr) (kc xc:Nat),j≤S∧S - j≤gg∧s42=.int .i64 (j:Int)∧s5=.slice KA (KT.keyS ((L:Int)+1) (loopQ S val L ins ns j).1).length kc∧Aside (BLoop w0 ⟨bb,mb,tb,S,HA,hn,hc⟩ p ins w e0 e0 ((L:Int)+1) (loopQ S val L ins ns j) p1 KA XA kc xc wr))
 case atStart=>exact ⟨0,p,KA,none,kc,0,Nat.zero_le _,by omega,rfl,rfl,HL0.out⟩
 case round=>
  obtain ⟨j,p1,KA,XA,kc,xc,hj,hgg,rfl,rfl,hv⟩:=hrel;have HV:=hiD hv.out;clear hv HL0;by_cases hlt:j < S
  ·have hltz:(j:Int) < (S:Int):=by omega
   have hs8:S≤8:=HX.out.s8;have HRES:=hiD (loopQ_res HX.out.s2 HX.out.rng hl HI.out HN.out (Nat.le_of_lt hlt));have HQS:=hiD (loopQ_succ S val L ins ns j);have HIN:=hiD (KT.inS HI.out hlt);revert HV HRES HQS;generalize loopQ S val L ins ns j=q;obtain ⟨next,n1⟩:=q;intro HV HRES HQS;dsimp only at HV HRES HQS;obtain ⟨NA,nc,sl,IA,ic⟩:=p1;have HBr:=hiD HV.out.b;have HKL:=hiD HV.out.kl;have hwr0:w0.heap.size≤wr.heap.size:=HBr.out.bel.size;have kR:=HBr.out.row;dsimp only [BEnv.cells,BEnv.fv] at kR;have k0:=kR.cell 0;have k1:=kR.cell 1;have k2:=kR.cell 2;have k3:=kR.cell 3;have k4:=kR.cell 4;have k5:=kR.cell 5;have kl:=kR.lt;clear kR;simp only [List.getElem?_cons_zero,List.getElem?_cons_succ] at k0 k1 k2 k3 k4 k5
   go_wp2_with (at_builtin;refine wpList_app rfl (.tmp 49) (.tmp 51) 22 rfl w0.heap.size 3 (.int .i64 0) 1 8 Tryz.underlying22 int_infoK rfl (by decide) (by decide) (.slice IA ins.length ic) (ins.length) (ints ins) rfl ?own (wr.heap.size+1) (some ⟨wr.heap.size,0,none⟩) 1 1 [.int .i64 (j:Int)] rfl ?rd ?one ?hb ?hbase ?_)
   case own=>exact (HBr.out.iown).alloc _
   case rd=>exact Rd.lit wr #[.int .i64 (j:Int)] 3 (sz:=1) (m:=1) rfl
   case one=>first | (intro u hu;simp at hu;subst hu;rfl) | rfl
   case hb=>omega
   case hbase=>first | (simp;omega) | omega
   intro v' w' hown' hgrow' hat';obtain ⟨IA2,ic2,rfl,_⟩:=Rd.own hown';have hlen:(ins ++ [(j:Int)]).length=ins.length+1:=by simp
   have hcat:ints ins ++ [Value.int .i64 (j:Int)]=ints (ins ++ [(j:Int)]):=by simp [ints]
   rw [hcat,← hlen] at hown';rw [own_blk] at hgrow';have HBa:=hiD (HBr.out.below ((Below.refl wr.heap.size wr).alloc (Nat.le_refl _) (.cells #[.int .i64 (j:Int)] 3)));obtain ⟨hb3,hm3,hrow3⟩:=HBa.out.setIn (IA:=IA2) (ic:=ic2) (ins':=ins ++ [(j:Int)]) (fun k hk=>by have:=blk_or hat' k hk;simpa using this) hgrow' hown';rw [hlen] at hb3 hm3;have HB4:=hiD hb3;have HM4:=hiD ((BMove.below ⟨bb,mb,tb,S,HA,hn,hc⟩ ⟨NA,nc,sl,IA,ic⟩ ((Below.refl wr.heap.size wr).alloc (Nat.le_refl _) (.cells #[.int .i64 (j:Int)] 3))).trans hm3);have HX4:=hiD (HV.out.x.move HM4.out);have HK4:=hiD (HV.out.k.move HBr.out HM4.out);have HM5:=hiD (HV.out.m.trans HM4.out);have z4:=hrow3.frozen 4;have zl:=hrow3.lt;have zc:=hrow3.cell 4;dsimp only [BEnv.cells] at zc;simp only [List.getElem?_cons_zero,List.getElem?_cons_succ] at zc;dsimp only at z4 zl;clear HBa hb3 hm3 hrow3 hown' hgrow' hat' hcat HV HM4;clear k0 k1 k2 k3 k4 k5 kl;go_upto_region 10 with fail
   try dsimp only at HB4 HX4 HK4 HM5
   clear z4 zl zc;revert HB4 HX4 HK4 HM5;generalize w'.setCell ⟨bb,4,none⟩ (.slice IA2 (ins.length+1) ic2)=w4;intro HB4 HX4 HK4 HM5;have HL4:Hid (n1.length+S ^ L≤70000):=len_ok HRES.out hlt HS.out;have HC:=hiD (HIH.out (ins ++ [(j:Int)]) n1 _ w4 (by rw [hlen];omega) HIN.out HRES.out.ok HL4.out HB4.out);have HRB:=hiD (KT.buildK_res HX.out.s2 HX.out.rng L (ins ++ [(j:Int)]) n1 (by rw [hlen];omega) HIN.out HRES.out.ok);revert HQS HC HRB;generalize KT.buildK S val L (ins ++ [(j:Int)]) n1=r;obtain ⟨k,n2⟩:=r;intro HQS HC HRB;dsimp only at HQS HRB;go_wp2_with fail;refine HC.out.mono ?_;rintro e w5 ⟨p2,rfl,hb5,hm5⟩;dsimp only at hb5;have HB5:=hiD hb5;have HX5:=hiD (HX4.out.move hm5);have HK5:=hiD (HK4.out.move HB4.out hm5);have HM6:=hiD (HM5.out.trans hm5);clear HC hb5 hm5 HX4 HK4 HM5 HB4;obtain ⟨NA,nc,sl,IA,ic⟩:=p2;have kR:=HB5.out.row;dsimp only [BEnv.cells,BEnv.fv] at kR;have k0:=kR.cell 0;have k1:=kR.cell 1;have k2:=kR.cell 2;have k3:=kR.cell 3;have k4:=kR.cell 4;have k5:=kR.cell 5;have kl:=kR.lt;clear kR;simp only [List.getElem?_cons_zero,List.getElem?_cons_succ] at k0 k1 k2 k3 k4 k5;rw [hlen] at k4;have k4f:=HB5.out.row.frozen 4;obtain ⟨gi,capi,hvi,_,_⟩:=HB5.out.iown.form (by rw [hlen];omega);injection hvi with hvi _ hvi3;dsimp only at hvi hvi3;subst hvi hvi3;have hic:ins.length+1≤ic:=own_cap (hlen ▸ HB5.out.iown);have hw2:IntKind.i64.wrap ((ins.length:Int)+1 - 1)=(ins.length:Int):=by rw [IntWalk.i64_in _ (by omega)];omega
   have hw3:IntKind.i64.wrap (ins.length:Int)=(ins.length:Int):=IntWalk.i64_in _ (by omega);have hc1:(ins.length:Int)≤(ic:Int):=by omega
   have hc0:(0:Int)≤(ins.length:Int):=by omega
   have hcf:(ic=0)=False:=by simp;omega
   go_upto_region 11 with fail
   go_still_tail 14,(by kernel_rfl)
   change wpList _ _ _ _ _ (World.drew w5);have HD:=hiD ((Below.refl w5.heap.size w5).drew);have HB6:=hiD (HB5.out.below HD.out);have HX6:=hiD (HX5.out.move (BMove.below _ _ HD.out));have HK6:=hiD (HK5.out.move HB5.out (BMove.below _ _ HD.out));have HM7:=hiD (HM6.out.trans (BMove.below _ _ HD.out));clear k0 k1 k2 k3 k4 k5 kl;clear HD HB5 HX5 HK5 HM6 k4f;revert HM7 HB6 HX6 HK6;generalize World.drew w5=w6;intro HB6 HX6 HK6 HM7;obtain ⟨hb7,hm7⟩:=HB6.out.popIn;have HB7:=hiD hb7;have HX7:=hiD (HX6.out.move hm7);have HK7:=hiD (HK6.out.move HB6.out hm7);have HM8:=hiD (HM7.out.trans hm7);have z4:=HB6.out.row.frozen 4;have zl:=HB6.out.row.lt;have zc:=HB6.out.row.cell 4;dsimp only [BEnv.cells] at zc;simp only [List.getElem?_cons_zero,List.getElem?_cons_succ] at zc;dsimp only at z4 zl HB7 HX7 HK7 HM8;clear hb7 hm7 HB6 HX6 HK6 HM7;go_upto_region 12 with fail;clear z4 zl zc;revert HB7 HX7 HK7 HM8;generalize w6.setCell ⟨bb,4,none⟩ (.slice (some ⟨gi,0,none⟩) ins.length ic)=w7;intro HB7 HX7 HK7 HM8;have he7:e0 < w7.heap.size:=HX7.out.row.lt;have hnl:next.length≤8:=by have:=HRES.out.nl;dsimp only at this;have:=HX.out.s8;dsimp only at this;omega
   have x0:=HX7.out.row.cell 0;have x1:=HX7.out.row.cell 1;simp only [List.getElem?_cons_zero,List.getElem?_cons_succ] at x0 x1
   go_wp2_with (at_builtin;refine wpList_app rfl (.tmp 72) (.tmp 74) 22 rfl e0 3 (.int .i64 0) 1 8 Tryz.underlying22 int_infoK rfl (by decide) (by decide) (.slice XA next.length xc) (next.length) (ints next) rfl ?own (w7.heap.size+1) (some ⟨w7.heap.size,0,none⟩) 1 1 [.int .i64 k] rfl ?rd ?one ?hb ?hbase ?_)
   case own=>exact (HX7.out.own).alloc _
   case rd=>exact Rd.lit w7 #[.int .i64 k] 3 (sz:=1) (m:=1) rfl
   case one=>first | (intro u hu;simp at hu;subst hu;rfl) | rfl
   case hb=>omega
   case hbase=>first | (simp;omega) | omega
   intro v' w' hown' hgrow' hat';obtain ⟨XA2,xc2,rfl,_⟩:=Rd.own hown';have hlen2:(next ++ [k]).length=next.length+1:=by simp
   have hcat:ints next ++ [Value.int .i64 k]=ints (next ++ [k]):=by simp [ints]
   rw [hcat,← hlen2] at hown';rw [own_blk] at hgrow';have HD:=hiD ((Below.refl w7.heap.size w7).alloc (Nat.le_refl _) (.cells #[.int .i64 k] 3));have HBa:=hiD (HB7.out.below HD.out);have HXa:=hiD (HX7.out.move (BMove.below _ _ HD.out));have HKa:=hiD (HK7.out.move HB7.out (BMove.below _ _ HD.out));obtain ⟨hx8,hk8,hrow8⟩:=HXa.out.push HBa.out (fun i hi=>by have:=blk_or hat' i hi;simpa using this) hgrow' hown';rw [hlen2] at hx8 hk8;have HX8:=hiD hx8;have HB8:=hiD (HBa.out.far hk8 (fun i hi=>Nat.le_trans HE9.out (HXa.out.notR i hi).1) (fun i hi=>(HXa.out.notR i hi).2));have HK8:=hiD (HKa.out.far hk8 (HKa.out.notX HXa.out));have HM9:=hiD ((HM8.out.trans (BMove.below _ _ HD.out)).far hk8 (fun i hi=>Nat.le_trans HE0.out (HXa.out.notR i hi).1));have z4:=hrow8.frozen 1;have zl:=hrow8.lt;have zc:=hrow8.cell 1;simp only [List.getElem?_cons_zero,List.getElem?_cons_succ] at zc;clear HD HBa HXa HKa hx8 hk8 hrow8 hown' hgrow' hat' hcat HB7 HX7 HK7 HM8 x0 x1;go_upto_region 13 with fail;clear z4 zl zc;revert HX8 HB8 HK8 HM9;generalize w'.setCell ⟨e0,1,none⟩ (.slice XA2 (next.length+1) xc2)=w8;intro HX8 HB8 HK8 HM9;have hkl:(KT.keyS ((L:Int)+1) next).length≤21+22 * next.length:=HKL.out;have HKS:=hiD (keyS_snoc ((L:Int)+1) next k);have he8:e0 < w8.heap.size:=HX8.out.row.lt;have hk0:0≤k:=HRB.out.ge
   have hk1:k≤100000:=by
    have h1:=HRB.out.len;have h2:=HL4.out;have h3:=HX.out.s8;dsimp only at h1 h3;rcases HRB.out.lt with h4 | h4
    ·dsimp only at h4;omega
    ·dsimp only at h4;omega
   revert HK8 HKS hkl;generalize KT.keyS ((L:Int)+1) next=txt
   intro HK8 hkl HKS
   go_wp2_with (at_builtin;refine wpList_app rfl (.tmp 77) (.tmp 78) 156 rfl e0 5 (.int .u8 0) 1 1 Tryz.underlying156 u8_infoK rfl (by decide) (by decide) (.slice KA txt.length kc) (txt.length) (Lib.byteCells txt) rfl ?own (w8.heap.size+1) (some ⟨w8.heap.size,0,none⟩) 1 1 [.int .u8 32] rfl ?rd ?one ?hb ?hbase ?_)
   case own=>exact (HK8.out.own).alloc _
   case rd=>exact Rd.lit w8 #[.int .u8 32] 5 (sz:=1) (m:=1) rfl
   case one=>first | (intro u hu;simp at hu;subst hu;rfl) | rfl
   case hb=>omega
   case hbase=>first | (simp;omega) | omega
   intro v' w' hown' hgrow' hat';obtain ⟨KA2,kc2,rfl,_⟩:=Rd.own hown';have hcat:Lib.byteCells txt ++ [Value.int .u8 32]=Lib.byteCells (txt ++ [32]):=by rw [Lib.byteCells_append];rfl
   rw [hcat] at hown';rw [own_blk] at hgrow';have HD:=hiD ((Below.refl w8.heap.size w8).alloc (Nat.le_refl _) (.cells #[.int .u8 32] 5));have HBa:=hiD (HB8.out.below HD.out);have HXa:=hiD (HX8.out.move (BMove.below _ _ HD.out));have HKa:=hiD (HK8.out.move HB8.out (BMove.below _ _ HD.out));have hka:Kept (fun i=>blk KA=some i) (w8.alloc (.cells #[.int .u8 32] 5)) w':=Kept.grown (Kept.refl _ _) hgrow' (fun i hi=>.inl hi);have HB9:=hiD (HBa.out.far hka (fun i hi=>Nat.le_trans HE9.out (HKa.out.own.lt i (by rw [own_blk];exact hi)).1) (fun i hi=>HKa.out.notR HBa.out i hi));have HX9:=hiD (HXa.out.far hka (fun hi=>HKa.out.notX HXa.out _ hi (.inl rfl)) (fun i hi hq=>HKa.out.notX HXa.out _ hq (.inr hi)));have HMa:=hiD ((HM9.out.trans (BMove.below _ _ HD.out)).far hka (fun i hi=>Nat.le_trans HE0.out (HKa.out.own.lt i (by rw [own_blk];exact hi)).1));have HOA:=hiD hown';have HE8:Hid (e0≤w'.heap.size):=hiD (Nat.le_of_lt HX9.out.row.lt);have HC:=hiD (appendInt_any e0 (txt.length+1) k (by omega) (by omega) _ _ w' hown' HE8.out (by omega) (tab_up HX.out.tab HB9.out.bel HE9.out));clear HD HBa HXa HKa hka hown' hgrow' hat' hcat HB8 HX8 HK8 HM9;go_wp2_with fail;refine HC.out.mono ?_;rintro e w9 ⟨v2,rfl,hown,hb9,ho9⟩;obtain ⟨KA3,kc3,rfl,_⟩:=Rd.own hown;have hk9:=kept_u8 hb9 ho9;have hco:Lib.byteCells (txt ++ [32]) ++ Lib.byteCells (Lib.itoa k)=Lib.byteCells (txt ++ [32] ++ Lib.itoa k):=by rw [Lib.byteCells_append (txt ++ [32])]
   have hle:txt.length+1+(Lib.itoa k).length=(txt ++ [32] ++ Lib.itoa k).length:=by simp;omega
   rw [hco,hle,← HKS.out] at hown;rw [hle,← HKS.out];have HB10:=hiD (HB9.out.u8 hk9 HE9.out);have HX10:=hiD (HX9.out.u8 hk9);have HM10:=hiD (HMa.out.u8 hk9 HE0.out);have HO10:=hiD hown
   have HK10:Hid ((KT.keyS ((L:Int)+1) (next ++ [k])).length≤21+22 * (next ++ [k]).length):=hiD (by
    have:=Lib.itoa_length_le k (by omega) (by omega)
    rw [HKS.out,← hle,hlen2];omega)
   clear HC hown hb9 ho9 hk9 hco hle HB9 HX9 HMa HOA HE8;go_wp2;go_roundg (S - (j+1))
   case measure=>omega
   case rel=>
    refine ⟨j+1,⟨NA,nc,sl,some ⟨gi,0,none⟩,ic⟩,KA3,XA2,kc3,xc2,by omega,by omega,by go_num,?_,?_⟩
    ·rw [HQS.out]
    ·rw [HQS.out];exact ⟨HB10.out,HM10.out,HX10.out,⟨HO10.out⟩,Nat.le_of_lt HX10.out.row.lt,HE0.out,HK10.out⟩
  ·obtain rfl:j=S:=by omega
   have hltz:¬ (j:Int) < (j:Int):=by omega
   have HRES:=hiD (loopQ_res HX.out.s2 HX.out.rng hl HI.out HN.out (Nat.le_refl j));have HEND:=hiD (loopQ_end j val L ins ns);revert HV HRES HEND;generalize loopQ j val L ins ns j=q;obtain ⟨next,n1⟩:=q;intro HV HRES HEND;dsimp only at HV HRES;obtain ⟨NA,nc,sl,IA,ic⟩:=p1;have HBr:=hiD HV.out.b;have HXr:=hiD HV.out.x;have HKr:=hiD HV.out.k;have HMr:=hiD HV.out.m;have HKL:=hiD HV.out.kl;clear HV;have HF:=hiD (KT.idsF_key HRES.out.ok (lev:=(L:Int)+1) (next:=next) (by omega) HRES.out.nn)
   have hkey:keyOf Tryz.prog 9 (KT.keyV ((L:Int)+1) next)=some (.string (KT.mkS (KT.keyS ((L:Int)+1) next)).data.toList):=Go.WideMaps.keyOf_string_mk Tryz.underlying9 (by
    have:=HKL.out;have:=HRES.out.nl;dsimp only at this;have:=HX.out.s8;show (KT.mkS _).size≤_;unfold KT.mkS ByteArray.size
    simp
    unfold maxLen;dsimp only at *
    omega)
   dsimp only at HKL HF;have hcv:=fun nq=>conv_txt (wr.drewN nq) HKr.out.own rfl
   have hlk:=fun nq=>(HBr.out.mp.drewN nq).lookup string_keyedK Tryz.underlying120 (Tryz.zeroValue3 (wr.drewN nq)) hkey
   rw [HF.out] at hlk;unfold KT.keyV at hlk;dsimp only at hlk hcv;have HKEY:=hiD hkey;clear hkey;have kR:=HBr.out.row;dsimp only [BEnv.cells,BEnv.fv] at kR;have k0:=kR.cell 0;have k1:=kR.cell 1;have k2:=kR.cell 2;have k3:=kR.cell 3;have k4:=kR.cell 4;have k5:=kR.cell 5;have kl:=kR.lt;clear kR;simp only [List.getElem?_cons_zero,List.getElem?_cons_succ] at k0 k1 k2 k3 k4 k5
   cases hf:KT.findNd n1 ((L:Int)+1) next with
   | some i=>
    have HE:Hid (KT.buildK j val (L+1) ins ns=((i:Int),n1)):=hiD (HEND.out.trans (by unfold KT.endB;dsimp only;rw [hf]));rw [hf] at hlk;simp only [Option.map_some,Option.getD_some,Option.isSome_some] at hlk;clear hf;go_upto_region 15 with fail;go_quiet (fail);go_wp2;go_ret;rw [HE.out];exact ⟨⟨⟨NA,nc,sl,IA,ic⟩,rfl,HBr.out.below (below_drewN (Below.refl _ _) nq),HMr.out.trans (BMove.below _ _ (below_drewN (Below.refl _ _) nq))⟩⟩
   | none=>
    have HE:Hid (KT.buildK j val (L+1) ins ns=((n1.length:Int),n1 ++ [⟨(L:Int)+1,next⟩])):=hiD (HEND.out.trans (by unfold KT.endB;dsimp only;rw [hf]));have HNO:Hid (KT.idsF n1 (KT.keyV ((L:Int)+1) next)=none):=hiD (HF.out.trans (by rw [hf];rfl));rw [hf] at hlk;simp only [Option.map_none,Option.getD_none,Option.isSome_none] at hlk;clear hf;go_upto_region 15 with fail;go_quiet (fail);have HD:=hiD (below_drewN (Below.refl wr.heap.size wr) nq);have HBq:=hiD (HBr.out.below HD.out);have HXq:=hiD (HXr.out.move (BMove.below _ _ HD.out));have HKq:=hiD (HKr.out.move HBr.out (BMove.below _ _ HD.out));have HMq:=hiD (HMr.out.trans (BMove.below _ _ HD.out));clear k0 k1 k2 k3 k4 k5 kl;clear HD HBr HXr HKr HMr hlk hcv;revert HBq HXq HKq HMq;generalize wr.drewN nq=wq;intro HBq HXq HKq HMq;have kR:=HBq.out.row;dsimp only [BEnv.cells,BEnv.fv] at kR;have k0:=kR.cell 0;have k1:=kR.cell 1;have k2:=kR.cell 2;have k3:=kR.cell 3;have k4:=kR.cell 4;have k5:=kR.cell 5;have kl:=kR.lt;clear kR;simp only [List.getElem?_cons_zero,List.getElem?_cons_succ] at k0 k1 k2 k3 k4 k5;go_upto_region 18 with fail;have hcv:=conv_txt wq.drew HKq.out.own rfl;dsimp only at hcv;have hkey:=HKEY.out;unfold KT.keyV at hkey
    go_still_tail 7,(by kernel_rfl)
    change wpList _ _ _ _ _ (World.drew wq);have HD:=hiD ((Below.refl wq.heap.size wq).drew);have HBd:=hiD (HBq.out.below HD.out);have HXd:=hiD (HXq.out.move (BMove.below _ _ HD.out));have HMd:=hiD (HMq.out.trans (BMove.below _ _ HD.out));clear k0 k1 k2 k3 k4 k5 kl;clear HD HBq HXq HKq HMq hcv;revert HBd HXd HMd;generalize wq.drew=wd;intro HBd HXd HMd
    go_wp2_with (first | (at_mapUpdate;refine wpList_upd rfl (.tmp 104) (.tmp 106) (.tmp 107) rfl HBd.out.mp string_keyedK Tryz.underlying120 rfl hkey rfl (.int .i64 (n1.length:Int)) rfl ?_;intro w7 hm7 hg7;have HM7:=hiD hm7;have HG7:=hiD hg7;clear hm7 hg7) | fail)
    have hn1:n1.length≤70000:=len_end HRES.out HS.out;obtain ⟨hb8,hm8⟩:=HBd.out.mapUp HG7.out HM7.out;have HB8:=hiD (hb8.congrF (KT.idsF_push HNO.out));have HX8:=hiD (HXd.out.move hm8);have HM8:=hiD (HMd.out.trans hm8);clear hb8 hm8 HG7 HM7 HBd HXd HMd hkey;refine wp_region_L (fun w'=>Row w' bb 182 [.int .i64 (j:Int),.slice HA hn hc,.slice NA n1.length nc,.map (some mb),.slice IA ins.length ic,.func (.func 70) #[] #[.pointer (some ⟨tb,0,none⟩)]]∧Row w' e0 65 [.int .i64 ((L:Int)+1),.slice XA next.length xc]) [8,9,10,11,12] (by kernel_rfl) (by exact ⟨HB8.out.row.drew,HX8.out.row.drew⟩) (fun hHeld=>?_);have HD:=hiD ((Below.refl w7.heap.size w7).drew);have HBd:=hiD (HB8.out.below HD.out);have HXd:=hiD (HX8.out.move (BMove.below _ _ HD.out));have HMd:=hiD (HM8.out.trans (BMove.below _ _ HD.out));clear HD HB8 HX8 HM8;revert HBd HXd HMd hHeld;generalize World.drew w7=wQ;intro hHeld HBd HXd HMd;refine lP 0 ?_;go_simp;refine lP 1 ?_;go_simp;refine lP 2 ?_;go_simp;refine lP 3 ?_;go_simp;refine lP 4 ?_;go_simp;refine lTakeW 5 ?va6 [[8],[9],[10],[11],[12]] rfl (by rfl) ?ya6 hHeld ?ra6
    case ya6=>
     intro w' hSw;obtain ⟨hS1,hS2⟩:=hSw;have hT1:=hiD hS1;have hT2:=hiD hS2;clear hS1 hS2;obtain ⟨y0,y1,y2,y3,y4,y5,yl⟩:=hT1.out.cells6;obtain ⟨z0,z1,zl⟩:=hT2.out.cells2;go_simp
     try (with_reducible rfl)
    go_simp;refine lTakeW 6 ?va7 [[8,7],[9],[10],[11],[12]] rfl (by rfl) ?ya7 hHeld ?ra7
    case ya7=>
     intro w' hSw;obtain ⟨hS1,hS2⟩:=hSw;have hT1:=hiD hS1;have hT2:=hiD hS2;clear hS1 hS2;obtain ⟨y0,y1,y2,y3,y4,y5,yl⟩:=hT1.out.cells6;obtain ⟨z0,z1,zl⟩:=hT2.out.cells2;go_simp
     try (with_reducible rfl)
    go_simp;refine restL_one (i:=7) (by kernel_rfl) rfl (fun K hK=>?_);go_simp;refine hK.out _ _ (fun _=>?keep) (fun hHeld=>?_)
    case keep=>exact ⟨Row.alloc hHeld.1 _,Row.alloc hHeld.2 _⟩
    have hHeld:=hHeld rfl;clear hK K
    try go_simp
    refine restL_one (i:=8) (by kernel_rfl) rfl (fun K hK=>?_);refine step_app rfl (.tmp 113) (.tmp 115) 25 rfl w0.heap.size 65 (.agg #[.int .i64 0,.slice none 0 0]) 2 32 Tryz.underlying25 node_infoK rfl (by decide) (by decide) (.slice NA n1.length nc) n1.length (nodesCells n1 sl) rfl ?own (wQ.heap.size+1) (some ⟨wQ.heap.size,0,none⟩) 1 1 [.int .i64 ((L:Int)+1),.slice XA next.length xc] rfl ?rd ?one ?hb ?hbase ?_
    case own=>exact HBd.out.nown.alloc _
    case rd=>exact Rd.lit wQ #[.int .i64 ((L:Int)+1),.slice XA next.length xc] 65 (sz:=2) (m:=1) rfl
    case one=>first | exact nd_oneK _ _ _ _ | rfl
    case hb=>omega
    case hbase=>first | (have:=HBd.out.bel.size;simp;omega) | (have:=HBd.out.bel.size;omega)
    intro v' w' hown' hgrow' hat';obtain ⟨NA2,nc2,rfl,_⟩:=Rd.own hown';rw [own_blk] at hgrow';have HDa:=hiD ((Below.refl wQ.heap.size wQ).alloc (Nat.le_refl _) (.cells #[.int .i64 ((L:Int)+1),.slice XA next.length xc] 65));have HXa:=hiD (HXd.out.move (BMove.below _ _ HDa.out));obtain ⟨p1,p2,p3,p4⟩:=(HBd.out.below HDa.out).pushN (x:=⟨(L:Int)+1,next⟩) (s:=⟨XA,next.length,xc⟩) (fun i hi=>by have:=blk_or hat' i hi;simpa using this) hgrow' hown' (own_base HXa.out.own HE9.out) HXa.out.na;have PB:=hiD p1;have PM:=hiD ((HMd.out.trans (BMove.below _ _ HDa.out)).push p3 p4 (fun k hk=>Nat.le_trans HE0.out (HXa.out.own.lt k (by rw [own_blk];exact hk)).1));have q2:=p2.cell 2;have qf:=p2.frozen 2;have ql:=p2.lt;dsimp only [BEnv.cells,BEnv.fv] at q2 qf ql;simp only [List.getElem?_cons_zero,List.getElem?_cons_succ] at q2;clear p1 p2 p3 p4 hown' hgrow' hat' HXa HDa HBd HXd HMd;refine hK.out _ _ (fun h=>absurd h (by decide)) (fun _=>?_);clear hK K
    try go_simp
    refine lP 9 ?_;go_simp;refine lP 10 ?_;go_simp;refine lP 11 ?_;go_simp;refine restL_one (i:=12) (by kernel_rfl) rfl (fun K hK=>?_);go_simp;refine hK.out _ _ (fun h=>absurd h (by decide)) (fun _=>?_);clear hK K
    try go_simp
    refine restL_done (by kernel_rfl) ?_ _;go_wp2;go_ret;rw [HE.out];exact ⟨⟨⟨NA2,nc2,sl ++ [⟨XA,next.length,xc⟩],IA,ic⟩,rfl,PB.out,PM.out⟩⟩
theorem build_any (w0:World) (E:BEnv) (val:List Int→Int) (H:Nat) (hx:BHyp w0 E val H):∀ (L:Nat) (ins:List Int) (ns:List Nd) (p:BPos) (w:World),L+ins.length=H→(∀ s ∈ ins,0≤s∧s < (E.S:Int))→KT.WOk E.S ns→ns.length+E.S ^ L≤70000→BSt w0 E p ins ns (KT.idsF ns) w →
 Calls Tryz.prog 122 #[.pointer (some ⟨E.bb,0,none⟩)] w (BPost w0 E p ins (KT.buildK E.S val L ins ns) w)
 | 0,ins,ns,p,w,hl,hi,_,_,h=>build_zero w0 E val H hx ins ns p w (by omega) hi h
 | L+1,ins,ns,p,w,hl,hi,hn,hs,h=>build_succ w0 E val H hx L (build_any w0 E val H hx L) ins ns p w hl hi hn hs h
end Go.Proofs.YtbijfnbelkbofaaGreatDoor
namespace Go.Proofs.YtbijfnbelkbofaaGreatDoor
open Go.RowKit
def symL:List ByteArray:=[⟨#[110,111,110,101]⟩,⟨#[114,111,116,97,116,101]⟩,⟨#[114,101,102,108,101,99,116]⟩,⟨#[112,101,114,109,117,116,101]⟩]
structure GEnv (w:World):Prop where
 mat:MatAt w
 ml:∃ m,w.cell? ⟨1,0,none⟩=some (.int .i64 m)
 es:∃ t p,w.cell? ⟨2,0,none⟩=some (.iface t p)
 er:∃ t p,w.cell? ⟨3,0,none⟩=some (.iface t p)
 sym:∀ i,i < 4→w.cell? ⟨0,i,none⟩=some (.string (symL.getD i ByteArray.empty))
 tab : Lib.TabBelow Tryz.prog w.heap.size w "internal/strconv.uint64pow10" .u64 Lib.pow10Tab
theorem GEnv.up {w w':World} (h:GEnv w) (hb:Below w.heap.size w w'):GEnv w':=by
 have h4:=h.mat.2;obtain ⟨m,hm⟩:=h.ml;obtain ⟨t2,p2,h2⟩:=h.es;obtain ⟨t3,p3,h3⟩:=h.er
 exact ⟨h.mat.up hb,⟨m,(hb.cell (p:=⟨1,0,none⟩) (by show 1 < _;omega)).trans hm⟩,⟨t2,p2,(hb.cell (p:=⟨2,0,none⟩) (by show 2 < _;omega)).trans h2⟩,⟨t3,p3,(hb.cell (p:=⟨3,0,none⟩) (by show 3 < _;omega)).trans h3⟩,
  fun i hi=>(hb.cell (p:=⟨0,i,none⟩) (by show 0 < _;omega)).trans (h.sym i hi),tab_up h.tab hb hb.size⟩
theorem below_drewJ (w:World) (n:Nat):Below w.heap.size w (w.drewN n):=⟨rfl,rfl,rfl,Nat.le_refl _,fun _ _=>rfl⟩
theorem GEnv.drewN {w:World} (h:GEnv w) (n:Nat):GEnv (w.drewN n):=h.up (below_drewJ w n)
theorem atoi_any (s:ByteArray) (hs:s.size≤100000) (w:World) (G:GEnv w):Calls Tryz.prog 55 #[.string s] w fun e w'=>∃ (v:Int) (E:Value),e=.returned (.tuple #[.int .i64 v,E])∧(E=.nilIface∨∃ t p,E=.iface t p)∧(-9223372036854775808≤v∧v≤9223372036854775807)∧Below w.heap.size w w':=by
 obtain ⟨t2,p2,h2⟩:=G.es;obtain ⟨t3,p3,h3⟩:=G.er
 cases h:Lib.atoiAll s.data.toList with
 | ok v=>
  refine (strconv_Atoi_ok s (by omega) v h w).mono ?_;rintro e w' ⟨rfl,hw⟩;refine ⟨v,.nilIface,rfl,.inl rfl,Lib.atoiAll_bounds h,?_⟩;rcases hw with rfl | ⟨t,rfl⟩
  ·exact Below.refl _ _
  ·exact Lib.bytesWorld_below _ _ _
 | range=>
  refine (strconv_Atoi_range s (by omega) h _ w h3 (.inr ⟨_,_,rfl⟩)).mono ?_;rintro e w' ⟨N,rfl,_,_,hb⟩;refine ⟨_,_,rfl,.inr ⟨_,_,rfl⟩,?_,hb⟩;unfold Lib.atoiSat;split <;> omega
 | _=>
  refine (Any.strconv_Atoi_syntax laysC172 s (by omega) h _ w h2 (.inr ⟨_,_,rfl⟩)).mono ?_;rintro e w' ⟨N,rfl,_,_,hb⟩;exact ⟨0,_,rfl,.inr ⟨_,_,rfl⟩,by omega,hb⟩
theorem ba_size (l:List UInt8):(⟨l.toArray⟩:ByteArray).size=l.length:=by rw [Lib.size_eq]
theorem ba_len (s:ByteArray):s.data.toList.length=s.size:=(Lib.size_eq s).symm
theorem cutPrefix_any (s p:ByteArray) (w:World):Calls Tryz.prog 44 #[.string s,.string p] w fun e w'=>∃ (t:ByteArray) (b:Bool),e=.returned (.tuple #[.string t,.bool b])∧t.size≤s.size∧w=w':=by
 refine (strings_CutPrefix s p w).mono ?_;rintro e w' ⟨rfl,rfl⟩;refine ⟨_,_,rfl,?_,rfl⟩;rw [ba_size,← ba_len s];unfold Lib.trimPrefix;split
 ·rw [List.length_drop];omega
 ·omega
theorem cutSuffix_any (s p:ByteArray) (hs:s.size≤100000) (w:World):Calls Tryz.prog 47 #[.string s,.string p] w fun e w'=>∃ (t:ByteArray) (b:Bool),e=.returned (.tuple #[.string t,.bool b])∧t.size≤s.size∧w=w':=by
 refine (strings_CutSuffix s p w (by omega)).mono ?_;rintro e w' ⟨rfl,rfl⟩;refine ⟨_,_,rfl,?_,rfl⟩;rw [ba_size,← ba_len s];unfold Lib.trimSuffix;split
 ·rw [List.length_take];omega
 ·omega
theorem cut_any (s p:ByteArray) (hs:s.size≤100000) (w:World) (G:GEnv w):Calls Tryz.prog 45 #[.string s,.string p] w fun e w'=>∃ (a t:ByteArray) (b:Bool),e=.returned (.tuple #[.string a,.string t,.bool b])∧(a.size≤s.size∧t.size≤s.size)∧Below w.heap.size w w':=by
 obtain ⟨m,hm⟩:=G.ml;refine (strings_Cut s p m w (by omega) hm).mono ?_;rintro e w' ⟨rfl,n,rfl⟩;refine ⟨_,_,_,rfl,?_,below_drewJ w n⟩;simp only [ba_size];rw [← ba_len s];unfold Lib.cut;split
 ·simp only [List.length_take,List.length_drop];omega
 ·simp
theorem trim_any (s:ByteArray) (hs:s.size≤100000) (w:World):Calls Tryz.prog 109 #[.string s,.string ⟨#[48,49,50,51,52,53,54,55,56,57]⟩] w fun e w'=>∃ t:ByteArray,e=.returned (.string t)∧Below w.heap.size w w':=by
 refine (strings_Trim_set s _ w (by omega) (by decide) (ascii_of_all (by decide))).mono ?_;rintro e w' ⟨rfl,hb⟩;exact ⟨_,rfl,hb⟩
set_option maxRecDepth 100000 in
set_option maxHeartbeats 4000000 in
theorem wNumber_any (s:ByteArray) (hs:s.size≤100000) (w:World) (G:GEnv w):Calls Tryz.prog 62 #[.string s] w fun e w'=>∃ (v:Int) (ok fits:Bool),e=.returned (.tuple #[.int .i64 v,.bool ok,.bool fits])∧(-9223372036854775808≤v∧v≤9223372036854775807)∧Below w.heap.size w w':=by
 have HG:=hiD G;clear G;go_enter Tryz.func62,Tryz.ntmps62
 go_wp2_with (first
  | (go_at_call 109
     refine (trim_any s hs _).mono ?_;rintro e w1 ⟨t,rfl,hb1⟩;have HB1:=hiD hb1
     clear hb1)
  | (go_at_call 55
     refine (atoi_any s hs _ (HG.out.up HB1.out)).mono ?_;rintro e w2 ⟨v,E,rfl,hE,hv,hb2⟩;have HV:=hiD hv;have HB2:=hiD (HB1.out.trans (hb2.mono HB1.out.size));clear hv hb2
     rcases hE with rfl | ⟨t9,p9,rfl⟩))
 all_goals first
  | (go_ret3;exact ⟨_,_,_,rfl,by omega,by first | exact HB1.out | exact Below.refl _ _⟩)
  | (go_quiet (fail)
     go_wp2_with fail;go_ret3
     exact ⟨_,_,_,rfl,HV.out,below_drewN HB2.out _⟩)
end Go.Proofs.YtbijfnbelkbofaaGreatDoor
