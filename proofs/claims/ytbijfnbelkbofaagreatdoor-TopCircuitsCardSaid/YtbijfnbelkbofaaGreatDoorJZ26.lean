/-
  Lemmas for the law TopCircuits.
-/
import Derived.Test.YtbijfnbelkbofaaGreatDoorJZ24
import Derived.Test.YtbijfnbelkbofaaGreatDoorJZ22
import Derived.Deep.RegionHeld3
import Derived.DeepKeys4
set_option linter.unusedSimpArgs false
set_option linter.unusedVariables false
namespace Go.Proofs.YtbijfnbelkbofaaGreatDoor
open Go.RowKit Go.Maps
theorem place_law:WideMaps.KeyLaw Tryz.prog 155:=deep_law_laid (by kernel_rfl) (m:=2) (by omega) (of_decide_eq_true (by kernel_rfl)) (by kernel_rfl) (by rw [Tryz.underlying155])
theorem place_keyed:Maps.Keyed Tryz.prog 155:=Maps.Keyed.of_law place_law
theorem place_key (a s:Int) (ha:(Lit.int .i64 a).wf=true) (hs:(Lit.int .i64 s).wf=true):∃ l,keyOf Tryz.prog 155 (KU.placeV (a,s))=some l:=by
 have h1:Tryz.prog.keyType 155=true:=by kernel_rfl
 have h2:(KU.placeV (a,s)).formed Tryz.prog 155=true:=by
  have hc:Tryz.prog.cellsOf 155=2:=by kernel_rfl
  simp [KU.placeV,Value.formed,Tryz.underlying155,hc]
 have h3:Tryz.prog.keyLits (Tryz.prog.types.size+1) 155 (KU.placeV (a,s)).cells.toList=some [.int .i64 a,.int .i64 s]:=by
  have hc:Tryz.prog.cellsOf 155=2:=by kernel_rfl
  have hi:Tryz.prog.cellsOf 3=1:=by kernel_rfl
  obtain ⟨d,hd⟩:∃ d,Tryz.prog.types.size=d+1:=⟨Tryz.prog.types.size - 1,by kernel_rfl⟩
  rw [hd]
  simp [KU.placeV,Program.keyLits,Tryz.underlying155,hc,hi,Tryz.underlying3,ha,hs,Value.cells]
 exact ⟨_,by unfold keyOf;rw [Tryz.underlying155];simp only [h1,h2,h3];rfl⟩
theorem wf_small {z:Int} (h:-1000000000≤z∧z≤1000000000):(Lit.int .i64 z).wf=true:=by
 simp only [Lit.wf,decide_eq_true_eq,Bool.and_eq_true];simp only [IntKind.min,IntKind.max,IntKind.bits,IntKind.signed]
 simp
 omega
structure VHyp (w0:World) (E:UEnv) (step:Int→Int→Int→Int) (fin:Int→Int) (K:Nat→Int→Prop) (H M:Nat) (Us:List (Int × Int)):Prop where
 hyp:KU.UHyp E.S H M Us step fin K
 ln:E.ln=H
 s8:E.S≤8
 ep:∀ args w,(callFunc E.ip args).run Tryz.prog w=.ok (.enter E.ip args) w
 ee:∀ args w,(callFunc E.ie args).run Tryz.prog w=.ok (.enter E.ie args) w
 cstep:∀ (a:Nat) (s:Int) (j:Nat) (w:World),a < H→K a s→j < E.S→Below w0.heap.size w0 w→Calls Tryz.prog E.ip (#[.int .i64 s,.int .i64 (a:Int),.int .i64 (j:Int)] ++ E.cp) w fun e w'=>e=.returned (.int .i64 (step s a j))∧Below w.heap.size w w'
 cfin:∀ (s:Int) (w:World),K H s→Below w0.heap.size w0 w→Calls Tryz.prog E.ie (#[.int .i64 s] ++ E.ce) w fun e w'=>e=.returned (.int .i64 (fin s))∧Below w.heap.size w w'
 sb:∀ (a:Nat) (s:Int),a≤H→K a s→(Lit.int .i64 s).wf=true
 tab : Lib.TabBelow Tryz.prog w0.heap.size w0 "internal/strconv.uint64pow10" .u64 Lib.pow10Tab
structure VPost (w0:World) (E:UEnv) (p:UPos) (r:Int × KU.TB) (w:World) (e:Ending) (w':World):Prop where
 out:∃ p',e=.returned (.int .i64 r.1)∧USt w0 E p' r.2.ns (KU.idsB r.2.ns) (KU.seenF r.2.seen) w'∧Mv (p.R E) w (p'.R E) w'
theorem USt.fixk {w0 w w':World} {E:UEnv} {p:UPos} {ns:List Nd} {F G:Value→Option Value} (h:USt w0 E p ns F G w) (hk:Kept (p.R E) w w'):UBox E w':=h.box.keep (fun k hf hl=>hk.block k hl (h.notFix hf))
set_option maxRecDepth 100000 in
set_option maxHeartbeats 4000000 in
theorem visit_zero (w0:World) (E:UEnv) (step:Int→Int→Int→Int) (fin:Int→Int) (K:Nat→Int→Prop) (H M:Nat) (Us:List (Int × Int)) (hx:VHyp w0 E step fin K H M Us) (s:Int) (bt:KU.TB) (p:UPos) (w:World) (hk:K H s) (h:USt w0 E p bt.ns (KU.idsB bt.ns) (KU.seenF bt.seen) w):
 Calls Tryz.prog 90 #[.agg #[.int .i64 (H:Int),.int .i64 s],.pointer (some ⟨E.b+1,0,none⟩),.pointer (some ⟨E.b+3,0,none⟩),.pointer (some ⟨E.b+7,0,none⟩),.pointer (some ⟨E.b,0,none⟩),.pointer (some ⟨E.b+10,0,none⟩),.pointer (some ⟨E.b+2,0,none⟩),.pointer (some ⟨E.b+9,0,none⟩),.pointer (some ⟨E.b+5,0,none⟩)] w (VPost w0 E p (KU.visitT E.S H step fin 0 s bt) w):=by
 have HX:=hiD hx;have HB:=hiD h;have hln:=hx.ln;have hee:=hx.ee;have HK:=hiD hk;clear hx h hk;obtain ⟨b,S,LA,ln,lc,ip,cp,ie,ce⟩:=E;dsimp only at hln hee;subst hln;have HC:=hiD (fun W (hb:Below w.heap.size w W)=>HX.out.cfin s W HK.out (HB.out.bel.trans (hb.mono HB.out.bel.size)));have q1:=HB.out.box.q1.cell 0;have q1l:=HB.out.box.q1.lt;dsimp only [UEnv.vf] at q1 q1l;simp only [List.getElem?_cons_zero] at q1;have q3:=HB.out.box.q3.cell 0;have q3l:=HB.out.box.q3.lt;dsimp only [UEnv.vf] at q3 q3l;simp only [List.getElem?_cons_zero] at q3;go_enter Tryz.func90,Tryz.ntmps90;dsimp only at HC;go_upto_region 2 with fail;go_wp2_with fail;refine (HC.out _ (by go_grown)).mono ?_;rintro e w1 ⟨rfl,hb⟩;have HN:Hid (Below w.heap.size w w1):=below_next hb (by go_grown);clear hb HC q1 q1l q3 q3l;go_wp2;go_ret;exact ⟨⟨p,rfl,HB.out.below HN.out,Mv.below _ HN.out⟩⟩
def loopU (S H:Nat) (step:Int→Int→Int→Int) (fin:Int→Int) (L:Nat) (s a:Int) (bt:KU.TB) (j:Nat):List Int × KU.TB:=KU.loopT (fun j b=>KU.visitT S H step fin L (step s a j) b) j 0 [] bt
theorem loopU_succ (S H:Nat) (step:Int→Int→Int→Int) (fin:Int→Int) (L:Nat) (s a:Int) (bt:KU.TB) (j:Nat):loopU S H step fin L s a bt (j+1)=((loopU S H step fin L s a bt j).1 ++ [(KU.visitT S H step fin L (step s a (j:Int)) (loopU S H step fin L s a bt j).2).1],(KU.visitT S H step fin L (step s a (j:Int)) (loopU S H step fin L s a bt j).2).2):=by
 unfold loopU;rw [KU.loopT_succ,Nat.zero_add]
theorem visit_hit {S H:Nat} {step:Int→Int→Int→Int} {fin:Int→Int} {L a:Nat} {s i:Int} {bt:KU.TB} (hl:a+(L+1)=H) (h:KU.look bt.seen ((a:Int),s)=some i):KU.visitT S H step fin (L+1) s bt=(i,bt):=by
 unfold KU.visitT;rw [show H - (L+1)=a by omega,h]
theorem visit_miss {S H:Nat} {step:Int→Int→Int→Int} {fin:Int→Int} {L a:Nat} {s:Int} {bt:KU.TB} (hl:a+(L+1)=H) (h:KU.look bt.seen ((a:Int),s)=none):KU.visitT S H step fin (L+1) s bt=KU.endT (a:Int) s ((L:Int)+1) (loopU S H step fin L s (a:Int) bt S):=by
 unfold KU.visitT;rw [show H - (L+1)=a by omega,h];rfl
theorem loopU_res {S H M:Nat} {Us:List (Int × Int)} {step:Int→Int→Int→Int} {fin:Int→Int} {K:Nat→Int→Prop} (hy:KU.UHyp S H M Us step fin K) {L a:Nat} {s:Int} {bt:KU.TB} (hl:a+(L+1)=H) (hk:K a s) (hb:KU.UOk S M Us bt) {j:Nat} (hj:j≤S):KU.ULoop S M Us ((a:Int)+1) bt j (loopU S H step fin L s (a:Int) bt j):=by
 have:=KU.loop_resT (S:=S) (H:=H) (M:=M) (Us:=Us) (step:=step) (fin:=fin) (L:=L) (f:=fun j=>step s (a:Int) j) (b:=bt) (a:=(a:Int)+1) (fun j b' hj hb'=>by
  have:=KU.visit_res hy L (step s a j) b' (by omega) (by rw [show H - L=a+1 by omega];exact hy.step a s j (by omega) hk hj) hb';rw [show H - L=a+1 by omega] at this
  exact this) hb j hj
 exact this
structure VLoop (w0:World) (E:UEnv) (p:UPos) (a:Nat) (s:Int) (w:World) (pb e0 xb:Nat) (lev:Int) (q:List Int × KU.TB) (p1:UPos) (KA XA:Option Addr) (kc xc:Nat) (wr:World):Prop where
 b:USt w0 E p1 q.2.ns (KU.idsB q.2.ns) (KU.seenF q.2.seen) wr
 m:Mv (p.R E) w (p1.R E) wr
 x:NdSt (p1.R E) e0 xb lev XA xc q.1 wr
 k:TxSt e0 KA kc (KU.keyB lev q.1) wr
 pl:Row wr pb 155 [.int .i64 (a:Int),.int .i64 s]
 pn:¬ p1.R E pb
 kl:(KU.keyB lev q.1).length≤1+22 * q.1.length
theorem byte_one (L:Nat) (h:L < 200):Lib.byteCells (KU.keyB ((L:Int)+1) [])=[Value.int .u8 ((L:Int)+1)]:=by
 rw [KU.keyB_nil];unfold Lib.byteCells;simp only [List.map_cons,List.map_nil];rw [UInt8.toNat_ofNat_of_lt' (by show _ < 256;omega)];congr 2
set_option maxRecDepth 100000 in
set_option maxHeartbeats 4000000 in
theorem visit_succ (w0:World) (E:UEnv) (step:Int→Int→Int→Int) (fin:Int→Int) (K:Nat→Int→Prop) (H M:Nat) (Us:List (Int × Int)) (hx:VHyp w0 E step fin K H M Us) (L:Nat)
 (IH:∀ (a:Nat) (s:Int) (bt:KU.TB) (p:UPos) (w:World),a+L=H→K a s→KU.UOk E.S M Us bt→USt w0 E p bt.ns (KU.idsB bt.ns) (KU.seenF bt.seen) w→Calls Tryz.prog 90 #[.agg #[.int .i64 (a:Int),.int .i64 s],.pointer (some ⟨E.b+1,0,none⟩),.pointer (some ⟨E.b+3,0,none⟩),.pointer (some ⟨E.b+7,0,none⟩),.pointer (some ⟨E.b,0,none⟩),.pointer (some ⟨E.b+10,0,none⟩),.pointer (some ⟨E.b+2,0,none⟩),.pointer (some ⟨E.b+9,0,none⟩),.pointer (some ⟨E.b+5,0,none⟩)] w (VPost w0 E p (KU.visitT E.S H step fin L s bt) w))
 (a:Nat) (s:Int) (bt:KU.TB) (p:UPos) (w:World) (hl:a+(L+1)=H) (hk:K a s) (hu:KU.UOk E.S M Us bt) (h:USt w0 E p bt.ns (KU.idsB bt.ns) (KU.seenF bt.seen) w):
 Calls Tryz.prog 90 #[.agg #[.int .i64 (a:Int),.int .i64 s],.pointer (some ⟨E.b+1,0,none⟩),.pointer (some ⟨E.b+3,0,none⟩),.pointer (some ⟨E.b+7,0,none⟩),.pointer (some ⟨E.b,0,none⟩),.pointer (some ⟨E.b+10,0,none⟩),.pointer (some ⟨E.b+2,0,none⟩),.pointer (some ⟨E.b+9,0,none⟩),.pointer (some ⟨E.b+5,0,none⟩)] w (VPost w0 E p (KU.visitT E.S H step fin (L+1) s bt) w):=by
 have HX:=hiD hx;have HB:=hiD h;have HU:=hiD hu;have HK:=hiD hk;have HIH:=hiD IH;have hln:=hx.ln;have hep:=hx.ep;have hs8:=hx.s8;have h25:=hx.hyp.H25;have hM:=hx.hyp.M30;have HWB:Hid (w0.heap.size≤w.heap.size):=h.bel.size;have hpk:=place_key (a:Int) s (wf_small (by omega)) (hx.sb a s (by omega) hk);clear hx h hu hk IH;obtain ⟨b,S,LA,ln,lc,ip,cp,ie,ce⟩:=E;dsimp only at hln hep hs8;subst hln;obtain ⟨pl,hpl⟩:=hpk;have HPL:=hiD hpl;clear hpl;have HD:=hiD ((Below.refl w.heap.size w).alloc (Nat.le_refl _) (.cells #[.int .i64 (a:Int),.int .i64 s] 155));have HB1:=hiD (HB.out.below HD.out);have HM1:=hiD (Mv.below (p.R ⟨b,S,LA,ln,lc,ip,cp,ie,ce⟩) HD.out);have HP1:Hid (Row (w.alloc (.cells #[.int .i64 (a:Int),.int .i64 s] 155)) w.heap.size 155 [.int .i64 (a:Int),.int .i64 s]):=Row.new w _ [.int .i64 (a:Int),.int .i64 s];have HPN:Hid (¬ p.R ⟨b,S,LA,ln,lc,ip,cp,ie,ce⟩ w.heap.size):=hiD (fun hr=>Nat.lt_irrefl _ (HB.out.lt hr).2);have HB11:Hid (b+11≤w.heap.size):=HB.out.b11;have q1:=HB.out.box.q1.cell 0;have q1l:=HB.out.box.q1.lt;dsimp only [UEnv.vf] at q1 q1l;simp only [List.getElem?_cons_zero] at q1;have hz:((a:Int) == (ln:Int))=false:=by simp;omega
 go_enter Tryz.func90,Tryz.ntmps90;go_upto_region 3 with fail;clear q1 q1l;clear HD HB;revert HB1 HM1 HP1;generalize w.alloc (.cells #[.int .i64 (a:Int),.int .i64 s] 155)=w1;intro HB1 HM1 HP1;have q7:=HB1.out.box.q7.cell 0;have q7l:=HB1.out.box.q7.lt;dsimp only [UEnv.vf] at q7 q7l;simp only [List.getElem?_cons_zero] at q7;have q1:=HB1.out.box.q1.cell 0;have q1l:=HB1.out.box.q1.lt;dsimp only [UEnv.vf] at q1 q1l;simp only [List.getElem?_cons_zero] at q1;obtain ⟨p0,p1,pl⟩:=HP1.out.cells2;have hlk:=HB1.out.ms.lookup place_keyed Tryz.underlying152 (Tryz.zeroValue3 w1) HPL.out;rw [KU.seenF_key] at hlk;unfold KU.placeV at hlk;dsimp only at hlk
 cases hlo:KU.look bt.seen ((a:Int),s) with
 | some i=>
  have HE:=hiD (visit_hit (S:=S) (step:=step) (fin:=fin) hl hlo);rw [hlo] at hlk;simp only [Option.map_some,Option.getD_some,Option.isSome_some] at hlk;clear hlo;go_wp2;go_ret;rw [HE.out];exact ⟨⟨p,rfl,HB1.out,HM1.out⟩⟩
 | none=>
 have HE:=hiD (visit_miss (S:=S) (step:=step) (fin:=fin) hl hlo);rw [hlo] at hlk;simp only [Option.map_none,Option.getD_none,Option.isSome_none] at hlk;have HLO:=hiD hlo;clear hlo;have hw:IntKind.i64.wrap ((ln:Int) - (a:Int))=(L:Int)+1:=by rw [IntWalk.i64_in _ (by omega)];omega
 have hw8:IntKind.u8.wrap ((L:Int)+1)=(L:Int)+1:=by
  have h8:IntKind.u8.wrap ((L:Int)+1)=((L:Int)+1) % 256:=by simp [IntKind.wrap,IntKind.bits,IntKind.signed]
  rw [h8];omega
 go_upto_region 8 with fail;clear q7 q7l q1 q1l;clear p0 p1 pl hlk hw hw8;have HD:Hid (Below w1.heap.size w1 ((w1.alloc (.cells #[.int .i64 ((L:Int)+1),.slice none 0 0] 65)).alloc (.cells #[.int .u8 ((L:Int)+1)] 5))):=hiD (((Below.refl _ _).alloc (Nat.le_refl _) _).alloc (by simp) _)
 have HL0:Hid (VLoop w0 ⟨b,S,LA,ln,lc,ip,cp,ie,ce⟩ p a s w w.heap.size w1.heap.size w1.heap.size ((L:Int)+1) (loopU S ln step fin L s (a:Int) bt 0) p (some ⟨w1.heap.size+1,0,none⟩) none 1 0 ((w1.alloc (.cells #[.int .i64 ((L:Int)+1),.slice none 0 0] 65)).alloc (.cells #[.int .u8 ((L:Int)+1)] 5))):=
  hiD ⟨HB1.out.below HD.out,HM1.out.trans (Mv.below _ HD.out),⟨(Row.new w1 _ [.int .i64 ((L:Int)+1),.slice none 0 0]).alloc _,World.ownsRow_nil _ _ _ _,Nat.le_refl _,fun hr=>Nat.lt_irrefl _ (HB1.out.lt hr).2,fun k hk=>by cases hk⟩,(by
   show World.ownsRow _ _ _ _ _ _ _;rw [show (loopU S ln step fin L s (a:Int) bt 0).1=[] from rfl,byte_one L (by omega)];have hr:=Row.new (w1.alloc (.cells #[.int .i64 ((L:Int)+1),.slice none 0 0] 65)) 5 [.int .u8 ((L:Int)+1)];rw [World.size_alloc] at hr
   exact Row.own hr (by omega) (by rfl) (by show 1≤_;unfold maxLen;omega)),(show Row _ _ _ _ from rowCells HP1.out HD.out),HPN.out,Nat.le_refl _⟩
 have HE0:Hid (w.heap.size < w1.heap.size):=HP1.out.lt;have he0:w1.heap.size < ((w1.alloc (.cells #[.int .i64 ((L:Int)+1),.slice none 0 0] 65)).alloc (.cells #[.int .u8 ((L:Int)+1)] 5)).heap.size:=by simp;omega
 have HE1:=hiD he0;clear HD HB1 HM1 HP1 HPN he0;revert HL0 HE0 HE1;generalize ((w1.alloc (.cells #[.int .i64 ((L:Int)+1),.slice none 0 0] 65)).alloc (.cells #[.int .u8 ((L:Int)+1)] 5))=w2;generalize w1.heap.size+1=k0;generalize w1.heap.size=e0;intro HL0 HE0 HE1;have HB2:=hiD HL0.out.b;have q0:=HB2.out.box.q0.cell 0;have q0l:=HB2.out.box.q0.lt;dsimp only [UEnv.vf] at q0 q0l;simp only [List.getElem?_cons_zero] at q0;go_wp2;clear q0 q0l;clear HB2
 go_loopg [14,15,16,47] S (fun gg s5 _ _ s42 wr=>∃ (j:Nat) (p1:UPos) (KA XA:Option Addr) (kc xc:Nat),j≤S∧S - j≤gg∧s42=.int .i64 (j:Int)∧s5=.slice KA (KU.keyB ((L:Int)+1) (loopU S ln step fin L s (a:Int) bt j).1).length kc∧Aside (VLoop w0 ⟨b,S,LA,ln,lc,ip,cp,ie,ce⟩ p a s w w.heap.size e0 e0 ((L:Int)+1) (loopU S ln step fin L s (a:Int) bt j) p1 KA XA kc xc wr))
 case atStart=>exact ⟨0,p,some ⟨k0,0,none⟩,none,1,0,Nat.zero_le _,by omega,rfl,rfl,HL0.out⟩
 case round=>
  obtain ⟨j,p1,KA,XA,kc,xc,hj,hgg,rfl,rfl,hv⟩:=hrel;have HV:=hiD hv.out;clear hv HL0;by_cases hlt:j < S
  ·have hltz:(j:Int) < (S:Int):=by omega
   have HRES:=hiD (loopU_res HX.out.hyp hl HK.out HU.out (Nat.le_of_lt hlt));have HQS:=hiD (loopU_succ S ln step fin L s (a:Int) bt j);have HKN:=hiD (HX.out.hyp.step a s j (by omega) HK.out hlt);revert HV HRES HQS;generalize loopU S ln step fin L s (a:Int) bt j=q;obtain ⟨next,b1⟩:=q;intro HV HRES HQS;dsimp only at HV HRES HQS;obtain ⟨NA,nc,sl⟩:=p1;have HBr:=hiD HV.out.b;have HPr:=hiD HV.out.pl;have HKL:=hiD HV.out.kl;have HCS:=hiD (fun W hb=>HX.out.cstep a s j W (by omega) HK.out hlt hb);have HCV:=hiD (fun W hb=>HIH.out (a+1) (step s a j) b1 ⟨NA,nc,sl⟩ W (by omega) HKN.out HRES.out.ok hb);have HRB:=hiD (KU.visit_res HX.out.hyp L (step s a j) b1 (by omega) (by rw [show ln - L=a+1 by omega];exact HKN.out) HRES.out.ok);dsimp only at HCS HCV HRB;have hwa:IntKind.i64.wrap ((a:Int)+1)=(a:Int)+1:=IntWalk.i64_in _ (by omega);have ea:((a+1:Nat):Int)=(a:Int)+1:=by omega
   simp only [ea] at HCV
   have HS:∀ w',Kept ((⟨NA,nc,sl⟩:UPos).R ⟨b,S,LA,ln,lc,ip,cp,ie,ce⟩) wr w'→w'.cell? ⟨b+10,0,none⟩=some (.func (.func 90) #[] #[.pointer (some ⟨b+1,0,none⟩),.pointer (some ⟨b+3,0,none⟩),.pointer (some ⟨b+7,0,none⟩),.pointer (some ⟨b,0,none⟩),.pointer (some ⟨b+10,0,none⟩),.pointer (some ⟨b+2,0,none⟩),.pointer (some ⟨b+9,0,none⟩),.pointer (some ⟨b+5,0,none⟩)])∧w'.cell? ⟨w.heap.size,0,none⟩=some (.int .i64 (a:Int))∧w'.cell? ⟨b+2,0,none⟩=some (.func (.func ip) #[] cp)∧w'.cell? ⟨w.heap.size,1,none⟩=some (.int .i64 s):=fun w' hk=>by
    have hbx:=HBr.out.fixk hk;have hpl:=hk.row HPr.out HV.out.pn;exact ⟨hbx.q10.cell 0,hpl.cell 0,hbx.q2.cell 0,hpl.cell 1⟩
   have HD:=hiD ((Below.refl wr.heap.size wr).drew);have HK0:Hid (Kept ((⟨NA,nc,sl⟩:UPos).R ⟨b,S,LA,ln,lc,ip,cp,ie,ce⟩) wr wr.drew):=hiD (Kept.ofBelow HD.out);go_upto_region 11 with fail
   go_region_held3 (fun w'=>w'.cell? ⟨b+10,0,none⟩=some (.func (.func 90) #[] #[.pointer (some ⟨b+1,0,none⟩),.pointer (some ⟨b+3,0,none⟩),.pointer (some ⟨b+7,0,none⟩),.pointer (some ⟨b,0,none⟩),.pointer (some ⟨b+10,0,none⟩),.pointer (some ⟨b+2,0,none⟩),.pointer (some ⟨b+9,0,none⟩),.pointer (some ⟨b+5,0,none⟩)])∧w'.cell? ⟨w.heap.size,0,none⟩=some (.int .i64 (a:Int))∧w'.cell? ⟨b+2,0,none⟩=some (.func (.func ip) #[] cp)∧w'.cell? ⟨w.heap.size,1,none⟩=some (.int .i64 s)) (first | exact HS _ HK8.out.kept | exact HS _ HK7.out | exact HS _ HK0.out) (first
    | (go_at_call 90
       refine (HCV.out _ (by exact HB7.out)).mono ?_;rintro e w8 ⟨p2,rfl,hb8,hm8⟩;have HB8:=hiD hb8;have HM8:=hiD hm8
       have HK8:=(show Hid (Mv ((⟨NA,nc,sl⟩:UPos).R ⟨b,S,LA,ln,lc,ip,cp,ie,ce⟩) wr (p2.R ⟨b,S,LA,ln,lc,ip,cp,ie,ce⟩) w8) from hiD ((Mv.below _ HN7.out).trans hm8))
       clear hb8 hm8)
    | (refine (HCS.out _ (by exact HBr.out.bel.drew)).mono ?_
       rintro e w7 ⟨rfl,hb7⟩
       have HN7:=(show Hid (Below wr.heap.size wr w7) from below_on2 HD.out hb7)
       have HB7:=hiD (HBr.out.below HN7.out);have HK7:Hid (Kept ((⟨NA,nc,sl⟩:UPos).R ⟨b,S,LA,ln,lc,ip,cp,ie,ce⟩) wr w7):=hiD (Kept.ofBelow HN7.out)
       clear hb7))
   clear HD HK0 HN7 HB7 HK7 HM8 HCS HCV;have HX8:=hiD (HV.out.x.move HK8.out);have HT8:=hiD (HV.out.k.move HBr.out.no8 HK8.out);have HM8:=hiD (HV.out.m.trans HK8.out);have HP8:Hid (Row w8 w.heap.size 155 [.int .i64 (a:Int),.int .i64 s]):=HK8.out.kept.row HPr.out HV.out.pn;have HN8:=hiD (HK8.out.not HPr.out.lt HV.out.pn);clear HV HBr HPr HK8 HS;revert HQS HRB HB8;generalize KU.visitT S ln step fin L (step s (a:Int) (j:Int)) b1=r;obtain ⟨k,b2⟩:=r;intro HQS HRB HB8;dsimp only at HQS HRB HB8 HX8 HT8 HM8 HKL;obtain ⟨NA,nc,sl⟩:=p2;have he8:e0 < w8.heap.size:=HX8.out.row.lt;have hnl:next.length≤8:=by have:=HRES.out.nl;dsimp only at this;omega
   have HE11:Hid (b+11≤e0):=hiD (by have:=HB11.out;have:=HE0.out;omega);have HWE:Hid (w.heap.size≤e0):=hiD (Nat.le_of_lt HE0.out);have x0:=HX8.out.row.cell 0;have x1:=HX8.out.row.cell 1;simp only [List.getElem?_cons_zero,List.getElem?_cons_succ] at x0 x1
   go_wp2_with (at_builtin;refine wpList_app rfl (.tmp 64) (.tmp 66) 22 rfl e0 3 (.int .i64 0) 1 8 Tryz.underlying22 int_infoK rfl (by decide) (by decide) (.slice XA next.length xc) (next.length) (ints next) rfl ?own (w8.heap.size+1) (some ⟨w8.heap.size,0,none⟩) 1 1 [.int .i64 k] rfl ?rd ?one ?hb ?hbase ?_)
   case own=>exact (HX8.out.own).alloc _
   case rd=>exact Rd.lit w8 #[.int .i64 k] 3 (sz:=1) (m:=1) rfl
   case one=>first | (intro u hu;simp at hu;subst hu;rfl) | rfl
   case hb=>omega
   case hbase=>first | (simp;omega) | omega
   intro v' w' hown' hgrow' hat';obtain ⟨XA2,xc2,rfl,_⟩:=Rd.own hown';have hlen2:(next ++ [k]).length=next.length+1:=by simp
   have hcat:ints next ++ [Value.int .i64 k]=ints (next ++ [k]):=by simp [ints]
   rw [hcat,← hlen2] at hown';rw [own_blk] at hgrow';have HD:=hiD ((Below.refl w8.heap.size w8).alloc (Nat.le_refl _) (.cells #[.int .i64 k] 3));have HBa:=hiD (HB8.out.below HD.out);have HXa:=hiD (HX8.out.move (Mv.below _ HD.out));have HTa:=hiD (HT8.out.move HB8.out.no8 (Mv.below _ HD.out));obtain ⟨hx9,hk9,hrow9⟩:=HXa.out.push (fun i hi=>(HBa.out.lt hi).2) (fun i hi=>by have:=blk_or hat' i hi;simpa using this) hgrow' hown';rw [hlen2] at hx9 hk9;have HX9:=hiD hx9;have HB9:=hiD (HBa.out.far hk9 (fun i hi=>Nat.le_trans HE11.out (HXa.out.notR i hi).1) (fun i hi=>(HXa.out.notR i hi).2));have HT9:=hiD (HTa.out.far hk9 (HTa.out.notX HXa.out));have HM9:=hiD ((HM8.out.trans (Mv.below _ HD.out)).far hk9 (fun i hi=>Nat.le_trans HWE.out (HXa.out.notR i hi).1));have HP9:=hiD (hk9.row (rowCells HP8.out HD.out) (fun hi=>by have:=(HXa.out.notR _ hi).1;have:=HE0.out;omega));have z4:=hrow9.frozen 1;have zl:=hrow9.lt;have zc:=hrow9.cell 1;simp only [List.getElem?_cons_zero,List.getElem?_cons_succ] at zc;clear HD HBa HXa HTa hx9 hk9 hrow9 hown' hgrow' hat' hcat HB8 HX8 HT8 HM8 HP8 x0 x1;go_upto_region 13 with fail;clear z4 zl zc;revert HX9 HB9 HT9 HM9 HP9;generalize w'.setCell ⟨e0,1,none⟩ (.slice XA2 (next.length+1) xc2)=w9;intro HX9 HB9 HT9 HM9 HP9;have hkl:(KU.keyB ((L:Int)+1) next).length≤1+22 * next.length:=HKL.out;have HKS:=hiD (KU.keyB_snoc ((L:Int)+1) next k);have he9:e0 < w9.heap.size:=HX9.out.row.lt;have hk0:0≤k:=HRB.out.ge;have hk1:k < M:=HRB.out.lt;revert HT9 HKS hkl;generalize KU.keyB ((L:Int)+1) next=txt
   intro HT9 hkl HKS
   go_wp2_with (at_builtin;refine wpList_app rfl (.tmp 69) (.tmp 70) 156 rfl e0 5 (.int .u8 0) 1 1 Tryz.underlying156 u8_infoK rfl (by decide) (by decide) (.slice KA txt.length kc) (txt.length) (Lib.byteCells txt) rfl ?own (w9.heap.size+1) (some ⟨w9.heap.size,0,none⟩) 1 1 [.int .u8 32] rfl ?rd ?one ?hb ?hbase ?_)
   case own=>exact (HT9.out).alloc _
   case rd=>exact Rd.lit w9 #[.int .u8 32] 5 (sz:=1) (m:=1) rfl
   case one=>first | (intro u hu;simp at hu;subst hu;rfl) | rfl
   case hb=>omega
   case hbase=>first | (simp;omega) | omega
   intro v' w' hown' hgrow' hat';obtain ⟨KA2,kc2,rfl,_⟩:=Rd.own hown';have hcat:Lib.byteCells txt ++ [Value.int .u8 32]=Lib.byteCells (txt ++ [32]):=by rw [Lib.byteCells_append];rfl
   rw [hcat] at hown';rw [own_blk] at hgrow';have HD:=hiD ((Below.refl w9.heap.size w9).alloc (Nat.le_refl _) (.cells #[.int .u8 32] 5));have HBa:=hiD (HB9.out.below HD.out);have HXa:=hiD (HX9.out.move (Mv.below _ HD.out));have HTa:=hiD (HT9.out.move HB9.out.no8 (Mv.below _ HD.out));have hka:Kept (fun i=>blk KA=some i) (w9.alloc (.cells #[.int .u8 32] 5)) w':=Kept.grown (Kept.refl _ _) hgrow' (fun i hi=>.inl hi);have hke:∀ i,blk KA=some i→e0≤i:=fun i hi=>(HTa.out.type hi).choose_spec.2
   have HB10:=hiD (HBa.out.far hka (fun i hi=>Nat.le_trans HE11.out (hke i hi)) (fun i hi=>HTa.out.notR HBa.out.no8 i hi));have HX10:=hiD (HXa.out.far hka (fun hi=>HTa.out.notX HXa.out _ hi (.inl rfl)) (fun i hi hq=>HTa.out.notX HXa.out _ hq (.inr hi)));have HM10:=hiD ((HM9.out.trans (Mv.below _ HD.out)).far hka (fun i hi=>Nat.le_trans HWE.out (hke i hi)));have HP10:=hiD (hka.row (rowCells HP9.out HD.out) (fun hi=>by have:=hke _ hi;have:=HE0.out;omega));have HOA:=hiD hown';have HE8:Hid (e0≤w'.heap.size):=hiD (Nat.le_of_lt HX10.out.row.lt);have HE9:Hid (w0.heap.size≤e0):=hiD (Nat.le_trans HWB.out HWE.out);have HC:=hiD (appendInt_any e0 (txt.length+1) k (by omega) (by omega) _ _ w' hown' HE8.out (by omega) (tab_up HX.out.tab HB10.out.bel HE9.out));clear HD HBa HXa HTa hka hke hown' hgrow' hat' hcat HB9 HX9 HT9 HM9 HP9;go_wp2_with fail;refine HC.out.mono ?_;rintro e w11 ⟨v2,rfl,hown,hb9,ho9⟩;obtain ⟨KA3,kc3,rfl,_⟩:=Rd.own hown;have hk9:=kept_u8 hb9 ho9;have hco:Lib.byteCells (txt ++ [32]) ++ Lib.byteCells (Lib.itoa k)=Lib.byteCells (txt ++ [32] ++ Lib.itoa k):=by rw [Lib.byteCells_append (txt ++ [32])]
   have hle:txt.length+1+(Lib.itoa k).length=(txt ++ [32] ++ Lib.itoa k).length:=by simp;omega
   rw [hco,hle,← HKS.out] at hown;rw [hle,← HKS.out];have HB11':=hiD (HB10.out.u8 hk9 HE11.out);have HX11:=hiD (HX10.out.u8 hk9);have HM11:=hiD (HM10.out.u8 hk9 HWE.out);have HP11:=hiD (hk9.row HP10.out (fun hi=>by have:=hi.1;have:=HE0.out;omega));have HO11:=hiD hown
   have HK11:Hid ((KU.keyB ((L:Int)+1) (next ++ [k])).length≤1+22 * (next ++ [k]).length):=hiD (by
    have:=Lib.itoa_length_le k (by omega) (by omega)
    rw [HKS.out,← hle,hlen2];omega)
   clear HC hown hb9 ho9 hk9 hco hle HB10 HX10 HM10 HP10 HOA HE8;go_wp2;go_roundg (S - (j+1))
   case measure=>omega
   case rel=>
    refine ⟨j+1,⟨NA,nc,sl⟩,KA3,XA2,kc3,xc2,by omega,by omega,by go_num,?_,?_⟩
    ·rw [HQS.out]
    ·rw [HQS.out];exact ⟨HB11'.out,HM11.out,HX11.out,HO11.out,HP11.out,HN8.out,HK11.out⟩
  ·obtain rfl:j=S:=by omega
   have hltz:¬ (j:Int) < (j:Int):=by omega
   have HRES:=hiD (loopU_res HX.out.hyp hl HK.out HU.out (Nat.le_refl j));revert HE HV HRES;generalize loopU j ln step fin L s (a:Int) bt j=q;obtain ⟨next,b1⟩:=q;intro HE HV HRES;dsimp only at HV HRES;obtain ⟨NA,nc,sl⟩:=p1;have HBr:=hiD HV.out.b;have HXr:=hiD HV.out.x;have HTr:=hiD HV.out.k;have HMr:=hiD HV.out.m;have HPr:=hiD HV.out.pl;have HNr:=hiD HV.out.pn;have HKL:=hiD HV.out.kl;have HWE:Hid (w.heap.size≤e0):=hiD (Nat.le_of_lt HE0.out);clear HV;have HF:=hiD (KU.idsB_key HRES.out.ok.ok (lev:=(L:Int)+1) (next:=next) (by omega) (fun k hk=>(HRES.out.nn k hk).1))
   have hkey:keyOf Tryz.prog 9 (KU.keyVB ((L:Int)+1) next)=some (.string (KT.mkS (KU.keyB ((L:Int)+1) next)).data.toList):=Go.WideMaps.keyOf_string_mk Tryz.underlying9 (by
    have h1:=HKL.out;have h2:=HRES.out.nl;dsimp only at h1 h2;show (KT.mkS _).size≤_;unfold KT.mkS ByteArray.size
    simp
    unfold maxLen
    omega)
   dsimp only at HKL HF;have hcv:=conv_txt wr HTr.out rfl;have hlk:=HBr.out.mp.lookup string_keyedK Tryz.underlying120 (Tryz.zeroValue3 wr) hkey;rw [HF.out] at hlk;unfold KU.keyVB at hlk hkey;dsimp only at hlk hcv;have HKEY:=hiD hkey;clear hkey;have q9:=HBr.out.box.q9.cell 0;have q9l:=HBr.out.box.q9.lt;dsimp only [UEnv.vf] at q9 q9l;simp only [List.getElem?_cons_zero] at q9
   cases hf:KT.findNd b1.ns ((L:Int)+1) next with
   | some i=>
    have HV:Hid (KU.visitT j ln step fin (L+1) s bt=((i:Int),⟨b1.ns,(((a:Int),s),(i:Int)) :: b1.seen⟩)):=hiD (HE.out.trans (by unfold KU.endT;dsimp only;rw [hf]));rw [hf] at hlk;simp only [Option.map_some,Option.getD_some,Option.isSome_some] at hlk;clear hf;go_upto_region 20 with fail;clear q9 q9l;clear hcv hlk;have HPz:=HPr;have qs:=HBr.out.box.q7.cell 0;have qsl:=HBr.out.box.q7.lt;dsimp only at qs qsl;simp only [List.getElem?_cons_zero] at qs;obtain ⟨p0,p1,pl⟩:=HPz.out.cells2
    go_wp2_with (first | (at_mapUpdate;refine wpList_upd rfl (.tmp 97) (.tmp 98) (.tmp 99) rfl HBr.out.ms place_keyed Tryz.underlying152 rfl HPL.out rfl (.int .i64 ((i:Int):Int)) rfl ?_;intro wz hmz hgz;have HMZ:=hiD hmz;have HGZ:=hiD hgz;clear hmz hgz) | fail)
    obtain ⟨hbz,hmvz⟩:=HBr.out.seenUp HGZ.out HMZ.out;have HBZ:=hiD (hbz.congrG (KU.seenF_push b1.seen ((a:Int),s) (i:Int)));have HMV:=hiD (HMr.out.trans hmvz);clear hbz hmvz HGZ HMZ;go_wp2;go_ret;rw [HV.out];exact ⟨⟨⟨NA,nc,sl⟩,rfl,HBZ.out,HMV.out⟩⟩
   | none=>
    have HV:Hid (KU.visitT j ln step fin (L+1) s bt=((b1.ns.length:Int),⟨b1.ns ++ [⟨(L:Int)+1,next⟩],(((a:Int),s),(b1.ns.length:Int)) :: b1.seen⟩)):=hiD (HE.out.trans (by unfold KU.endT;dsimp only;rw [hf]));have HNO:Hid (KU.idsB b1.ns (KU.keyVB ((L:Int)+1) next)=none):=hiD (HF.out.trans (by rw [hf];rfl));rw [hf] at hlk;simp only [Option.map_none,Option.getD_none,Option.isSome_none] at hlk;clear hf;have hns:b1.ns.length≤1000000:=by have h1:=HRES.out.ok.le;have h2:=HX.out.hyp.UM;dsimp only at h1;omega
    have t0:=HBr.out.row.cell 0;have t1:=HBr.out.row.cell 1;have t2:=HBr.out.row.cell 2;have tl:=HBr.out.row.lt;dsimp only [UEnv.cells] at t0 t1 t2 tl;simp only [List.getElem?_cons_zero,List.getElem?_cons_succ] at t0 t1 t2;obtain ⟨x0,x1,xl⟩:=HXr.out.row.cells2;have hbr:b+11≤wr.heap.size:=HBr.out.b11;have HE11:Hid (b+11≤e0):=hiD (by have:=HB11.out;have:=HE0.out;omega);go_upto_region 18 with fail;clear q9 q9l;clear hcv hlk
    go_wp2_with (at_builtin;refine wpList_app rfl (.tmp 88) (.tmp 90) 25 rfl (b+11) 65 (.agg #[.int .i64 0,.slice none 0 0]) 2 32 Tryz.underlying25 node_infoK rfl (by decide) (by decide) (.slice NA b1.ns.length nc) b1.ns.length (nodesCells b1.ns sl) rfl ?own (wr.heap.size+1) (some ⟨wr.heap.size,0,none⟩) 1 1 [.int .i64 ((L:Int)+1),.slice XA next.length xc] rfl ?rd ?one ?hb ?hbase ?_)
    case own=>exact (HBr.out.nown).alloc _
    case rd=>exact Rd.lit wr #[.int .i64 ((L:Int)+1),.slice XA next.length xc] 65 (sz:=2) (m:=1) rfl
    case one=>first | exact nd_oneK _ _ _ _ | exact ⟨rfl,rfl⟩ | rfl
    case hb=>omega
    case hbase=>first | (simp;omega) | omega
    intro v' w' hown' hgrow' hat';obtain ⟨NA2,nc2,rfl,_⟩:=Rd.own hown';rw [own_blk] at hgrow';have HDa:=hiD ((Below.refl wr.heap.size wr).alloc (Nat.le_refl _) (.cells #[.int .i64 ((L:Int)+1),.slice XA next.length xc] 65));have HXa:=hiD (HXr.out.move (Mv.below _ HDa.out));have HBa:=hiD (HBr.out.below HDa.out);have HTa:=hiD (HTr.out.move HBr.out.no8 (Mv.below _ HDa.out));obtain ⟨p1,p2,p3,p4⟩:=HBa.out.pushN (x:=⟨(L:Int)+1,next⟩) (s:=⟨XA,next.length,xc⟩) (fun i hi=>by have:=blk_or hat' i hi;simpa using this) hgrow' hown' (own_base HXa.out.own HE11.out) HXa.out.na;have HB5:=hiD p1;have HM5:=hiD ((HMr.out.trans (Mv.below _ HDa.out)).push p3 p4 (fun k hk=>Nat.le_trans HWE.out (HXa.out.own.lt k (by rw [own_blk];exact hk)).1));have HT5:=hiD (TxSt.far HTa.out p3 (TxSt.notR HTa.out HBa.out.no8));have HP5:=hiD (p3.row (rowCells HPr.out HDa.out) HNr.out)
    have HN5:Hid (¬ (⟨NA2,nc2,sl ++ [⟨XA,next.length,xc⟩]⟩:UPos).R ⟨b,j,LA,ln,lc,ip,cp,ie,ce⟩ w.heap.size):=hiD (fun hr=>by
     rcases p4 w.heap.size (rowCells HPr.out HDa.out).lt hr with q | q
     ·exact HNr.out q
     ·have:=(HXa.out.own.lt _ (by rw [own_blk];exact q)).1;have:=HE0.out
      omega)
    have z2:=p2.cell 2;have zf:=p2.frozen 2;have zl:=p2.lt;dsimp only [UEnv.cells] at z2 zf zl;simp only [List.getElem?_cons_zero,List.getElem?_cons_succ] at z2;dsimp only at HB5 HM5 HT5 HP5;clear p1 p2 p3 p4 hown' hgrow' hat' HXa HDa HBa HTa HXr HTr HBr HMr HPr t0 t1 t2 tl x0 x1 xl;go_upto_region 19 with fail;clear z2 zf zl;revert HB5 HM5 HT5 HP5;generalize w'.setCell ⟨b+5,2,none⟩ (.slice NA2 (b1.ns.length+1) nc2)=w5;intro HB5 HM5 HT5 HP5;have q9:=HB5.out.box.q9.cell 0;have q9l:=HB5.out.box.q9.lt;dsimp only [UEnv.vf] at q9 q9l;simp only [List.getElem?_cons_zero] at q9;have hcv:=conv_txt w5 HT5.out rfl
    try dsimp only at hcv
    go_upto_region 20 with (first | (at_mapUpdate;refine wpList_upd rfl (.tmp 93) (.tmp 95) (.tmp 96) rfl HB5.out.mp string_keyedK Tryz.underlying120 rfl HKEY.out rfl (.int .i64 (b1.ns.length:Int)) rfl ?_;intro w6 hm6 hg6;have HM6:=hiD hm6;have HG6:=hiD hg6;clear hm6 hg6) | fail)
    obtain ⟨hb7,hm7⟩:=HB5.out.mapUp HG6.out HM6.out;have HB7:=hiD (hb7.congrF (KU.idsB_push HNO.out));have HM7:=hiD (HM5.out.trans hm7);have HPz:Hid (Row w6 w.heap.size 155 [.int .i64 (a:Int),.int .i64 s]):=hiD (hm7.kept.row HP5.out HN5.out);clear hb7 hm7 HG6 HM6 HB5 HM5 HT5 HP5 hcv;clear q9 q9l;have qs:=HB7.out.box.q7.cell 0;have qsl:=HB7.out.box.q7.lt;dsimp only at qs qsl;simp only [List.getElem?_cons_zero] at qs;obtain ⟨p0,p1,pl⟩:=HPz.out.cells2
    go_wp2_with (first | (at_mapUpdate;refine wpList_upd rfl (.tmp 97) (.tmp 98) (.tmp 99) rfl HB7.out.ms place_keyed Tryz.underlying152 rfl HPL.out rfl (.int .i64 ((b1.ns.length:Int):Int)) rfl ?_;intro wz hmz hgz;have HMZ:=hiD hmz;have HGZ:=hiD hgz;clear hmz hgz) | fail)
    obtain ⟨hbz,hmvz⟩:=HB7.out.seenUp HGZ.out HMZ.out;have HBZ:=hiD (hbz.congrG (KU.seenF_push b1.seen ((a:Int),s) (b1.ns.length:Int)));have HMV:=hiD (HM7.out.trans hmvz);clear hbz hmvz HGZ HMZ;go_wp2;go_ret;rw [HV.out];exact ⟨⟨⟨NA2,nc2,sl ++ [⟨XA,next.length,xc⟩]⟩,rfl,HBZ.out,HMV.out⟩⟩
theorem visit_any (w0:World) (E:UEnv) (step:Int→Int→Int→Int) (fin:Int→Int) (K:Nat→Int→Prop) (H M:Nat) (Us:List (Int × Int)) (hx:VHyp w0 E step fin K H M Us):∀ (L a:Nat) (s:Int) (bt:KU.TB) (p:UPos) (w:World),a+L=H→K a s→KU.UOk E.S M Us bt→USt w0 E p bt.ns (KU.idsB bt.ns) (KU.seenF bt.seen) w →
 Calls Tryz.prog 90 #[.agg #[.int .i64 (a:Int),.int .i64 s],.pointer (some ⟨E.b+1,0,none⟩),.pointer (some ⟨E.b+3,0,none⟩),.pointer (some ⟨E.b+7,0,none⟩),.pointer (some ⟨E.b,0,none⟩),.pointer (some ⟨E.b+10,0,none⟩),.pointer (some ⟨E.b+2,0,none⟩),.pointer (some ⟨E.b+9,0,none⟩),.pointer (some ⟨E.b+5,0,none⟩)] w (VPost w0 E p (KU.visitT E.S H step fin L s bt) w)
 | 0,a,s,bt,p,w,hl,hk,hu,h=>by
  obtain rfl:a=H:=by omega
  exact visit_zero w0 E step fin K a M Us hx s bt p w hk h
 | L+1,a,s,bt,p,w,hl,hk,hu,h=>visit_succ w0 E step fin K H M Us hx L (visit_any w0 E step fin K H M Us hx L) a s bt p w hl hk hu h
end Go.Proofs.YtbijfnbelkbofaaGreatDoor
